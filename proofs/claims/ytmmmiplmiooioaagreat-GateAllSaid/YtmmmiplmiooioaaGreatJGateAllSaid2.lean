/-
  GateAllSaid: part 2 of its proof.
-/
import Derived.Test.YtmmmiplmiooioaaGreatJGateAllSaid1
import Derived.Laws.Rows
import Derived.Laws.Cells
import Derived.Deep.WholeRow
import Derived.ProofKit
import Derived.Deep.MidRow
import Derived.Deep.DeepCutAuto
namespace Kv
open Go.RowKit (wrap64)
inductive GB | r1 | r2 (p:Int) | w1 (p:Int) | w2 (p:Int) | w3 (p c:Int) | s (p:Int)
inductive GO | a | g | b (p:Int)
abbrev GP:=OP (Option Int) GB GO
def gaM (n me:Nat):OM (Option Int) GB GO where
 base:=0
 n:=n
 me:=me
 enter:=fun
  | none=>.r1
  | some p=>.s p
 body:=fun
  | .r1=>.rd ((n:Int)+1) fun p=>.inl (.r2 p)
  | .r2 p=>.rd (n:Int) fun c=>if (n:Int)<=wrap64 (c+1) then .inl (.w1 p) else .inl (.w3 p c)
  | .w1 p=>.wr (n:Int) 0 (.inl (.w2 p))
  | .w2 p=>.wr ((n:Int)+1) (wrap64 (1-p)) (.inr .a)
  | .w3 p c=>.wr (n:Int) (wrap64 (c+1)) (.inr (.b p))
  | .s p=>.rd ((n:Int)+1) fun v=>if v=p then .inr (.b p) else .inr .g
 aft:=fun
  | .b p=>some (some p)
  | _=>none
 sets:=fun _=>none
 val:=fun
  | .a=>1
  | _=>0
def GP.arr:GP->Bool
 | .b (.s _)=>true
 | .b _=>false
 | .o _=>true
 | .e _=>false
 | p=>match p.ctx? with
   | some (some _)=>true
   | _=>false
theorem arr_ctx {p:GP}{c:Option Int}(h:p.ctx?=some c):GP.arr p=c.isSome:=by
 cases p <;> first | (cases h;done) | (cases h;cases c <;> rfl)
def gsay (n:Nat) (G r:Nat) (C:Int):GP->Prop
 | .b .r1=>True
 | .b (.r2 p)=>p=((G % 2:Nat):Int)
 | .b (.w1 p)=>p=((G % 2:Nat):Int)
 | .b (.w2 p)=>p=((G % 2:Nat):Int)
 | .b (.w3 p c)=>p=((G % 2:Nat):Int)/\c=C/\C+1<n
 | .b (.s p)=>p=((r % 2:Nat):Int)
 | .o .a=>G=r+1
 | .o .g=>G=r+1
 | .o (.b p)=>p=((r % 2:Nat):Int)
 | .e _=>False
 | p=>∀ q,p.ctx?=some (some q)->q=((r % 2:Nat):Int)
theorem gsay_ctx {n G r:Nat}{C:Int}{p:GP}{c:Option Int}(h:p.ctx?=some c):gsay n G r C p↔∀ q,c=some q->q=((r % 2:Nat):Int):=by
 cases p <;> first | (simp only [OP.ctx?,Option.some.injEq] at h;subst h;simp [gsay,OP.ctx?]) | (cases h)
def gwait (G:Nat) (pc:Nat->GP) (r:Nat->Nat) (t:Nat):Bool:=GP.arr (pc t)&&decide (G=r t)
structure GaS (n:Nat) (pc:Nat->GP) (r:Nat->Nat) (G L:Nat) (F:Nat->Int) (C P:Int):Prop where
 n8:n<=8
 ok:BOk n pc F
 gen:∀ t,t<n->G=r t∨GP.arr (pc t)=true/\G=r t+1
 say:∀ t,t<n->gsay n G (r t) C (pc t)
 ph:P=((G % 2:Nat):Int)
 cC:(∀ t p,t<n->pc t≠.b (.w2 p))->C=((cnt (gwait G pc r) n:Nat):Int)
 cW:∀ t p,t<n->(pc t=.b (.w1 p)∨pc t=.b (.w2 p))->∀ s,s<n->s≠t->gwait G pc r s=true
 c2:∀ t p,t<n->pc t=.b (.w2 p)->C=0
 la:∀ t,t<n->pc t=.o .a->L+1<=G
 lb:L<=G
structure GaC (n:Nat) (M:List Int) (F:Nat->Int) (C P:Int):Prop where
 len:M.length=n+2
 fl:∀ t,t<n->M[t]?=some (F t)
 mc:M[n]?=some C
 mp:M[n+1]?=some P
section
variable {n t G L:Nat} {pc:Nat->GP} {r:Nat->Nat} {F F':Nat->Int} {C P:Int} {M:List Int}
theorem GaS.init (n:Nat)(hn:n<=8):GaS n (fun _=>.st none) (fun _=>0) 0 0 (fun _=>0) 0 0 :=
 ⟨hn,.init n fun _=>none,fun _ _=>.inl rfl,fun _ _ q h=>(nomatch h),rfl,fun _=>by rw [cnt_none (p:=gwait 0 (fun _=>(.st none:GP)) fun _=>0) n fun t _=>rfl];rfl,fun _ _ _ h=>by rcases h with h | h <;> exact (nomatch h),fun _ _ _ h=>(nomatch h),fun _ _ h=>(nomatch h),by omega⟩
theorem GaC.init (n:Nat):GaC n (zeros (n+2)) (fun _=>0) 0 0 :=
 ⟨by simp [zeros],fun t ht=>by unfold zeros;rw [List.getElem?_replicate,if_pos (by omega)],by unfold zeros;rw [List.getElem?_replicate,if_pos (by omega)],by unfold zeros;rw [List.getElem?_replicate,if_pos (by omega)]⟩
theorem GaC.flag (h:GaC n M F C P)(ht:t<n)(v:Int):GaC n (M.set t v) (fun r=>if r=t then v else F r) C P:=by
 have hl:=h.len
 refine⟨by rw [List.length_set];exact h.len,fun s hs=>?_,by rw [List.getElem?_set_ne (by omega)];exact h.mc,by rw [List.getElem?_set_ne (by omega)];exact h.mp⟩
 by_cases e:s=t
 · subst e
   rw [if_pos rfl,List.getElem?_set_self (by omega)]
 · rw [if_neg e,List.getElem?_set_ne (Ne.symm e)]
   exact h.fl s hs
theorem GaC.cnt (h:GaC n M F C P)(v:Int):GaC n (M.set n v) F v P:=by
 have hl:=h.len
 exact⟨by rw [List.length_set];exact h.len,fun s hs=>by rw [List.getElem?_set_ne (by omega)];exact h.fl s hs,by rw [List.getElem?_set_self (by omega)],by rw [List.getElem?_set_ne (by omega)];exact h.mp⟩
theorem GaC.phase (h:GaC n M F C P)(v:Int):GaC n (M.set (n+1) v) F C v:=by
 have hl:=h.len
 exact⟨by rw [List.length_set];exact h.len,fun s hs=>by rw [List.getElem?_set_ne (by omega)];exact h.fl s hs,by rw [List.getElem?_set_ne (by omega)];exact h.mc,by rw [List.getElem?_set_self (by omega)]⟩
theorem gwait_put {x:GP}(hw:(GP.arr x&&decide (G=r t))=gwait G pc r t):gwait G (putP pc t x) r=gwait G pc r:=funext fun s=>by
 unfold gwait
 by_cases e:s=t
 · subst e;rw [putP_self];exact hw
 · rw [putP_ne e]
theorem GaS.same (h:GaS n pc r G L F C P)(ht:t<n){x:GP}(hok:BOk n (putP pc t x) F')(ha:GP.arr x=GP.arr (pc t))(hsy:gsay n G (r t) C x)(hx:(∀ p,x≠.b (.w1 p))/\(∀ p,x≠.b (.w2 p))/\x≠.o .a)(ht2:∀ p,pc t≠.b (.w2 p)):GaS n (putP pc t x) r G L F' C P:=by
 have hw:gwait G (putP pc t x) r=gwait G pc r:=gwait_put (by rw [ha];rfl)
 refine⟨h.n8,hok,fun s hs=>?_,fun s hs'=>?_,h.ph,fun hn=>?_,fun s p hs' e=>?_,fun s p hs' e=>?_,fun s hs' e=>?_,h.lb⟩
 · by_cases e:s=t
   · subst e;rw [putP_self,ha];exact h.gen s hs
   · rw [putP_ne e];exact h.gen s hs
 · by_cases e:s=t
   · subst e;rw [putP_self];exact hsy
   · rw [putP_ne e];exact h.say s hs'
 · rw [hw]
   refine h.cC fun s p hs' e=>?_
   by_cases e2:s=t
   · subst e2;exact ht2 p e
   · exact hn s p hs' (by rw [putP_ne e2];exact e)
 · rw [hw]
   by_cases e2:s=t
   · subst e2;rw [putP_self] at e;rcases e with e | e
     · exact absurd e (hx.1 p)
     · exact absurd e (hx.2.1 p)
   · rw [putP_ne e2] at e;exact h.cW s p hs' e
 · by_cases e2:s=t
   · subst e2;rw [putP_self] at e;exact absurd e (hx.2.1 p)
   · rw [putP_ne e2] at e;exact h.c2 s p hs' e
 · by_cases e2:s=t
   · subst e2;rw [putP_self] at e;exact absurd e hx.2.2
   · rw [putP_ne e2] at e;exact h.la s hs' e
theorem cnt_but {p:Nat->Bool}:∀ n,n<=cnt p n+1->∀ t,t<n->p t=false->∀ s,s<n->s≠t->p s=true
 | 0,_,_,h,_,_,_,_=>absurd h (by omega)
 | n+1,hc,t,ht,hp,s,hs,hne=>by
   unfold cnt at hc
   by_cases e:n=t
   · subst e
     rw [hp] at hc
     have hc:cnt p n=n:=by have:=cnt_le p n;simp at hc;omega
     exact cnt_all n hc s (by omega)
   · cases hq:p n with
     | true =>
       rw [hq] at hc
       simp at hc
       by_cases e2:s=n
       · rw [e2];exact hq
       · exact cnt_but n (by omega) t (by omega) hp s (by omega) hne
     | false =>
       rw [hq] at hc
       simp at hc
       have h1:=cnt_le p n
       have h2:=cnt_all (p:=p) n (by omega) t (by omega)
       rw [hp] at h2
       cases h2
theorem GaS.done (h:GaS n pc r G L F C P)(ht:t<n)(hok:BOk n (putP pc t (.st none)) F')(hG:G=r t+1)(ht2:∀ p,pc t≠.b (.w2 p)){v:Nat}(hv:v=0∨v=1/\L+1<=G/\∀ s,s<n->s≠t->¬ (pc s).ins):GaS n (putP pc t (.st none)) (fun s=>if s=t then r t+1 else r s) G (L+v) F' C P:=by
 have hw:gwait G (putP pc t (.st none)) (fun s=>if s=t then r t+1 else r s)=gwait G pc r:=funext fun s=>by
  unfold gwait
  dsimp only
  by_cases e:s=t
  · subst e
    simp only [putP_self,↓reduceIte]
    have:decide (G=r s)=false:=by rw [decide_eq_false_iff_not];omega
    rw [this]
    simp [GP.arr,OP.ctx?]
  · simp only [putP_ne e,if_neg e]
 refine⟨h.n8,hok,fun s hs=>?_,fun s hs'=>?_,h.ph,fun hn=>?_,fun s p hs' e=>?_,fun s p hs' e=>?_,fun s hs' e=>?_,?_⟩
 · by_cases e:s=t
   · subst e;rw [if_pos rfl];exact .inl hG
   · rw [putP_ne e,if_neg e];exact h.gen s hs
 · by_cases e:s=t
   · subst e;rw [putP_self,if_pos rfl];intro q e;cases e
   · rw [putP_ne e,if_neg e];exact h.say s hs'
 · rw [hw]
   refine h.cC fun s p hs' e=>?_
   by_cases e2:s=t
   · subst e2;exact ht2 p e
   · exact hn s p hs' (by rw [putP_ne e2];exact e)
 · rw [hw]
   by_cases e2:s=t
   · subst e2;rw [putP_self] at e;rcases e with e | e <;> cases e
   · rw [putP_ne e2] at e;exact h.cW s p hs' e
 · by_cases e2:s=t
   · subst e2;rw [putP_self] at e;cases e
   · rw [putP_ne e2] at e;exact h.c2 s p hs' e
 · by_cases e2:s=t
   · subst e2;rw [putP_self] at e;cases e
   · rw [putP_ne e2] at e
     rcases hv with rfl | ⟨rfl,_,h3⟩
     · exact h.la s hs' e
     · exact absurd (show (pc s).ins by rw [e];trivial) (h3 s hs' e2)
 · have:=h.lb
   rcases hv with rfl | ⟨rfl,h2,_⟩ <;> omega
theorem GaS.came (h:GaS n pc r G L F C P)(ht:t<n)(ans:Nat->List Int)(ha:∀ s,s<n->ans s=[]->pc s=.st none)(hG:G=r t):∀ s,s<n->r t<=r s+(if ans s=[] then 0 else 1):=fun s hs=>by
 rcases h.gen s hs with h1 | ⟨h1,h2⟩
 · omega
 · have:ans s≠[]:=fun e=>by
    rw [ha s hs e] at h1
    cases h1
   rw [if_neg this]
   omega
end
end Kv
namespace Go.Proofs.YtmmmiplmiooioaaGreat
open Go.RowKit Kv
structure GaInv (n D j:Nat) (pc:Nat->GP) (r:Nat->Nat) (G L:Nat) (F:Nat->Int) (C P:Int) (M:List Int) (ans:Nat->List Int):Prop where
 s:GaS n pc r G L F C P
 c:GaC n M F C P
 pos:∀ t,t<n->(ans t).length<=j/\NPos (gaM n t).ask D [] (.st none) (ans t) (pc t)/\(ans t=[]->pc t=.st none)
section
variable {n D j G L:Nat} {pc:Nat->GP} {r:Nat->Nat} {F:Nat->Int} {C P:Int} {M:List Int} {ans:Nat->List Int}
theorem GaInv.start (n D j:Nat)(hn:n<=8)(hD:0<D):GaInv n D j (fun _=>.st none) (fun _=>0) 0 0 (fun _=>0) 0 0 (zeros (n+2)) (fun _=>[]) :=
 ⟨.init n hn,.init n,fun _ _=>⟨by simp,NPos.start hD,fun _=>rfl⟩⟩
theorem GaInv.more (h:GaInv n D j pc r G L F C P M ans):GaInv n D (j+1) pc r G L F C P M ans :=
 ⟨h.s,h.c,fun s hs=>⟨by have:=(h.pos s hs).1;omega,(h.pos s hs).2⟩⟩
def GaNext (n D j:Nat) (r:Nat->Nat) (L:Nat) (M':List Int) (ans:Nat->List Int) (t:Nat) (y:Int):Prop :=
 ∃ pc' G' F' C' P' S2,
  ((treeN (gaM n t).ask D (.st none)).run (TS0 [] (ans t++[y]))=(none,S2)/\GaInv n D (j+1) pc' r G' L F' C' P' M' (fun s=>if s=t then ans t++[y] else ans s)) ∨
  ∃ v:Nat,(treeN (gaM n t).ask D (.st none)).run (TS0 [] (ans t++[y]))=(some (v:Int),S2)/\v<=1/\L+v<=r t+1/\(∀ s,s<n->r t+1<=(if s=t then r t+1 else r s)+(if (if s=t then [] else ans s)=[] then 0 else 1)) /\
   GaInv n D (j+1) pc' (fun s=>if s=t then r t+1 else r s) G' (L+v) F' C' P' M' (fun s=>if s=t then [] else ans s)
theorem GaInv.pick (h:GaInv n D j pc r G L F C P M ans){t:Nat}(ht:t<n)(hj:j+1<D) :
  ∃ (kind:Int) (i:Nat) (u y:Int) (M':List Int) (S1:TS) (l:List Acc),
   (treeN (gaM n t).ask D (.st none)).run (TS0 [] (ans t))=(none,S1)/\S1.acc=l++[⟨kind,i,u⟩]/\l.length=(ans t).length/\i<M.length /\
   (kind=1/\M'=M∨kind=2/\M'=M.set i u)/\M'[i]?=some y/\GaNext n D j r L M' ans t y:=by
 obtain⟨p1,p2,p3⟩:=h.pos t ht
 have hlen:=h.c.len
 have hmore:=h.more.pos
 have n8:=h.s.n8
 have goes:∀ (x:GP) (G':Nat) (F':Nat->Int) (C' P':Int) (M':List Int) (y:Int),(∀ z,x≠.e z)->GaS n (putP pc t x) r G' L F' C' P'->GaC n M' F' C' P'->NPos (gaM n t).ask D [] (.st none) (ans t++[y]) x->GaNext n D j r L M' ans t y:=by
  intro x G' F' C' P' M' y q1 q2 q3 q4
  obtain⟨S2,hr⟩:=q4.more q1
  refine⟨putP pc t x,G',F',C',P',S2,.inl ⟨hr,q2,q3,fun s hs=>?_⟩⟩
  by_cases e:s=t
  · subst e
    rw [if_pos rfl,putP_self]
    exact⟨by simp;omega,q4,fun e=>by simp at e⟩
  · rw [if_neg e,putP_ne e]
    exact hmore s hs
 cases h.s.ok.does (M:=gaM n t) ht rfl with
 | look jj k hjn hk hne hc hok =>
   obtain⟨⟨S1,l,hr,ha,hl⟩,hn⟩:=p2.rd hk
   have hjn:jj<n:=hjn
   have e0:(gaM n t).base+(jj:Int)=jj:=by show (0:Int)+jj=jj;omega
   rw [e0] at ha
   obtain⟨c,hc1,hc2⟩:=hc
   refine⟨1,jj,0,F jj,M,S1,l,hr,ha,hl,by omega,.inl ⟨rfl,rfl⟩,h.c.fl jj hjn,goes _ G F C P M (F jj) (fun x=>(hne x).2) (h.s.same ht hok ?_ ?_ ⟨fun p e=>(hne .a).1 (by rw [e];trivial),fun p e=>(hne .a).1 (by rw [e];trivial),fun e=>(hne .a).1 (by rw [e];trivial)⟩ fun p e=>(ctx_not hc1).1 (by rw [e];trivial)) h.c (hn (F jj) (by omega))⟩
   · rw [arr_ctx hc1,arr_ctx hc2]
   · exact (gsay_ctx hc2).2 ((gsay_ctx hc1).1 (h.s.say t ht))
 | tell v s hv hk hcase hok =>
   obtain⟨⟨S1,l,hr,ha,hl⟩,hn⟩:=p2.wr hk
   have hn:=hn v (by omega)
   have e0:(gaM n t).base+(t:Int)=t:=by show (0:Int)+t=t;omega
   rw [e0] at ha
   refine⟨2,t,v,v,M.set t v,S1,l,hr,ha,hl,by omega,.inr ⟨rfl,rfl⟩,List.getElem?_set_self (by omega),?_⟩
   rcases hcase with⟨⟨c,hc1,hc2⟩,hni⟩ | ⟨y,hy,hs⟩
   · refine goes s G _ C P _ v (ctx_not hc2).2 (h.s.same ht hok ?_ ?_ ⟨fun p e=>hni (by rw [e];trivial),fun p e=>hni (by rw [e];trivial),fun e=>hni (by rw [e];trivial)⟩ fun p e=>(ctx_not hc1).1 (by rw [e];trivial)) (h.c.flag ht v) hn
     · rw [arr_ctx hc1,arr_ctx hc2]
     · exact (gsay_ctx hc2).2 ((gsay_ctx hc1).1 (h.s.say t ht))
   · have hsay:=h.s.say t ht
     rw [hy] at hsay
     have hpast:∀ j,j<n->j≠t->(pc t).past t j:=fun j _ _=>by rw [hy];trivial
     have hnw:∀ p,pc t≠.b (.w2 p):=fun p e=>by rw [hy] at e;cases e
     subst hs
     have fin:∀ (w:Nat),(w=0∨w=1/\L+1<=G/\∀ s,s<n->s≠t->¬ (pc s).ins)->G=r t+1->(∃ S2,(treeN (gaM n t).ask D (.st none)).run (TS0 [] (ans t++[v]))=(some (w:Int),S2))->GaNext n D j r L (M.set t v) ans t v:=by
      intro w hw hG ⟨S2,hr2⟩
      have hok2:BOk n (putP pc t (.st none)) (fun r=>if r=t then v else F r):=h.s.ok.step ht _ (fun s hs=>if_neg hs) (fun q=>q.elim) (fun i _ _ q=>q.elim) trivial
      have h2:=h.s.done ht hok2 hG hnw hw
      have hnew:GaInv n D (j+1) (putP pc t (.st none)) (fun s=>if s=t then r t+1 else r s) G (L+w) (fun r=>if r=t then v else F r) C P (M.set t v) (fun s=>if s=t then [] else ans s):=by
       refine⟨h2,h.c.flag ht v,fun s hs=>?_⟩
       by_cases e:s=t
       · subst e
         rw [if_pos rfl,putP_self]
         exact⟨by simp,NPos.start (by omega),fun _=>rfl⟩
       · rw [if_neg e,putP_ne e]
         exact hmore s hs
      refine⟨_,_,_,_,_,S2,.inr ⟨w,hr2,by rcases hw with e | ⟨e,_⟩ <;> omega,?_,?_,hnew⟩⟩
      · have:=h2.lb
        omega
      · have q:=h2.came ht (fun s=>if s=t then [] else ans s) (fun s hs=>(hnew.pos s hs).2.2) (by rw [if_pos rfl];exact hG)
        simpa using q
     cases y with
     | b p =>
       refine goes (.st (some p)) G _ C P _ v (fun z e=>(nomatch e)) (h.s.same ht hok ?_ ?_ ⟨fun p e=>(nomatch e),fun p e=>(nomatch e),fun e=>(nomatch e)⟩ hnw) (h.c.flag ht v) hn
       · rw [hy];rfl
       · intro q e
         injection e with e
         injection e with e
         rw [<- e]
         exact hsay
     | a =>
       obtain⟨S2,hr2,_⟩:=hn.fin (a:=1) rfl
       exact fin 1 (.inr ⟨rfl,h.s.la t ht hy,fun s hs hne hi=>h.s.ok.alone ht hs (Ne.symm hne) hpast hi⟩) hsay ⟨S2,hr2⟩
     | g =>
       obtain⟨S2,hr2,_⟩:=hn.fin (a:=0) rfl
       exact fin 0 (.inl rfl) hsay ⟨S2,hr2⟩
 | body x hx hk hpast hone =>
   have hpast:∀ j,j<n->j≠t->(pc t).past t j:=hpast
   have hall:∀ s,s<n->s≠t->¬ (pc s).ins:=fun s hs hne hi=>h.s.ok.alone ht hs (Ne.symm hne) hpast hi
   have hnoW:∀ s p,s<n->s≠t->pc s≠.b (.w2 p):=fun s p hs hne e=>hall s hs hne (by rw [e];trivial)
   have hinner:=h.s.ok.inner (M:=gaM n t) ht hpast hone
   rw [bask_strip] at hk
   have hsay:=h.s.say t ht
   have hgen:=h.s.gen t ht
   have hP:=h.s.ph
   -- who is at its body's beginning
   have first:∀ k,(pc t).ctx?=some k->x=(gaM n t).enter k->(k=none->x=.r1)/\(∀ p,k=some p->x=.s p/\p=((r t % 2:Nat):Int)):=fun k e1 e2 =>
    ⟨fun e=>by subst e;exact e2,fun p e=>by subst e;exact⟨e2,(gsay_ctx e1).1 hsay p rfl⟩⟩
   cases x with
   | r1 =>
     have harr:GP.arr (pc t)=false:=by
      rcases hx with e | ⟨k,e1,e2⟩
      · rw [e];rfl
      · rw [arr_ctx e1]
        cases k with
        | none=>rfl
        | some p=>cases e2
     have hnw:∀ p,pc t≠.b (.w2 p):=fun p e=>by
      rcases hx with e' | ⟨k,e1,e2⟩
      · rw [e] at e';cases e'
      · rw [e] at e1;cases e1
     obtain⟨⟨S1,l,hr,ha,hl⟩,hn⟩:=p2.rd (c:=(n:Int)+1) (k:=fun v=>OM.nxt (κ:=Option Int) (ο:=GO) (.inl (GB.r2 v))) hk
     refine⟨1,n+1,0,P,M,S1,l,hr,ha,hl,by omega,.inl ⟨rfl,rfl⟩,h.c.mp,goes (.b (.r2 P)) G F C P M P (fun z e=>(nomatch e)) (h.s.same ht (hinner (.inl (.r2 P))) ?_ ?_ ⟨fun p e=>(nomatch e),fun p e=>(nomatch e),fun e=>(nomatch e)⟩ hnw) h.c (hn P (by omega))⟩
     · rw [harr];rfl
     · exact hP
   | r2 p =>
     have hpc:pc t=.b (.r2 p):=by
      rcases hx with e | ⟨k,e1,e2⟩
      · exact e
      · cases k <;> cases e2
     rw [hpc] at hsay
     have hsay:p=((G % 2:Nat):Int):=hsay
     have hnw:∀ p,pc t≠.b (.w2 p):=fun p e=>by rw [hpc] at e;cases e
     have hC:=h.s.cC fun s q hs e=>by
      by_cases e2:s=t
      · subst e2;exact hnw q e
      · exact hnoW s q hs e2 e
     have hle:=cnt_le (gwait G pc r) n
     have hwr:wrap64 (C+1)=C+1:=by unfold wrap64;omega
     have hwt:gwait G pc r t=false:=by unfold gwait;rw [hpc];rfl
     obtain⟨⟨S1,l,hr,ha,hl⟩,hn⟩:=p2.rd (c:=(n:Int)) (k:=fun c=>OM.nxt (κ:=Option Int) (ο:=GO) (if (n:Int)<=wrap64 (c+1) then .inl (GB.w1 p) else .inl (GB.w3 p c))) hk
     have hn:=hn C (by omega)
     refine⟨1,n,0,C,M,S1,l,hr,ha,hl,by omega,.inl ⟨rfl,rfl⟩,h.c.mc,?_⟩
     by_cases hge:(n:Int)<=wrap64 (C+1)
     · rw [if_pos hge] at hn
       have hb:=cnt_but n (by omega) t ht hwt
       have hw:gwait G (putP pc t (.b (.w1 p))) r=gwait G pc r:=gwait_put (by rw [hwt];rfl)
       have hok:=hinner (.inl (.w1 p))
       refine goes (.b (.w1 p)) G F C P M C (fun z e=>(nomatch e)) ⟨n8,hok,fun s hs=>?_,fun s hs=>?_,hP,fun _=>by rw [hw];exact hC,fun s q hs e=>?_,fun s q hs e=>?_,fun s hs e=>?_,h.s.lb⟩ h.c hn
       · by_cases e:s=t
         · subst e;rw [putP_self]
           rcases hgen with e | ⟨e,_⟩
           · exact .inl e
           · rw [hpc] at e;cases e
         · rw [putP_ne e];exact h.s.gen s hs
       · by_cases e:s=t
         · subst e;rw [putP_self];exact hsay
         · rw [putP_ne e];exact h.s.say s hs
       · rw [hw]
         by_cases e2:s=t
         · subst e2;exact hb
         · rw [putP_ne e2] at e
           rcases e with e | e
           · exact absurd (show (pc s).ins by rw [e];trivial) (hall s hs e2)
           · exact absurd e (hnoW s q hs e2)
       · by_cases e2:s=t
         · subst e2;rw [putP_self] at e;cases e
         · rw [putP_ne e2] at e;exact absurd e (hnoW s q hs e2)
       · by_cases e2:s=t
         · subst e2;rw [putP_self] at e;cases e
         · rw [putP_ne e2] at e;exact h.s.la s hs e
     · rw [if_neg hge] at hn
       refine goes (.b (.w3 p C)) G F C P M C (fun z e=>(nomatch e)) (h.s.same ht (hinner (.inl (.w3 p C))) ?_ ?_ ⟨fun p e=>(nomatch e),fun p e=>(nomatch e),fun e=>(nomatch e)⟩ hnw) h.c hn
       · rw [hpc];rfl
       · exact⟨hsay,rfl,by omega⟩
   | w1 p =>
     have hpc:pc t=.b (.w1 p):=by
      rcases hx with e | ⟨k,e1,e2⟩
      · exact e
      · cases k <;> cases e2
     rw [hpc] at hsay
     obtain⟨⟨S1,l,hr,ha,hl⟩,hn⟩:=p2.wr (c:=(n:Int)) (u:=0) (s':=OM.nxt (κ:=Option Int) (ο:=GO) (.inl (GB.w2 p))) hk
     have hn:=hn 0 (by omega)
     have hb:=h.s.cW t p ht (.inl hpc)
     have hw:gwait G (putP pc t (.b (.w2 p))) r=gwait G pc r:=gwait_put (by unfold gwait;rw [hpc];rfl)
     refine⟨2,n,0,0,M.set n 0,S1,l,hr,ha,hl,by omega,.inr ⟨rfl,rfl⟩,List.getElem?_set_self (by omega),?_⟩
     refine goes (.b (.w2 p)) G F 0 P _ 0 (fun z e=>(nomatch e)) ⟨n8,hinner (.inl (.w2 p)),fun s hs=>?_,fun s hs=>?_,hP,fun hno=>absurd (putP_self _ _ _) (hno t p ht),fun s q hs e=>?_,fun s q hs e=>rfl,fun s hs e=>?_,h.s.lb⟩ (h.c.cnt 0) hn
     · by_cases e:s=t
       · subst e;rw [putP_self]
         rcases hgen with e | ⟨e,_⟩
         · exact .inl e
         · rw [hpc] at e;cases e
       · rw [putP_ne e];exact h.s.gen s hs
     · by_cases e:s=t
       · subst e;rw [putP_self];exact hsay
       · rw [putP_ne e]
         have h1:=h.s.say s hs
         have h2:=hall s hs e
         revert h1 h2
         cases pc s <;> intro h1 h2 <;> first | exact h1 | exact absurd trivial h2
     · rw [hw]
       by_cases e2:s=t
       · subst e2;exact hb
       · rw [putP_ne e2] at e
         rcases e with e | e
         · exact absurd (show (pc s).ins by rw [e];trivial) (hall s hs e2)
         · exact absurd e (hnoW s q hs e2)
     · by_cases e2:s=t
       · subst e2;rw [putP_self] at e;cases e
       · rw [putP_ne e2] at e;exact h.s.la s hs e
   | w2 p =>
     have hpc:pc t=.b (.w2 p):=by
      rcases hx with e | ⟨k,e1,e2⟩
      · exact e
      · cases k <;> cases e2
     rw [hpc] at hsay
     have hsay:p=((G % 2:Nat):Int):=hsay
     have hG:G=r t:=by
      rcases hgen with e | ⟨e,_⟩
      · exact e
      · rw [hpc] at e;cases e
     obtain⟨⟨S1,l,hr,ha,hl⟩,hn⟩:=p2.wr (c:=(n:Int)+1) (u:=wrap64 (1-p)) (s':=OM.nxt (κ:=Option Int) (β:=GB) (.inr GO.a)) hk
     have hwr:wrap64 (1-p)=(((G+1) % 2:Nat):Int):=by unfold wrap64;omega
     rw [hwr] at ha
     have hn:=hn (((G+1) % 2:Nat):Int) (by omega)
     have hb:=h.s.cW t p ht (.inr hpc)
     have hC:=h.s.c2 t p ht hpc
     have hs':∀ s,s<n->s≠t->GP.arr (pc s)=true/\G=r s:=fun s hs hne=>by
      have:=hb s hs hne
      unfold gwait at this
      rw [Bool.and_eq_true,decide_eq_true_eq] at this
      exact this
     have hno:∀ s,s<n->gwait (G+1) (putP pc t (.o .a)) r s=false:=fun s hs=>by
      unfold gwait
      rw [show decide (G+1=r s)=false from by
       rw [decide_eq_false_iff_not]
       by_cases e:s=t
       · subst e;omega
       · have:=(hs' s hs e).2;omega]
      simp
     refine⟨2,n+1,_,(((G+1) % 2:Nat):Int),M.set (n+1) (((G+1) % 2:Nat):Int),S1,l,hr,ha,hl,by omega,.inr ⟨rfl,rfl⟩,List.getElem?_set_self (by omega),?_⟩
     refine goes (.o .a) (G+1) F C _ _ _ (fun z e=>(nomatch e)) ⟨n8,hinner (.inr .a),fun s hs=>?_,fun s hs=>?_,rfl,fun _=>?_,fun s q hs e=>?_,fun s q hs e=>?_,fun s hs e=>by have:=h.s.lb;omega,by have:=h.s.lb;omega⟩ (h.c.phase _) hn
     · by_cases e:s=t
       · subst e;rw [putP_self];exact .inr ⟨rfl,by omega⟩
       · rw [putP_ne e]
         have:=hs' s hs e
         exact .inr ⟨this.1,by omega⟩
     · by_cases e:s=t
       · subst e;rw [putP_self];show G+1=r s+1;omega
       · rw [putP_ne e]
         have h1:=h.s.say s hs
         have h2:=hall s hs e
         revert h1 h2
         cases pc s <;> intro h1 h2 <;> first | exact h1 | exact absurd trivial h2
     · rw [cnt_none n hno,hC];rfl
     · by_cases e2:s=t
       · subst e2;rw [putP_self] at e;rcases e with e | e <;> cases e
       · rw [putP_ne e2] at e
         rcases e with e | e
         · exact absurd (show (pc s).ins by rw [e];trivial) (hall s hs e2)
         · exact absurd e (hnoW s q hs e2)
     · by_cases e2:s=t
       · subst e2;rw [putP_self] at e;cases e
       · rw [putP_ne e2] at e;exact absurd e (hnoW s q hs e2)
   | w3 p c =>
     have hpc:pc t=.b (.w3 p c):=by
      rcases hx with e | ⟨k,e1,e2⟩
      · exact e
      · cases k <;> cases e2
     rw [hpc] at hsay
     obtain⟨hp,hc,hC1⟩:p=((G % 2:Nat):Int)/\c=C/\C+1<n:=hsay
     subst hc
     have hG:G=r t:=by
      rcases hgen with e | ⟨e,_⟩
      · exact e
      · rw [hpc] at e;cases e
     have hnw:∀ p,pc t≠.b (.w2 p):=fun p e=>by rw [hpc] at e;cases e
     have hC:=h.s.cC fun s q hs e=>by
      by_cases e2:s=t
      · subst e2;exact hnw q e
      · exact hnoW s q hs e2 e
     have hwr:wrap64 (c+1)=c+1:=by unfold wrap64;omega
     obtain⟨⟨S1,l,hr,ha,hl⟩,hn⟩:=p2.wr (c:=(n:Int)) (u:=wrap64 (c+1)) (s':=OM.nxt (κ:=Option Int) (β:=GB) (.inr (GO.b p))) hk
     rw [hwr] at ha
     have hn:=hn (c+1) (by omega)
     refine⟨2,n,_,c+1,M.set n (c+1),S1,l,hr,ha,hl,by omega,.inr ⟨rfl,rfl⟩,List.getElem?_set_self (by omega),?_⟩
     have hmore1:cnt (gwait G (putP pc t (.o (.b p))) r) n=cnt (gwait G pc r) n+1:=by
      refine cnt_more (s:=t) n ht ?_ ?_ fun s _ hne=>?_
      · unfold gwait;rw [hpc];rfl
      · unfold gwait;rw [putP_self];simp [GP.arr,hG]
      · unfold gwait;rw [putP_ne hne]
     refine goes (.o (.b p)) G F (c+1) P _ _ (fun z e=>(nomatch e)) ⟨n8,hinner (.inr (.b p)),fun s hs=>?_,fun s hs=>?_,hP,fun _=>by rw [hmore1];omega,fun s q hs e=>?_,fun s q hs e=>?_,fun s hs e=>?_,h.s.lb⟩ (h.c.cnt _) hn
     · by_cases e:s=t
       · subst e;exact .inl hG
       · rw [putP_ne e];exact h.s.gen s hs
     · by_cases e:s=t
       · subst e;rw [putP_self];show p=((r s % 2:Nat):Int);rw [<- hG];exact hp
       · rw [putP_ne e]
         have h1:=h.s.say s hs
         have h2:=hall s hs e
         revert h1 h2
         cases pc s <;> intro h1 h2 <;> first | exact h1 | exact absurd trivial h2
     · by_cases e2:s=t
       · subst e2;rw [putP_self] at e;rcases e with e | e <;> cases e
       · rw [putP_ne e2] at e
         rcases e with e | e
         · exact absurd (show (pc s).ins by rw [e];trivial) (hall s hs e2)
         · exact absurd e (hnoW s q hs e2)
     · by_cases e2:s=t
       · subst e2;rw [putP_self] at e;cases e
       · rw [putP_ne e2] at e;exact absurd e (hnoW s q hs e2)
     · by_cases e2:s=t
       · subst e2;rw [putP_self] at e;cases e
       · rw [putP_ne e2] at e;exact h.s.la s hs e
   | s p =>
     have hq:GP.arr (pc t)=true/\p=((r t % 2:Nat):Int)/\∀ p,pc t≠.b (.w2 p):=by
      rcases hx with e | ⟨k,e1,e2⟩
      · rw [e] at hsay ⊢
        exact⟨rfl,hsay,fun p e=>(nomatch e)⟩
      · cases k with
        | none=>cases e2
        | some q =>
          obtain⟨h1,h2⟩:=(first _ e1 e2).2 q rfl
          injection h1 with h1
          refine⟨by rw [arr_ctx e1];rfl,by rw [h1];exact h2,fun p e=>by rw [e] at e1;cases e1⟩
     obtain⟨harr,hp,hnw⟩:=hq
     obtain⟨⟨S1,l,hr,ha,hl⟩,hn⟩:=p2.rd (c:=(n:Int)+1) (k:=fun v=>OM.nxt (κ:=Option Int) (β:=GB) (if v=p then .inr (GO.b p) else .inr GO.g)) hk
     have hn:=hn P (by omega)
     refine⟨1,n+1,0,P,M,S1,l,hr,ha,hl,by omega,.inl ⟨rfl,rfl⟩,h.c.mp,?_⟩
     by_cases he:P=p
     · rw [if_pos he] at hn
       refine goes (.o (.b p)) G F C P M P (fun z e=>(nomatch e)) (h.s.same ht (hinner (.inr (.b p))) ?_ hp ⟨fun p e=>(nomatch e),fun p e=>(nomatch e),fun e=>(nomatch e)⟩ hnw) h.c hn
       rw [harr];rfl
     · rw [if_neg he] at hn
       refine goes (.o .g) G F C P M P (fun z e=>(nomatch e)) (h.s.same ht (hinner (.inr .g)) ?_ ?_ ⟨fun p e=>(nomatch e),fun p e=>(nomatch e),fun e=>(nomatch e)⟩ hnw) h.c hn
       · rw [harr];rfl
       · show G=r t+1
         rcases hgen with e | ⟨_,e⟩
         · rw [hP,hp,e] at he;exact absurd rfl he
         · exact e
 | done y hy =>
   have:=h.s.say t ht
   rw [hy] at this
   exact this.elim
end
set_option maxRecDepth 100000 in
set_option maxHeartbeats 2000000 in
theorem wait_p (B p n D me:Nat)(S:TS)(w:World)(h:Plays B w p S)(h1:1<=n)(h8:n<=8)(hm:me<n)(hD:S.left<D)(hn0:S.nts.length+10*S.left<=90000) :
  Calls Tryz.prog 16 #[.pointer (some ⟨p,0,none⟩),.agg #[.int .i64 0,.int .i64 0,.int .i64 0,.int .i64 0,.int .i64 0,.int .i64 0,.int .i64 0,.int .i64 0,.int .i64 2,.int .i64 n,.int .i64 1,.int .i64 0,.int .i64 0,.int .i64 1,.int .i64 0,.int .i64 0,.int .i64 0,.int .i64 0,.int .i64 0,.int .i64 0,.int .i64 0,.int .i64 n,.int .i64 0],.int .i64 me] w (Post encI B p w ((treeN (gaM n me).ask D (.st none)).run S)):=by
 generalize hR:Post encI B p w ((treeN (gaM n me).ask D (.st none)).run S)=R
 have hO:Owes R encI B p w ((treeN (gaM n me).ask D (.st none)).run S):=hR▸owes _ _ _ _ _
 clear hR
 obtain⟨b1,hK,hP⟩:=h.entry (.cells #[.int .i64 0,.int .i64 0,.int .i64 0,.int .i64 0,.int .i64 0,.int .i64 0,.int .i64 0,.int .i64 0,.int .i64 2,.int .i64 n,.int .i64 1,.int .i64 0,.int .i64 0,.int .i64 1,.int .i64 0,.int .i64 0,.int .i64 0,.int .i64 0,.int .i64 0,.int .i64 0,.int .i64 0,.int .i64 n,.int .i64 0] 31)
 have c_b1:=b1.cells
 clear h
 rw [in_step _ _ hD] at hO
 have hOh:=Lib.hid hO
 clear hO
 have hwn:=IntWalk.i64_in ((n:Int)+0) (by omega)
 have hwp:=IntWalk.i64_in ((n:Int)+1) (by omega)
 go_enter Tryz.func16,Tryz.ntmps16
 go_wp2_with fail
 generalize w.heap.size=z at *
 generalize World.alloc w _=W0 at *
 clear c_b1
 refine tstepA (notes_in1 D 0 n me (notes_oneA D 0 n me)) hOh.out hK (ob_in B p n D S 1 0 0 1 me _ hP h1 h8 hm (by omega) (by omega) (by omega)) (fun _ h=>⟨rfl,h⟩) ?_
 clear hOh hK hP
 intro u S1 wn hrun hlf hla hnn hP hk hK hO
 replace b1:=b1.keep hk
 have hD1:S1.left<D:=by omega
 have hn1:S1.nts.length+10*S1.left<=90004:=by omega
 clear hk hrun hla
 rw [rd_step (M:=gaM n me) (x:=(gaM n me).enter none) rfl] at hO
 have hOh:=Lib.hid hO
 clear hO
 have c_b1:=b1.cells
 go_wp2_with fail
 clear c_b1
 refine tstepA (notes_rd _) hOh.out hK (read_p B p S1 _ _ hP) (fun _ h=>⟨rfl,h⟩) ?_
 clear hOh hK hP
 intro x S2 wn hrun hlf2 hla hnn2 hP hk hK hO
 have hl2:=hla (asks_rd _)
 replace b1:=b1.keep hk
 have hD2:S2.left<D:=by omega
 have hn2:S2.nts.length+10*S2.left+6<=90000:=by omega
 clear hk hrun hla
 replace hO:Owes R encI B p w ((treeN (gaM n me).ask D (.b (.r2 x))).run S2):=hO
 rw [at_step _ _ hD2,rd_step (M:=gaM n me) (x:=.r2 x) rfl] at hO
 have hOh:=Lib.hid hO
 clear hO
 have c_b1:=b1.cells
 go_wp2_with fail
 clear c_b1
 refine tstepA (notes_rd _) hOh.out hK (read_p B p S2 _ _ hP) (fun _ h=>⟨rfl,h⟩) ?_
 clear hOh hK hP
 intro c S3 wn hrun hlf3 hla hnn3 hP hk hK hO
 have hl3:=hla (asks_rd _)
 replace b1:=b1.keep hk
 have hD3:S3.left<D:=by omega
 have hn3:S3.nts.length+10*S3.left+16<=90000:=by omega
 clear hk hrun hla
 obtain⟨c1,hc1⟩:∃ c1,wrap64 (c+1)=c1:=⟨_,rfl⟩
 have hwc:IntKind.i64.wrap (c+1)=c1:=by rw [<- hc1,IntKind.wrap_i64,wrap64]
 obtain⟨q1,hq1⟩:∃ q1,wrap64 (1-x)=q1:=⟨_,rfl⟩
 have hwq:IntKind.i64.wrap (1-x)=q1:=by rw [<- hq1,IntKind.wrap_i64,wrap64]
 have c_b1:=b1.cells
 by_cases hge:(n:Int)<=c1
 · have dg:decide ((n:Int)<=c1)=true:=by rw [decide_eq_true_eq];exact hge
   have hO2:Owes R encI B p w ((treeN (gaM n me).ask D (.b (.w1 x))).run S3):=by
    have e:OM.nxt (κ:=Option Int) (ο:=GO) (if (n:Int)<=wrap64 (c+1) then .inl (GB.w1 x) else .inl (GB.w3 x c))=.b (.w1 x):=by rw [hc1,if_pos hge];rfl
    rw [<- e]
    exact hO
   rw [at_step _ _ hD3,wr_step (M:=gaM n me) (x:=.w1 x) rfl] at hO2
   have hOh:=Lib.hid hO2
   have hq1h:=Lib.hid hq1
   clear hO hO2 hc1 hge hq1
   go_wp2_with fail
   clear c_b1
   refine tstepA (notes_wr _ _) hOh.out hK (write_p B p S3 _ _ _ hP) (fun _ h=>⟨rfl,h⟩) ?_
   clear hOh hK hP
   intro u S4 wn hrun hlf4 hla hnn4 hP hk hK hO
   replace b1:=b1.keep hk
   have hD4:S4.left<D:=by omega
   have hn4:S4.nts.length<=99999:=by omega
   clear hk hrun hla
   replace hO:Owes R encI B p w ((treeN (gaM n me).ask D (.b (.w2 x))).run S4):=hO
   rw [at_step _ _ hD4,wr_step (M:=gaM n me) (x:=.w2 x) rfl,hq1h.out] at hO
   have hOh:=Lib.hid hO
   clear hO
   have c_b1:=b1.cells
   go_wp2_with fail
   clear c_b1
   refine tstepA (notes_wr _ _) hOh.out hK (write_p B p S4 _ _ _ hP) (fun _ h=>⟨rfl,h⟩) ?_
   clear hOh hK hP
   intro u S5 wn hrun hlf5 hla hnn5 hP hk hK hO
   replace b1:=b1.keep hk
   have hD5:S5.left<D:=by omega
   have hn5:S5.nts.length<=100000:=by omega
   clear hk hrun hla
   replace hO:Owes R encI B p w ((treeN (gaM n me).ask D (.o .a)).run S5):=hO
   rw [out_step _ _ hD5] at hO
   have hOh:=Lib.hid hO
   clear hO
   have c_b1:=b1.cells
   go_wp2_with fail
   clear c_b1
   refine tstepA (notes_oneR _ _) hOh.out hK (ob_out B p n S5 1 0 0 1 me _ hP h8 hm (by omega) hn5) (fun _ h=>⟨rfl,h⟩) ?_
   clear hOh hK hP
   intro u S6 wn hrun hlf6 hla hnn6 hP hk hK hO
   have hD6:S6.left<D:=by omega
   clear hk hrun hla b1
   replace hO:Owes R encI B p w ((treeN (gaM n me).ask D (.e .a)).run S6):=hO
   rw [end_step (M:=gaM n me) (y:=.a) rfl _ hD6] at hO
   have hf:=hO.done hP hK
   clear hO hP hK
   go_wp2_with fail
   first | with_reducible exact hf | (go_simp;exact hf) | (go_ret;exact hf) | (go_ret2;exact hf)
 · have dg:decide ((n:Int)<=c1)=false:=by rw [decide_eq_false_iff_not];exact hge
   have hO2:Owes R encI B p w ((treeN (gaM n me).ask D (.b (.w3 x c))).run S3):=by
    have e:OM.nxt (κ:=Option Int) (ο:=GO) (if (n:Int)<=wrap64 (c+1) then .inl (GB.w1 x) else .inl (GB.w3 x c))=.b (.w3 x c):=by rw [hc1,if_neg hge];rfl
    rw [<- e]
    exact hO
   rw [at_step _ _ hD3,wr_step (M:=gaM n me) (x:=.w3 x c) rfl,hc1] at hO2
   have hOh:=Lib.hid hO2
   clear hO hO2 hc1 hge hq1 hwq
   go_wp2_with fail
   clear c_b1
   refine tstepA (notes_wr _ _) hOh.out hK (write_p B p S3 _ _ _ hP) (fun _ h=>⟨rfl,h⟩) ?_
   clear hOh hK hP
   intro u S4 wn hrun hlf4 hla hnn4 hP hk hK hO
   replace b1:=b1.keep hk
   have hD4:S4.left<D:=by omega
   have hn4:S4.nts.length+10*S4.left+16<=90000:=by omega
   clear hk hrun hla
   replace hO:Owes R encI B p w ((treeN (gaM n me).ask D (.o (.b x))).run S4):=hO
   rw [out_step _ _ hD4] at hO
   have hOh:=Lib.hid hO
   clear hO
   have c_b1:=b1.cells
   go_wp2_with fail
   clear c_b1
   refine tstepA (notes_oneR _ _) hOh.out hK (ob_out B p n S4 1 0 0 1 me _ hP h8 hm (by omega) (by omega)) (fun _ h=>⟨rfl,h⟩) ?_
   clear hOh hK hP
   intro u S5 wn hrun hlf5 hla hnn5 hP hk hK hO
   replace b1:=b1.keep hk
   have hD5:S5.left<D:=by omega
   have hn5:S5.nts.length+10*S5.left<=90000:=by omega
   clear hk hrun hla
   have hOh:Hid (Owes R encI B p w ((treeN (gaM n me).ask D (.st (some x))).run S5)):=hO
   clear hO dg hwc hlf hlf2 hlf3 hlf4 hlf5 hl2 hl3 hnn hnn2 hnn3 hnn4 hnn5 hn1 hn2 hn3 hn4 hD1 hD2 hD3 hD4 hD hn0
   go_wp2_with fail
   go_loopw [] (fun wr'=>∃ (S2:TS),Plays B wr' p S2/\KeepP B p w wr'/\HeldP wr' p z (.cells #[.int .i64 0,.int .i64 0,.int .i64 0,.int .i64 0,.int .i64 0,.int .i64 0,.int .i64 0,.int .i64 0,.int .i64 2,.int .i64 n,.int .i64 1,.int .i64 0,.int .i64 0,.int .i64 1,.int .i64 0,.int .i64 0,.int .i64 0,.int .i64 0,.int .i64 0,.int .i64 0,.int .i64 0,.int .i64 n,.int .i64 0] 31)/\S2.left<D/\S2.nts.length+10*S2.left<=90000/\Hid (Owes R encI B p w ((treeN (gaM n me).ask D (.st (some x))).run S2))) (fun wr'=>leftW 1 3 wr' p)
   case atStart=>exact⟨S5,hP,hK,b1,hD5,hn5,hOh⟩
   case round =>
    clear hP hK b1 hD5 hn5 hOh
    obtain⟨S6,hP,hK,b1,hD,hn0,hO⟩:=hrel
    replace hO:=hO.out
    have hlw:=Lib.hid hP.left
    rw [in_step _ _ hD] at hO
    have hOh:=Lib.hid hO
    clear hO
    have c_b1:=b1.cells
    go_wp2_with fail
    clear c_b1
    refine tstepA (notes_in1 D 0 n me (notes_oneA D 0 n me)) hOh.out hK (ob_in B p n D S6 1 0 0 1 me _ hP h1 h8 hm (by omega) (by omega) (by omega)) (fun _ h=>⟨rfl,h⟩) ?_
    clear hOh hK hP
    intro u S7 wn hrun hlf7 hla hnn7 hP hk hK hO
    replace b1:=b1.keep hk
    have hD7:S7.left<D:=by omega
    have hn7:S7.nts.length+10*S7.left<=90004:=by omega
    clear hk hrun hla
    rw [rd_step (M:=gaM n me) (x:=(gaM n me).enter (some x)) rfl] at hO
    have hOh:=Lib.hid hO
    clear hO
    have c_b1:=b1.cells
    go_wp2_with fail
    clear c_b1
    refine tstepA (notes_rd _) hOh.out hK (read_p B p S7 _ _ hP) (fun _ h=>⟨rfl,h⟩) ?_
    clear hOh hK hP
    intro v S8 wn hrun hlf8 hla hnn8 hP hk hK hO
    have hl8:=hla (asks_rd _)
    replace b1:=b1.keep hk
    have hD8:S8.left<D:=by omega
    have hn8:S8.nts.length+10*S8.left+6<=90000:=by omega
    clear hk hrun hla
    have c_b1:=b1.cells
    by_cases hv:v=x
    · have dv:(v != x)=false:=by simpa using hv
      have hO2:Owes R encI B p w ((treeN (gaM n me).ask D (.o (.b x))).run S8):=by
       have e:OM.nxt (κ:=Option Int) (β:=GB) (if v=x then .inr (GO.b x) else .inr GO.g)=.o (.b x):=by rw [if_pos hv];rfl
       rw [<- e]
       exact hO
      rw [out_step _ _ hD8] at hO2
      have hOh:=Lib.hid hO2
      clear hO hO2 hv
      go_wp2_with fail
      clear c_b1
      refine tstepA (notes_oneR _ _) hOh.out hK (ob_out B p n S8 1 0 0 1 me _ hP h8 hm (by omega) (by omega)) (fun _ h=>⟨rfl,h⟩) ?_
      clear hOh hK hP
      intro u S9 wn hrun hlf9 hla hnn9 hP hk hK hO
      replace b1:=b1.keep hk
      have hD9:S9.left<D:=by omega
      have hn9:S9.nts.length+10*S9.left<=90000:=by omega
      clear hk hrun hla
      have hOh:Hid (Owes R encI B p w ((treeN (gaM n me).ask D (.st (some x))).run S9)):=hO
      have hlw9:=Lib.hid hP.left
      clear hO
      go_wp2_with fail
      refine⟨⟨S9,hP,hK,b1,hD9,hn9,hOh⟩,?_⟩
      rw [hlw.out,hlw9.out]
      omega
    · have dv:(v != x)=true:=by simpa using hv
      have hO2:Owes R encI B p w ((treeN (gaM n me).ask D (.o .g)).run S8):=by
       have e:OM.nxt (κ:=Option Int) (β:=GB) (if v=x then .inr (GO.b x) else .inr GO.g)=.o .g:=by rw [if_neg hv];rfl
       rw [<- e]
       exact hO
      rw [out_step _ _ hD8] at hO2
      have hOh:=Lib.hid hO2
      clear hO hO2 hv
      go_wp2_with fail
      clear c_b1
      refine tstepA (notes_oneR _ _) hOh.out hK (ob_out B p n S8 1 0 0 1 me _ hP h8 hm (by omega) (by omega)) (fun _ h=>⟨rfl,h⟩) ?_
      clear hOh hK hP
      intro u S9 wn hrun hlf9 hla hnn9 hP hk hK hO
      have hD9:S9.left<D:=by omega
      clear hk hrun hla b1
      replace hO:Owes R encI B p w ((treeN (gaM n me).ask D (.e .g)).run S9):=hO
      rw [end_step (M:=gaM n me) (y:=.g) rfl _ hD9] at hO
      have hf:=hO.done hP hK
      clear hO hP hK
      go_wp2_with fail
      first | with_reducible exact hf | (go_simp;exact hf) | (go_ret;exact hf) | (go_ret2;exact hf)
set_option maxRecDepth 100000 in
theorem alloc_obj (w:World)(a:Act)(op:Oper)(h:op.op=.alloc 31):∃ c:Array Value,c.size=23/\(execOp a.eval op).run Tryz.prog w=.ok (.value (.pointer (some ⟨w.heap.size,0,none⟩))) (w.alloc (.cells c 31)):=by
 refine⟨#[.int .i64 0,.int .i64 0,.int .i64 0,.int .i64 0,.int .i64 0,.int .i64 0,.int .i64 0,.int .i64 0,.int .i64 0,.int .i64 0,.int .i64 0,.int .i64 0,.int .i64 0,.int .i64 0,.int .i64 0,.int .i64 0,.int .i64 0,.int .i64 0,.int .i64 0,.int .i64 0,.int .i64 0,.int .i64 0,.int .i64 0],rfl,?_⟩
 unfold execOp
 rw [h]
 go_simp
theorem load_obj {ops:Array Oper}{rest:List Oper}{op0 op:Oper}{a:Act}{w:World}{Q:Exit->Act->World->Prop}(hg0:op0.guard=none)(y:Operand)(ho0:op0.op=.move y)(hgd:op.guard=none)(x:Operand)(ho:op.op=.load 31 x)
  (b:Nat)(hx:(a.put op0.dst (a.eval y)).eval x=.pointer (some ⟨b,0,none⟩)){cs:Array Value}{t:TypeId}{fz:Nat × Nat}(h:w.heap[b]?=some (.cells cs t fz))(hn:cs.size=23)
  (hK:wpList Tryz.prog ops Q rest ((a.put op0.dst (a.eval y)).put op.dst (.agg cs)) w):wpList Tryz.prog ops Q (op0 :: op :: rest) a w:=by
 have hv:(loadVar 31 ⟨b,0,none⟩).run Tryz.prog w=.ok (.agg cs) w:=by
  refine run_loadVar_row _ _ _ _ cs fz _ h Tryz.underlying31 rfl ?_
  rw [hn]
  kernel_rfl
 refine wpList_plain hg0 fun _ hK'=>?_
 unfold Oper.wp execOp
 simp only [ho0,Sem.run_pure]
 refine hK' _ _ ?_
 refine wpList_plain hgd fun _ hK'=>?_
 unfold Oper.wp execOp
 simp only [ho,hx,Instr.loadAt,Instr.sureAddr,Sem.run_bind,Sem.run_pure,Result.andThen_ok,hv]
 exact hK' _ _ hK
theorem new_obj {ops:Array Oper}{rest:List Oper}{op0 op:Oper}{a:Act}{w:World}{Q:Exit->Act->World->Prop}(hg0:op0.guard=none)(ho0:op0.op=.alloc 31)(hgd:op.guard=none)(x y:Operand)(ho:op.op=.store 31 x y)
  (cs:Array Value)(hx:(a.put op0.dst (.pointer (some ⟨w.heap.size,0,none⟩))).eval x=.pointer (some ⟨w.heap.size,0,none⟩))(hy:(a.put op0.dst (.pointer (some ⟨w.heap.size,0,none⟩))).eval y=.agg cs)(hn:cs.size=23)(h1:cs.all (·.oneCell')=true)
  (hK:wpList Tryz.prog ops Q rest ((a.put op0.dst (.pointer (some ⟨w.heap.size,0,none⟩))).put op.dst undef) (w.alloc (.cells cs 31))):wpList Tryz.prog ops Q (op0 :: op :: rest) a w:=by
 obtain⟨c,hc,hal⟩:=alloc_obj w a op0 ho0
 refine wpList_plain hg0 fun _ hK'=>?_
 unfold Oper.wp
 rw [hal]
 refine hK' _ _ ?_
 refine wpList_plain hgd fun _ hK'=>?_
 have hst:=run_storeAt_new (P:=Tryz.prog) w 31 c cs (by rw [hn];kernel_rfl) (by rw [hc,hn]) h1
 unfold Oper.wp execOp
 simp only [ho,hx,hy,Sem.run_bind,hst,Sem.run_pure,Result.andThen_ok]
 exact hK' _ _ hK
theorem heap_setCells_ex (g:Nat)(t:TypeId):∀ (vs:List Value) (o:Nat) (w:World) (cur:Array Value),w.heap[g]?=some (.cells cur t (0,0))->∃ cur',(w.setCells g o vs).heap[g]?=some (.cells cur' t (0,0))/\cur'.size=cur.size
 | [],_,_,cur,h=>⟨cur,h,rfl⟩
 | v :: r,o,w,cur,h=>by
   obtain⟨cur',h1,h2⟩:=heap_setCells_ex g t r (o+1) (w.setCell ⟨g,o,none⟩ v) _ (heap_setCell_same w g o cur t v h)
   exact⟨cur',h1,h2.trans (by simp)⟩
theorem Ext.setCells {w0 w:World}(h:Ext w0 w){g:Nat}(hg:w0.heap.size<=g):∀ (vs:List Value) (o:Nat),Ext w0 (w.setCells g o vs):=by
 intro vs
 induction vs generalizing w with
 | nil=>intro o;exact h
 | cons v r ih=>intro o;exact ih (Below.setCell (p:=⟨g,o,none⟩) h hg v) (o+1)
theorem heap_setCells_all {w:World}{z:Nat}{t:TypeId}{cur:Array Value}(h:w.heap[z]?=some (.cells cur t (0,0)))(vs:List Value)(hl:vs.length=cur.size):(w.setCells z 0 vs).heap[z]?=some (.cells vs.toArray t (0,0)):=by
 obtain⟨cur',h1,h2⟩:=heap_setCells_ex z t vs 0 w cur h
 rw [h1]
 congr 2
 apply Array.ext_getElem?
 intro i
 by_cases hi:i<vs.length
 · have hc:=World.cell?_setCells_in z vs 0 w (fun j hj=>by
    rw [Nat.zero_add,cell_of_heap h]
    have:j<cur.size:=by omega
    simp [this]) i hi
   rw [Nat.zero_add,cell_of_heap h1] at hc
   rw [hc]
   simp [hi]
 · rw [Array.getElem?_eq_none (by omega),Array.getElem?_eq_none (by simpa using hi)]
abbrev obCells (n:Nat):Array Value:=#[.int .i64 0,.int .i64 0,.int .i64 0,.int .i64 0,.int .i64 0,.int .i64 0,.int .i64 0,.int .i64 0,.int .i64 2,.int .i64 n,.int .i64 1,.int .i64 0,.int .i64 0,.int .i64 1,.int .i64 0,.int .i64 0,.int .i64 0,.int .i64 0,.int .i64 0,.int .i64 0,.int .i64 0,.int .i64 n,.int .i64 0]
theorem results_cell8 {fn:Func}{p:Tmp}{ty:TypeId}(h:fn.results=#[.cell p ty])(tmps:Array Value)(P:Program)(w:World) :
  (results fn tmps).run P w=((asAddr (tmps.getD p undef)).run P w).andThen fun a w1=>(loadVar ty a).run P w1:=by
 simp only [results,h]
 simp [Sem.run_bind,Result.andThen]
theorem there_blk8 {w:World}{b:Nat}{cs:Array Value}{t:TypeId}(h:w.heap[b]?=some (.cells cs t (0,0))):w.there b 0 cs.size:=fun j hj=>by
 rw [Nat.zero_add]
 exact⟨by rw [cell_of_heap h];simp [hj],by simp [World.frozen?,h]⟩
@[go_sem] theorem build_thing48 (x:Int) (w:World):(Instr.build 25 #[(4,.int .i64 x)]).run Tryz.prog w=.ok (.agg #[.int .i64 0,.int .i64 0,.int .i64 0,.int .i64 0,.int .i64 x,.int .i64 0,.int .i64 0,.int .i64 0]) w:=run_build w 25 _ _ (by kernel_rfl)
@[go_sem] theorem build_obj358 (x a b c d e f g h:Int) (w:World):(Instr.build 31 #[(0,.agg #[.int .i64 0,.int .i64 0,.int .i64 0,.int .i64 0,.int .i64 x,.int .i64 0,.int .i64 0,.int .i64 0]),(1,.agg #[.int .i64 a,.int .i64 b,.int .i64 c,.int .i64 d,.int .i64 e,.int .i64 f]),(3,.int .i64 g),(4,.int .i64 h)]).run Tryz.prog w=.ok (.agg #[.int .i64 0,.int .i64 0,.int .i64 0,.int .i64 0,.int .i64 x,.int .i64 0,.int .i64 0,.int .i64 0,.int .i64 a,.int .i64 b,.int .i64 c,.int .i64 d,.int .i64 e,.int .i64 f,.int .i64 0,.int .i64 0,.int .i64 0,.int .i64 0,.int .i64 0,.int .i64 0,.int .i64 0,.int .i64 g,.int .i64 h]) w:=run_build w 31 _ _ (by kernel_rfl)
set_option maxRecDepth 100000 in
theorem size8_r (N:Nat)(mode base loc room:Int)(w:World):Calls Tryz.prog 39 #[.agg #[.int .i64 2,.int .i64 N,.int .i64 mode,.int .i64 base,.int .i64 loc,.int .i64 room]] w fun e w'=>e=.returned (.tuple #[.int .i64 N,.int .i64 0])/\Ext w w':=by
 have b1:=Blk.new w (.cells #[.int .i64 2,.int .i64 N,.int .i64 mode,.int .i64 base,.int .i64 loc,.int .i64 room] 27)
 have hX:=(Ext.refl w).alloc (.cells #[.int .i64 2,.int .i64 N,.int .i64 mode,.int .i64 base,.int .i64 loc,.int .i64 room] 27)
 have c_b1:=b1.cells
 go_enter Tryz.func39,Tryz.ntmps39
 go_wp2_with fail
 first | exact⟨rfl,hX⟩ | (go_ret;exact⟨rfl,hX⟩) | (go_ret2;exact⟨rfl,hX⟩)
set_option maxRecDepth 100000 in
theorem put8_r (arg:Int)(N:Nat)(mode base loc room:Int)(w:World) :
  Calls Tryz.prog 8 #[.agg #[.int .i64 2,.int .i64 N,.int .i64 mode,.int .i64 base,.int .i64 loc,.int .i64 room],.int .i64 arg] w fun e w'=>e=.returned (.agg #[.int .i64 0,.int .i64 0,.int .i64 0,.int .i64 0,.int .i64 arg,.int .i64 0,.int .i64 0,.int .i64 0,.int .i64 2,.int .i64 N,.int .i64 mode,.int .i64 0,.int .i64 0,.int .i64 room,.int .i64 0,.int .i64 0,.int .i64 0,.int .i64 0,.int .i64 0,.int .i64 0,.int .i64 0,.int .i64 N,.int .i64 0])/\Ext w w':=by
 have hsz:=fun w=>size8_r N mode 0 0 room w
 have b1:=Blk.new w (.cells #[.int .i64 2,.int .i64 N,.int .i64 mode,.int .i64 0,.int .i64 0,.int .i64 room] 27)
 have hX:=(Ext.refl w).alloc (.cells #[.int .i64 2,.int .i64 N,.int .i64 mode,.int .i64 0,.int .i64 0,.int .i64 room] 27)
 replace b1:=b1.alloc (.cells #[.int .i64 0,.int .i64 0,.int .i64 0,.int .i64 0,.int .i64 0,.int .i64 0,.int .i64 0,.int .i64 0,.int .i64 0,.int .i64 0,.int .i64 0,.int .i64 0,.int .i64 0,.int .i64 0,.int .i64 0,.int .i64 0,.int .i64 0,.int .i64 0,.int .i64 0,.int .i64 0,.int .i64 0,.int .i64 0,.int .i64 0] 31)
 have b2:=Blk.new (w.alloc (.cells #[.int .i64 2,.int .i64 N,.int .i64 mode,.int .i64 0,.int .i64 0,.int .i64 room] 27)) (.cells #[.int .i64 0,.int .i64 0,.int .i64 0,.int .i64 0,.int .i64 0,.int .i64 0,.int .i64 0,.int .i64 0,.int .i64 0,.int .i64 0,.int .i64 0,.int .i64 0,.int .i64 0,.int .i64 0,.int .i64 0,.int .i64 0,.int .i64 0,.int .i64 0,.int .i64 0,.int .i64 0,.int .i64 0,.int .i64 0,.int .i64 0] 31)
 replace hX:=hX.alloc (.cells #[.int .i64 0,.int .i64 0,.int .i64 0,.int .i64 0,.int .i64 0,.int .i64 0,.int .i64 0,.int .i64 0,.int .i64 0,.int .i64 0,.int .i64 0,.int .i64 0,.int .i64 0,.int .i64 0,.int .i64 0,.int .i64 0,.int .i64 0,.int .i64 0,.int .i64 0,.int .i64 0,.int .i64 0,.int .i64 0,.int .i64 0] 31)
 simp only [World.size_alloc] at b2
 go_enter Tryz.func8,Tryz.ntmps8
 go_wp2_with fail
 generalize (World.alloc w (.cells #[.int .i64 2,.int .i64 N,.int .i64 mode,.int .i64 0,.int .i64 0,.int .i64 room] 27)).alloc (.cells #[.int .i64 0,.int .i64 0,.int .i64 0,.int .i64 0,.int .i64 0,.int .i64 0,.int .i64 0,.int .i64 0,.int .i64 0,.int .i64 0,.int .i64 0,.int .i64 0,.int .i64 0,.int .i64 0,.int .i64 0,.int .i64 0,.int .i64 0,.int .i64 0,.int .i64 0,.int .i64 0,.int .i64 0,.int .i64 0,.int .i64 0] 31)=W at *
 refine (hsz _).mono ?_
 rintro e w1 ⟨rfl,hx⟩
 have c_b1:=(b1.ext hx).cells
 replace b2:=b2.ext hx
 replace hX:=hX.trans hx
 clear hx b1 hsz
 go_upto_region 4 with fail
 refine wp_region_lit ?_
 refine wpList_plain rfl fun K hK=>?_
 unfold Oper.wp execOp
 go_simp
 refine hK _ _ ?_
 clear hK K
 refine wpList_plain rfl fun K hK=>?_
 unfold Oper.wp execOp
 go_simp
 refine hK _ _ ?_
 clear hK K
 refine wpList_plain rfl fun K hK=>?_
 unfold Oper.wp execOp
 go_simp
 refine hK _ _ ?_
 clear hK K
 refine wpList_plain rfl fun K hK=>?_
 unfold Oper.wp execOp
 go_simp
 refine hK _ _ ?_
 clear hK K
 refine wpList_plain rfl fun K hK=>?_
 unfold Oper.wp execOp
 go_simp
 refine hK _ _ ?_
 clear hK K
 refine wpList_plain rfl fun K hK=>?_
 unfold Oper.wp execOp
 go_simp
 refine hK _ _ ?_
 clear hK K
 obtain⟨OL,hOL⟩:∃ OL:List Value,OL=[.int .i64 0,.int .i64 0,.int .i64 0,.int .i64 0,.int .i64 arg,.int .i64 0,.int .i64 0,.int .i64 0,.int .i64 2,.int .i64 N,.int .i64 mode,.int .i64 0,.int .i64 0,.int .i64 room,.int .i64 0,.int .i64 0,.int .i64 0,.int .i64 0,.int .i64 0,.int .i64 0,.int .i64 0,.int .i64 N,.int .i64 0]:=⟨_,rfl⟩
 have hst:=there_blk8 b2
 refine wpList_store_mid rfl _ _ _ rfl (w.heap.size+1) 0 OL.toArray rfl (by rw [hOL];rfl) (by rw [hOL];exact hst) (by rw [hOL];kernel_rfl) (by rw [hOL];kernel_rfl) ?_
 have hz:=heap_setCells_all b2 OL (by rw [hOL];rfl)
 have hXs:=hX.setCells (Nat.le_succ w.heap.size) OL 0
 clear hst b2 hX c_b1
 generalize w1.setCells _ _ _=W6 at *
 refine wpList_nil ?_
 have hld:(loadVar 31 ⟨w.heap.size+1,0,none⟩).run Tryz.prog W6=.ok (.agg OL.toArray) W6:=run_loadVar_row _ _ _ _ _ _ _ hz Tryz.underlying31 rfl (by rw [hOL];kernel_rfl)
 rename_i hKK
 refine hKK _ _ ?_
 clear hKK
 refine wp_ret ?_
 refine bodyPost_ret (v:=.agg OL.toArray) ?_ rfl ⟨by rw [hOL],hXs⟩
 rw [results_cell8 (p:=4) (ty:=31) rfl]
 simp [asAddr,Result.andThen,hld,Act.put]
structure BelowX (X:Nat->Prop) (w w':World):Prop where
 os:w'.os=w.os
 tape:w'.tape=w.tape
 output:w'.output=w.output
 size:w.heap.size<=w'.heap.size
 blocks:∀ k,k<w.heap.size->¬ X k->w'.heap[k]?=w.heap[k]?
theorem BelowX.of {X:Nat->Prop}{w w':World}(h:Ext w w'):BelowX X w w':=⟨h.os,h.tape,h.output,h.size,fun k hk _=>h.block k hk⟩
theorem BelowX.refl (X:Nat->Prop)(w:World):BelowX X w w:=BelowX.of (Ext.refl w)
theorem BelowX.trans {X:Nat->Prop}{w w' w'':World}(h:BelowX X w w')(g:BelowX X w' w''):BelowX X w w'' :=
 ⟨g.os.trans h.os,g.tape.trans h.tape,g.output.trans h.output,Nat.le_trans h.size g.size,fun k hk hx=>(g.blocks k (Nat.lt_of_lt_of_le hk h.size) hx).trans (h.blocks k hk hx)⟩
theorem BelowX.set {X:Nat->Prop}{w w':World}(h:BelowX X w w'){b:Nat}(hb:X b)(i:Nat)(v:Value):BelowX X w (w'.setCell ⟨b,i,none⟩ v):=by
 have e:∀ k,k≠b->(w'.setCell ⟨b,i,none⟩ v).heap[k]?=w'.heap[k]?:=fun k hk=>heap_setCell_ne _ _ hk
 exact⟨h.os,h.tape,h.output,by simpa using h.size,fun k hk hx=>(e k (fun hkb=>hx (hkb▸hb))).trans (h.blocks k hk hx)⟩
theorem BelowX.mono {X Y:Nat->Prop}{w w':World}(h:BelowX X w w')(hxy:∀ k,X k->Y k):BelowX Y w w' :=
 ⟨h.os,h.tape,h.output,h.size,fun k hk hx=>h.blocks k hk fun q=>hx (hxy k q)⟩
theorem BelowX.blk {X:Nat->Prop}{w w':World}(h:BelowX X w w'){b:Nat}{o:Obj}(hb:Blk w b o)(hx:¬ X b):Blk w' b o:=(h.blocks b hb.lt hx).trans hb
theorem BelowX.ints {X:Nat->Prop}{w w':World}{v:Value}{l:List Int}(h:BelowX X w w')(hl:Ints w v l)(hx:∀ b,v.ownBlock=some b->¬ X b):Ints w' v l:=by
 obtain⟨A,c,rfl,h1,h2,h3⟩:=hl
 refine⟨A,c,rfl,h1,h2,fun hne=>?_⟩
 obtain⟨b,off,rfl,hb,hc⟩:=h3 hne
 refine⟨b,off,rfl,Nat.lt_of_lt_of_le hb h.size,fun i x hi=>?_⟩
 rw [<- hc i x hi]
 unfold World.cell?
 simp only
 rw [h.blocks b hb (hx b rfl)]
theorem BelowX.grown {X:Nat->Prop}{w w' wr:World}{o:Obj}{row:Option Nat}(h:BelowX X w wr)(hg:(wr.alloc o).grownBy w' row)(hr:∀ b,row=some b->w.heap.size<=b):BelowX X w w':=by
 have h1:=h.trans (BelowX.of ((Ext.refl wr).alloc o))
 exact⟨hg.os.trans h1.os,hg.tape.trans h1.tape,hg.output.trans h1.output,Nat.le_trans h1.size hg.size,fun k hk hx=>(hg.block k (Nat.lt_of_lt_of_le hk h1.size) (fun e=>by have:=hr k e.symm;omega)).trans (h1.blocks k hk hx)⟩
def rowOf (l:List Int):List Value:=l.map (Value.int .i64)
structure ARows (B:Nat) (bs:List Nat) (w:World) (vs:Array Value) (ans:Nat->List Int) (n:Nat):Prop where
 sz:vs.size=n
 ge:B<=w.heap.size
 row:∀ t,t<n->∃ v,vs[t]?=some v/\w.ownsRow B 3 1 v (ans t).length (rowOf (ans t))
 off:∀ (t:Nat) (v:Value) (b:Nat),vs[t]?=some v->v.ownBlock=some b->b ∉ bs
 apart:∀ (t s:Nat) (v u:Value) (b:Nat),t≠s->vs[t]?=some v->vs[s]?=some u->v.ownBlock=some b->u.ownBlock≠some b
section
variable {B n:Nat} {bs:List Nat} {w W:World} {vs:Array Value} {ans:Nat->List Int}
theorem own_ge {v:Value}{k:Nat}{xs:List Value}(h:w.ownsRow B 3 1 v k xs){b:Nat}(hb:v.ownBlock=some b):B<=b/\b<w.heap.size:=by
 rcases h.2 with⟨rfl,_⟩ | ⟨g,cap,cur,rfl,h1,h2,_⟩
 · simp [Value.ownBlock] at hb
 · simp only [Value.ownBlock,Option.some.injEq] at hb
   subst hb
   exact⟨h1,(Array.getElem?_eq_some_iff.1 h2).1⟩
theorem ARows.ints (h:ARows B bs w vs ans n){t:Nat}(ht:t<n):∃ A c,vs[t]?=some (.slice A (ans t).length c)/\Ints w (.slice A (ans t).length c) (ans t)/\w.ownsRow B 3 1 (.slice A (ans t).length c) (ans t).length (rowOf (ans t)):=by
 obtain⟨v,h1,h2⟩:=h.row t ht
 have h3:=IntRow.ints (show IntRow w B v (ans t) from h2)
 obtain⟨A,c,rfl,_⟩:=h3.slice
 exact⟨A,c,h1,h3,h2⟩
theorem ARows.ext (h:ARows B bs w vs ans n)(hx:Ext w W):ARows B bs W vs ans n :=
 { h with
  ge:=Nat.le_trans h.ge hx.size
  row:=fun t ht=>by
   obtain⟨v,h1,h2⟩:=h.row t ht
   exact⟨v,h1,row_ext h2 hx⟩ }
theorem ARows.set (h:ARows B bs w vs ans n){b:Nat}(hb:b∈bs)(i:Nat)(u:Value):ARows B bs (w.setCell ⟨b,i,none⟩ u) vs ans n :=
 { h with
  ge:=by simpa using h.ge
  row:=fun t ht=>by
   obtain⟨v,h1,h2⟩:=h.row t ht
   exact⟨v,h1,row_set h2 fun e=>h.off t v b h1 e hb⟩ }
theorem ARows.more (h:ARows B bs w vs ans n){b:Nat}(hb:w.heap.size<=b):ARows B (b :: bs) w vs ans n :=
 { h with
  off:=fun t v k h1 h2 hk=>by
   have ht:t<n:=by rw [<- h.sz];exact (Array.getElem?_eq_some_iff.1 h1).1
   obtain⟨v',q1,q2⟩:=h.row t ht
   rw [q1] at h1
   injection h1 with h1
   subst h1
   have:=own_ge q2 h2
   rcases List.mem_cons.1 hk with rfl | hk
   · omega
   · exact h.off t _ k q1 h2 hk }
theorem ARows.less {cs:List Nat}(h:ARows B bs w vs ans n)(hc:∀ b∈cs,b∈bs):ARows B cs w vs ans n :=
 { h with off:=fun t v k h1 h2 hk=>h.off t v k h1 h2 (hc k hk) }
theorem ARows.grow (h:ARows B bs w vs ans n){t:Nat}(ht:t<n){v:Value}(hv:vs[t]?=some v){g cap:Nat}{y:Int}
  (hown:W.ownsRow B 3 1 (.slice (some ⟨g,0,none⟩) ((ans t).length+1) cap) ((ans t).length+1) (rowOf (ans t)++[Value.int .i64 y]))(hg:w.grownBy W v.ownBlock)(hat:v.ownBlock=some g∨w.heap.size<=g)(hbs:∀ b∈bs,b<w.heap.size) :
  ARows B bs W (vs.setIfInBounds t (.slice (some ⟨g,0,none⟩) ((ans t).length+1) cap)) (fun s=>if s=t then ans t++[y] else ans s) n:=by
 have hsz:=h.sz
 have fresh:∀ (s:Nat) (u:Value) (b:Nat),vs[s]?=some u->u.ownBlock=some b->B<=b/\b<w.heap.size:=fun s u b h1 h2=>by
  have hs:s<n:=by rw [<- hsz];exact (Array.getElem?_eq_some_iff.1 h1).1
  obtain⟨u',q1,q2⟩:=h.row s hs
  rw [q1] at h1
  injection h1 with h1
  subst h1
  exact own_ge q2 h2
 have other:∀ (s:Nat) (u:Value),s≠t->vs[s]?=some u->u.ownBlock≠some g:=fun s u hs h1 h2=>by
  rcases hat with e | e
  · exact h.apart t s v u g (Ne.symm hs) hv h1 e h2
  · have:=(fresh s u g h1 h2).2
    omega
 have get:∀ s u,(vs.setIfInBounds t (.slice (some ⟨g,0,none⟩) ((ans t).length+1) cap))[s]?=some u->(s=t/\u=.slice (some ⟨g,0,none⟩) ((ans t).length+1) cap)∨(s≠t/\vs[s]?=some u):=fun s u h1=>by
  by_cases e:t=s
  · subst e
    rw [Array.getElem?_setIfInBounds_self_of_lt (by omega)] at h1
    injection h1 with h1
    exact .inl ⟨rfl,h1.symm⟩
  · rw [Array.getElem?_setIfInBounds_ne e] at h1
    exact .inr ⟨Ne.symm e,h1⟩
 refine⟨by simp [hsz],Nat.le_trans h.ge hg.size,fun s hs=>?_,fun s u b h1 h2 hb=>?_,fun s r u u' b hne h1 h1' h2 h2'=>?_⟩
 · by_cases e:s=t
   · subst e
     refine⟨_,Array.getElem?_setIfInBounds_self_of_lt (by omega),?_⟩
     rw [if_pos rfl]
     unfold rowOf at hown ⊢
     rw [List.length_append,List.map_append]
     exact hown
   · obtain⟨u,q1,q2⟩:=h.row s hs
     refine⟨u,by rw [Array.getElem?_setIfInBounds_ne (Ne.symm e)];exact q1,?_⟩
     rw [if_neg e]
     refine q2.kept hg ?_
     cases hu:u.ownBlock with
     | none=>exact .inl rfl
     | some b=>exact .inr fun e2=>h.apart s t u v b e q1 hv hu e2.symm
 · rcases get s u h1 with⟨rfl,rfl⟩ | ⟨hs,h1⟩
   · simp only [Value.ownBlock,Option.some.injEq] at h2
     subst h2
     rcases hat with e | e
     · exact h.off s v g hv e hb
     · have:=hbs g hb
       omega
   · exact h.off s u b h1 h2 hb
 · rcases get s u h1 with⟨rfl,rfl⟩ | ⟨hs,h1⟩
   · simp only [Value.ownBlock,Option.some.injEq] at h2
     subst h2
     rcases get r u' h1' with⟨rfl,_⟩ | ⟨hr,h1'⟩
     · exact hne rfl
     · exact other r u' hr h1' h2'
   · rcases get r u' h1' with⟨hr,rfl⟩ | ⟨hr,h1'⟩
     · simp only [Value.ownBlock,Option.some.injEq] at h2'
       subst h2'
       rename_i hvs
       first | exact other s u (by omega) hvs h2 | exact other s u (by omega) h1 h2
     · exact h.apart s r u u' b hne ‹vs[s]?=some u› h1' h2 h2'
theorem ARows.clear (h:ARows B bs w vs ans n)(t:Nat):ARows B bs w (vs.setIfInBounds t (.slice none 0 0)) (fun s=>if s=t then [] else ans s) n:=by
 have hsz:=h.sz
 have get:∀ s u b,(vs.setIfInBounds t (.slice none 0 0))[s]?=some u->u.ownBlock=some b->s≠t/\vs[s]?=some u:=fun s u b h1 h2=>by
  by_cases e:t=s
  · subst e
    have hl:t<vs.size:=by
     have:=(Array.getElem?_eq_some_iff.1 h1).1
     simpa using this
    rw [Array.getElem?_setIfInBounds_self_of_lt hl] at h1
    injection h1 with h1
    subst h1
    simp [Value.ownBlock] at h2
  · rw [Array.getElem?_setIfInBounds_ne e] at h1
    exact⟨Ne.symm e,h1⟩
 refine⟨by simp [hsz],h.ge,fun s hs=>?_,fun s u b h1 h2=>h.off s u b (get s u b h1 h2).2 h2,fun s r u u' b hne h1 h1' h2 h2'=>h.apart s r u u' b hne (get s u b h1 h2).2 (get r u' b h1' h2').2 h2 h2'⟩
 by_cases e:s=t
 · subst e
   refine⟨.slice none 0 0,Array.getElem?_setIfInBounds_self_of_lt (by omega),?_⟩
   rw [if_pos rfl]
   exact⟨rfl,.inl ⟨rfl,rfl⟩⟩
 · obtain⟨u,q1,q2⟩:=h.row s hs
   refine⟨u,by rw [Array.getElem?_setIfInBounds_ne (Ne.symm e)];exact q1,?_⟩
   rw [if_neg e]
   exact q2
theorem ARows.start (B:Nat)(bs:List Nat)(w:World)(hB:B<=w.heap.size)(n:Nat):ARows B bs w (Array.replicate n (.slice none 0 0)) (fun _=>[]) n:=by
 have get:∀ (s:Nat) u,(Array.replicate n (Value.slice none 0 0))[s]?=some u->u=.slice none 0 0:=fun s u h=>by
  have:=Array.mem_of_getElem? h
  simp at this
  exact this.2
 refine⟨by simp,hB,fun t ht=>⟨.slice none 0 0,by simp [ht],rfl,.inl ⟨rfl,rfl⟩⟩,fun t v b h1 h2=>?_,fun t s v u b _ h1 _ h2=>?_⟩
 · rw [get t v h1] at h2
   simp [Value.ownBlock] at h2
 · rw [get t v h1] at h2
   simp [Value.ownBlock] at h2
end
theorem blk_ne {w:World}{b b' i:Nat}{o:Obj}(h:Blk w b o)(hne:b≠b')(u:Value):Blk (w.setCell ⟨b',i,none⟩ u) b o:=by
 show (w.setCell ⟨b',i,none⟩ u).heap[b]?=_
 rw [heap_setCell_ne _ _ hne]
 exact h
def fours (f:Nat->Int):List Value:=(List.range 4).map fun t=>Value.int .i64 (f t)
theorem fours_at {f:Nat->Int}{t:Nat}(h:t<4):(fours f).toArray[t]?=some (.int .i64 (f t)):=by simp [fours,h]
def putF (f:Nat->Int) (t:Nat) (x:Int):Nat->Int:=fun s=>if s=t then x else f s
theorem fours_put {f:Nat->Int}{t:Nat}{x:Int}(h:t<4):(fours f).toArray.setIfInBounds t (.int .i64 x)=(fours (putF f t x)).toArray:=by
 apply Array.ext_getElem?
 intro i
 by_cases hi:t=i
 · subst hi
   rw [Array.getElem?_setIfInBounds_self_of_lt (by simpa [fours] using h),fours_at h]
   simp [putF]
 · rw [Array.getElem?_setIfInBounds_ne hi]
   by_cases h4:i<4
   · rw [fours_at h4,fours_at h4]
     simp [putF,Ne.symm hi]
   · rw [Array.getElem?_eq_none (by simp [fours];omega),Array.getElem?_eq_none (by simp [fours];omega)]
structure QMem (w0:World) (bn bl bc ba bp:Nat) (on ol:Obj) (wr:World) (M:List Int) (ph:Nat->Int) (ans:Nat->List Int) (vs:Array Value):Prop where
 ext:Ext w0 wr
 kN:Blk wr bn on
 kL:Blk wr bl ol
 kC:Blk wr bc (.cells (M.map (Value.int .i64)).toArray 3)
 kA:Blk wr ba (.cells vs 34)
 kP:Blk wr bp (.cells (fours ph).toArray 35)
 rows:ARows w0.heap.size [bn,bl,bc,ba,bp] wr vs ans 4
 lo:bn<w0.heap.size/\bl<w0.heap.size
 ge:w0.heap.size<=bc/\w0.heap.size<=ba/\w0.heap.size<=bp
 ne:bn≠bl/\bn≠bc/\bn≠ba/\bn≠bp/\bl≠bc/\bl≠ba/\bl≠bp/\bc≠ba/\bc≠bp/\ba≠bp
section
variable {w0 wr W:World} {bn bl bc ba bp:Nat} {on ol:Obj} {M:List Int} {ph:Nat->Int} {ans:Nat->List Int} {vs:Array Value}
theorem QMem.keep (h:QMem w0 bn bl bc ba bp on ol wr M ph ans vs)(hx:Ext wr W):QMem w0 bn bl bc ba bp on ol W M ph ans vs :=
 { h with
  ext:=h.ext.trans hx,kN:=h.kN.ext hx,kL:=h.kL.ext hx,kC:=h.kC.ext hx,kA:=h.kA.ext hx,kP:=h.kP.ext hx,rows:=h.rows.ext hx }
theorem QMem.same (h:QMem w0 bn bl bc ba bp on ol wr M ph ans vs){ph':Nat->Int}(he:∀ t,t<4->ph' t=ph t):QMem w0 bn bl bc ba bp on ol wr M ph' ans vs :=
 { h with
  kP:=by
   have:fours ph'=fours ph:=by
    unfold fours
    refine List.map_congr_left fun t ht=>?_
    rw [he t (by simpa using ht)]
   rw [this]
   exact h.kP }
theorem QMem.clear (h:QMem w0 bn bl bc ba bp on ol wr M ph ans vs)(t:Nat):QMem w0 bn bl bc ba bp on ol (wr.setCell ⟨ba,t,none⟩ (.slice none 0 0)) M ph (fun s=>if s=t then [] else ans s) (vs.setIfInBounds t (.slice none 0 0)):=by
 obtain⟨n1,n2,n3,n4,n5,n6,n7,n8,n9,n10⟩:=h.ne
 exact { h with
  ext:=h.ext.setCell (p:=⟨ba,t,none⟩) h.ge.2.1 _,kN:=blk_ne h.kN n3 _,kL:=blk_ne h.kL n6 _,kC:=blk_ne h.kC n8 _,kP:=blk_ne h.kP (Ne.symm n10) _
  kA:=heap_setCell h.kA _
  rows:=(h.rows.clear t).set (by simp) _ _ }
theorem row_type {w:World}{B k b:Nat}{v:Value}{xs:List Value}{cs:Array Value}{T:TypeId}(h:w.ownsRow B 3 1 v k xs)(hb:Blk w b (.cells cs T))(hT:T≠3):v.ownBlock≠some b:=by
 rcases h.2 with⟨rfl,_⟩ | ⟨g,cap,cur,rfl,h1,h2,_⟩
 · simp [Value.ownBlock]
 · intro e
   simp only [Value.ownBlock,Option.some.injEq] at e
   subst e
   unfold Blk at hb
   rw [h2] at hb
   injection hb with hb
   injection hb with _ hb
   exact hT hb.symm
theorem QMem.far (h:QMem w0 bn bl bc ba bp on ol wr M ph ans vs){bo:Nat}{cs:Array Value}{T:TypeId}(hb:Blk wr bo (.cells cs T))(hT:T≠3)(hg:bc<bo/\ba<bo/\bp<bo){W:World}(hk:∀ b,b≠bo->W.heap[b]?=wr.heap[b]?)(hx:Ext w0 W):QMem w0 bn bl bc ba bp on ol W M ph ans vs:=by
 have g:=h.ge
 have l:=h.lo
 have hl:=hb.lt
 have keep:∀ {b:Nat} {o:Obj},Blk wr b o->b≠bo->Blk W b o:=fun h1 h2=>(hk _ h2).trans h1
 refine { h with ext:=hx,kN:=keep h.kN (by omega),kL:=keep h.kL (by omega),kC:=keep h.kC (by omega),kA:=keep h.kA (by omega),kP:=keep h.kP (by omega),rows:={ h.rows with ge:=hx.size,row:=fun t ht=>?_ } }
 obtain⟨v,q1,q2⟩:=h.rows.row t ht
 have hne:=row_type q2 hb hT
 refine⟨v,q1,?_⟩
 rcases q2.2 with⟨rfl,q3⟩ | ⟨g,cap,cur,rfl,q3,q4,q5⟩
 · exact⟨q2.1,.inl ⟨rfl,q3⟩⟩
 · refine⟨q2.1,.inr ⟨g,cap,cur,rfl,q3,?_,q5⟩⟩
   rw [hk g (fun e=>hne (by simp [Value.ownBlock,e]))]
   exact q4
theorem QMem.grow (h:QMem w0 bn bl bc ba bp on ol wr M ph ans vs){t:Nat}(ht:t<4){v:Value}(hv:vs[t]?=some v){g cap:Nat}{y:Int}
  (hown:W.ownsRow w0.heap.size 3 1 (.slice (some ⟨g,0,none⟩) ((ans t).length+1) cap) ((ans t).length+1) (rowOf (ans t)++[Value.int .i64 y]))(hg:wr.grownBy W v.ownBlock)(hat:v.ownBlock=some g∨wr.heap.size<=g) :
  QMem w0 bn bl bc ba bp on ol (W.setCell ⟨ba,t,none⟩ (.slice (some ⟨g,0,none⟩) ((ans t).length+1) cap)) M ph (fun s=>if s=t then ans t++[y] else ans s) (vs.setIfInBounds t (.slice (some ⟨g,0,none⟩) ((ans t).length+1) cap)):=by
 obtain⟨n1,n2,n3,n4,n5,n6,n7,n8,n9,n10⟩:=h.ne
 have hoff:∀ b,b∈[bn,bl,bc,ba,bp]->v.ownBlock≠some b:=fun b hb e=>h.rows.off t v b hv e hb
 have kept:∀ {b:Nat} {o:Obj},Blk wr b o->b∈[bn,bl,bc,ba,bp]->Blk W b o:=fun hb hm=>grown_heap hb (hoff _ hm) hg
 have hrows:=h.rows.grow ht hv hown hg hat (fun b hb=>by
  simp only [List.mem_cons,List.not_mem_nil,or_false] at hb
  rcases hb with rfl | rfl | rfl | rfl | rfl
  · exact h.kN.lt
  · exact h.kL.lt
  · exact h.kC.lt
  · exact h.kA.lt
  · exact h.kP.lt)
 have hx:Ext w0 W:=by
  have he:=h.ext
  refine⟨hg.os.trans he.os,hg.tape.trans he.tape,hg.output.trans he.output,Nat.le_trans he.size hg.size,fun k hk=>?_⟩
  refine (hg.block k (Nat.lt_of_lt_of_le hk he.size) fun e=>?_).trans (he.block k hk)
  obtain⟨v',q1,q2⟩:=h.rows.row t ht
  rw [hv] at q1
  injection q1 with q1
  subst q1
  have:=(own_ge q2 e.symm).1
  omega
 exact⟨hx.setCell (p:=⟨ba,t,none⟩) h.ge.2.1 _,blk_ne (kept h.kN (by simp)) n3 _,blk_ne (kept h.kL (by simp)) n6 _,blk_ne (kept h.kC (by simp)) n8 _,heap_setCell (kept h.kA (by simp)) _,blk_ne (kept h.kP (by simp)) (Ne.symm n10) _,hrows.set (by simp) _ _,h.lo,h.ge,h.ne⟩
end
abbrev Blocks:=List (Nat × Obj)
structure WMem (w0:World) (fx:Blocks) (ba:Nat) (wr:World) (ans:Nat->List Int) (vs:Array Value):Prop where
 ext:Ext w0 wr
 fix:∀ q,q∈fx->Blk wr q.1 q.2
 kA:Blk wr ba (.cells vs 34)
 rows:ARows w0.heap.size (ba :: fx.map Prod.fst) wr vs ans 4
 ge:w0.heap.size<=ba
 nd:(ba :: fx.map Prod.fst).Nodup
section
variable {w0 wr W:World} {fx f1 f2:Blocks} {ba:Nat} {ans:Nat->List Int} {vs:Array Value}
theorem WMem.keep (h:WMem w0 fx ba wr ans vs)(hx:Ext wr W):WMem w0 fx ba W ans vs :=
 { h with ext:=h.ext.trans hx,fix:=fun q hq=>(h.fix q hq).ext hx,kA:=h.kA.ext hx,rows:=h.rows.ext hx }
theorem WMem.at_ (h:WMem w0 fx ba wr ans vs)(k:Nat){q:Nat × Obj}(hk:fx[k]?=some q):Blk wr q.1 q.2:=h.fix q (List.mem_of_getElem? hk)
theorem WMem.lt (h:WMem w0 fx ba wr ans vs){b:Nat}(hb:b∈ba :: fx.map Prod.fst):b<wr.heap.size:=by
 rcases List.mem_cons.1 hb with rfl | hb
 · exact h.kA.lt
 · obtain⟨q,hq,rfl⟩:=List.mem_map.1 hb
   exact (h.fix q hq).lt
theorem WMem.add (h:WMem w0 fx ba wr ans vs)(hx:Ext wr W){b:Nat}{o:Obj}(hb:Blk W b o)(hg:wr.heap.size<=b):WMem w0 ((b,o) :: fx) ba W ans vs:=by
 refine⟨h.ext.trans hx,fun q hq=>?_,h.kA.ext hx,?_,h.ge,?_⟩
 · rcases List.mem_cons.1 hq with rfl | hq
   · exact hb
   · exact (h.fix q hq).ext hx
 · exact ((h.rows.more hg).ext hx).less fun k hk=>by
    simp only [List.map_cons,List.mem_cons] at hk ⊢
    rcases hk with hk | hk | hk
    · exact .inr (.inl hk)
    · exact .inl hk
    · exact .inr (.inr hk)
 · have h1:=h.nd
   simp only [List.map_cons,List.nodup_cons,List.mem_cons,not_or] at h1 ⊢
   refine⟨⟨fun e=>?_,h1.1⟩,fun e=>?_,h1.2⟩
   · have:=h.lt (b:=ba) (by simp)
     omega
   · have:=h.lt (b:=b) (by simp [e])
     omega
theorem WMem.less (h:WMem w0 fx ba wr ans vs){fy:Blocks}(hs:fy.Sublist fx):WMem w0 fy ba wr ans vs :=
 { h with
  fix:=fun q hq=>h.fix q (hs.subset hq)
  rows:=h.rows.less fun k hk=>by
   simp only [List.mem_cons] at hk ⊢
   rcases hk with hk | hk
   · exact .inl hk
   · exact .inr ((hs.map Prod.fst).subset hk)
  nd:=h.nd.sublist ((hs.map Prod.fst).cons_cons ba) }
theorem WMem.put (h:WMem w0 (f1++f2) ba wr ans vs){b:Nat}{cs:Array Value}{T:TypeId}{f3:Blocks}(hf:f2=(b,.cells cs T) :: f3)(hg:w0.heap.size<=b)(i:Nat)(u:Value):WMem w0 (f1++(b,.cells (cs.setIfInBounds i u) T) :: f3) ba (wr.setCell ⟨b,i,none⟩ u) ans vs:=by
 subst hf
 have hnd:=h.nd
 simp only [List.map_append,List.map_cons,List.nodup_cons,List.mem_append,List.mem_cons,not_or,List.nodup_append] at hnd
 obtain⟨⟨_,hab,_⟩,_,⟨hb2,_⟩,hdis⟩:=hnd
 have hb:=h.fix (b,.cells cs T) (by simp)
 refine⟨h.ext.setCell (p:=⟨b,i,none⟩) hg _,fun q hq=>?_,blk_ne h.kA hab u,?_,h.ge,?_⟩
 · simp only [List.mem_append,List.mem_cons] at hq
   rcases hq with hq | rfl | hq
   · exact blk_ne (h.fix q (by simp [hq])) (fun e=>hdis q.1 (List.mem_map.2 ⟨q,hq,rfl⟩) b (by simp) e) u
   · exact heap_setCell hb u
   · exact blk_ne (h.fix q (by simp [hq])) (fun e=>hb2 (List.mem_map.2 ⟨q,hq,e⟩)) u
 · have:=h.rows.set (b:=b) (by simp) i u
   simpa using this
 · have:=h.nd
   simpa using this
theorem WMem.clear (h:WMem w0 fx ba wr ans vs)(t:Nat):WMem w0 fx ba (wr.setCell ⟨ba,t,none⟩ (.slice none 0 0)) (fun s=>if s=t then [] else ans s) (vs.setIfInBounds t (.slice none 0 0)):=by
 have hnd:=h.nd
 rw [List.nodup_cons] at hnd
 exact { h with
  ext:=h.ext.setCell (p:=⟨ba,t,none⟩) h.ge _
  fix:=fun q hq=>blk_ne (h.fix q hq) (fun e=>hnd.1 (List.mem_map.2 ⟨q,hq,e⟩)) _
  kA:=heap_setCell h.kA _
  rows:=(h.rows.clear t).set (by simp) _ _ }
theorem WMem.grow (h:WMem w0 fx ba wr ans vs){t:Nat}(ht:t<4){v:Value}(hv:vs[t]?=some v){g cap:Nat}{y:Int}
  (hown:W.ownsRow w0.heap.size 3 1 (.slice (some ⟨g,0,none⟩) ((ans t).length+1) cap) ((ans t).length+1) (rowOf (ans t)++[Value.int .i64 y]))(hg:wr.grownBy W v.ownBlock)(hat:v.ownBlock=some g∨wr.heap.size<=g) :
  WMem w0 fx ba (W.setCell ⟨ba,t,none⟩ (.slice (some ⟨g,0,none⟩) ((ans t).length+1) cap)) (fun s=>if s=t then ans t++[y] else ans s) (vs.setIfInBounds t (.slice (some ⟨g,0,none⟩) ((ans t).length+1) cap)):=by
 have hnd:=h.nd
 rw [List.nodup_cons] at hnd
 have hoff:∀ b,b∈ba :: fx.map Prod.fst->v.ownBlock≠some b:=fun b hb e=>h.rows.off t v b hv e hb
 have kept:∀ {b:Nat} {o:Obj},Blk wr b o->b∈ba :: fx.map Prod.fst->Blk W b o:=fun hb hm=>grown_heap hb (hoff _ hm) hg
 have hrows:=h.rows.grow ht hv hown hg hat (fun b hb=>h.lt hb)
 have hx:Ext w0 W:=by
  have he:=h.ext
  refine⟨hg.os.trans he.os,hg.tape.trans he.tape,hg.output.trans he.output,Nat.le_trans he.size hg.size,fun k hk=>?_⟩
  refine (hg.block k (Nat.lt_of_lt_of_le hk he.size) fun e=>?_).trans (he.block k hk)
  obtain⟨v',q1,q2⟩:=h.rows.row t ht
  rw [hv] at q1
  injection q1 with q1
  subst q1
  have:=(own_ge q2 e.symm).1
  omega
 refine⟨hx.setCell (p:=⟨ba,t,none⟩) h.ge _,fun q hq=>?_,heap_setCell (kept h.kA (by simp)) _,hrows.set (by simp) _ _,h.ge,h.nd⟩
 exact blk_ne (kept (h.fix q hq) (List.mem_cons_of_mem _ (List.mem_map.2 ⟨q,hq,rfl⟩))) (fun e=>hnd.1 (List.mem_map.2 ⟨q,hq,e⟩)) _
theorem WMem.grown (h:WMem w0 fx ba wr ans vs){t:Nat}{v:Value}(hv:vs[t]?=some v)(hg:wr.grownBy W v.ownBlock){q:Nat × Obj}(hq:q∈fx):Blk W q.1 q.2 :=
 grown_heap (h.fix q hq) (fun e=>h.rows.off t v q.1 hv e (List.mem_cons_of_mem _ (List.mem_map.2 ⟨q,hq,rfl⟩))) hg
theorem WMem.grownAt (h:WMem w0 fx ba wr ans vs){t:Nat}{v:Value}(hv:vs[t]?=some v)(hg:wr.grownBy W v.ownBlock)(k:Nat){q:Nat × Obj}(hk:fx[k]?=some q):Blk W q.1 q.2:=h.grown hv hg (List.mem_of_getElem? hk)
theorem WMem.grownA (h:WMem w0 fx ba wr ans vs){t:Nat}{v:Value}(hv:vs[t]?=some v)(hg:wr.grownBy W v.ownBlock):Blk W ba (.cells vs 34) :=
 grown_heap h.kA (fun e=>h.rows.off t v ba hv e (by simp)) hg
theorem WMem.row (h:WMem w0 fx ba wr ans vs){t:Nat}(ht:t<4):∃ A c,vs[t]?=some (.slice A (ans t).length c)/\Ints wr (.slice A (ans t).length c) (ans t)/\wr.ownsRow w0.heap.size 3 1 (.slice A (ans t).length c) (ans t).length (rowOf (ans t)):=h.rows.ints ht
theorem WMem.ne (h:WMem w0 fx ba wr ans vs){b:Nat}{o:Obj}(hb:(b,o)∈fx):b≠ba:=fun e=>by
 have hnd:=h.nd
 rw [List.nodup_cons] at hnd
 exact hnd.1 (List.mem_map.2 ⟨(b,o),hb,e⟩)
theorem WMem.start (hx:Ext w0 W)(hf:∀ q,q∈fx->Blk W q.1 q.2)(hA:Blk W ba (.cells #[.slice none 0 0,.slice none 0 0,.slice none 0 0,.slice none 0 0] 34))(hge:w0.heap.size<=ba)(hnd:(ba :: fx.map Prod.fst).Nodup) :
  WMem w0 fx ba W (fun _=>[]) (Array.replicate 4 (.slice none 0 0)) :=
 ⟨hx,hf,hA,ARows.start _ _ _ hx.size 4,hge,hnd⟩
theorem WMem.putAt (h:WMem w0 fx ba wr ans vs)(k:Nat){b:Nat}{cs:Array Value}{T:TypeId}(hk:fx[k]?=some (b,.cells cs T))(hg:w0.heap.size<=b)(i:Nat)(u:Value):WMem w0 (fx.set k (b,.cells (cs.setIfInBounds i u) T)) ba (wr.setCell ⟨b,i,none⟩ u) ans vs:=by
 obtain⟨hkl,hk⟩:=List.getElem?_eq_some_iff.1 hk
 have e:fx=fx.take k++(b,.cells cs T) :: fx.drop (k+1):=by
  rw [<- hk,List.getElem_cons_drop,List.take_append_drop]
 rw [List.set_eq_take_append_cons_drop,if_pos hkl]
 rw [e] at h
 exact h.put rfl hg i u
abbrev iCells (M:List Int):Obj:=.cells (M.map (Value.int .i64)).toArray 3
abbrev fCells (f:Nat->Int):Obj:=.cells (fours f).toArray 35
theorem WMem.setI (h:WMem w0 fx ba wr ans vs)(k:Nat){b:Nat}{M:List Int}(hk:fx[k]?=some (b,iCells M))(hg:w0.heap.size<=b)(i:Nat)(u:Int):WMem w0 (fx.set k (b,iCells (M.set i u))) ba (wr.setCell ⟨b,i,none⟩ (.int .i64 u)) ans vs:=by
 have q:=h.putAt k hk hg i (.int .i64 u)
 unfold iCells
 rw [List.map_set,<- List.setIfInBounds_toArray]
 exact q
theorem WMem.setF (h:WMem w0 fx ba wr ans vs)(k:Nat){b:Nat}{f:Nat->Int}(hk:fx[k]?=some (b,fCells f))(hg:w0.heap.size<=b){t:Nat}(ht:t<4)(x:Int):WMem w0 (fx.set k (b,fCells (putF f t x))) ba (wr.setCell ⟨b,t,none⟩ (.int .i64 x)) ans vs:=by
 have q:=h.putAt k hk hg t (.int .i64 x)
 unfold fCells
 rw [<- fours_put ht]
 exact q
theorem fours_same {f g:Nat->Int}(h:∀ t,t<4->f t=g t):fours f=fours g:=by
 unfold fours
 refine List.map_congr_left fun t ht=>?_
 rw [h t (by simpa using ht)]
end
end Go.Proofs.YtmmmiplmiooioaaGreat
namespace Kv
end Kv
namespace Go.Proofs.YtmmmiplmiooioaaGreat
open Go.RowKit Kv
@[go_sem] theorem build_lock3 (a b c:Int) (w:World):(Instr.build 27 #[(0,.int .i64 a),(1,.int .i64 b),(2,.int .i64 c)]).run Tryz.prog w=.ok (.agg #[.int .i64 a,.int .i64 b,.int .i64 c,.int .i64 0,.int .i64 0,.int .i64 0]) w:=run_build w 27 _ _ (by kernel_rfl)
@[go_sem] theorem build_acc3 (a b c:Int) (w:World):(Instr.build 50 #[(0,.int .i64 a),(1,.int .i64 b),(2,.int .i64 c)]).run Tryz.prog w=.ok (.agg #[.int .i64 a,.int .i64 b,.int .i64 c]) w:=run_build w 50 _ _ (by kernel_rfl)
set_option maxRecDepth 100000 in
theorem gacl1 (B p n me D:Nat)(S:TS)(bo bt:Nat)(w:World)(h:Plays B w p S)(h1:1<=n)(h8:n<=8)(hm:me<n)(hD:S.left<D)(hn0:S.nts.length+10*S.left<=90000)
  (g1:Blk w bo (.cells (obCells n) 31))(c2:w.cell? ⟨bt,0,none⟩=some (.int .i64 me)) :
  Calls Tryz.prog 15 #[.pointer (some ⟨p,0,none⟩),.pointer (some ⟨bo,0,none⟩),.pointer (some ⟨bt,0,none⟩)] w (Post encI B p w ((treeN (gaM n me).ask D (.st none)).run S)):=by
 have hq:=wait_p B p n D me S w h h1 h8 hm hD hn0
 generalize hR:Post encI B p w ((treeN (gaM n me).ask D (.st none)).run S)=R
 have hO:Owes R encI B p w ((treeN (gaM n me).ask D (.st none)).run S):=hR▸owes _ _ _ _ _
 clear hR
 have hK:=Keep.refl [2,3,4] B p w
 go_enter Tryz.func15,Tryz.ntmps15
 go_upto_region 1 with fail
 refine wp_region_lit ?_
 refine load_obj rfl _ rfl rfl _ rfl bo rfl g1 rfl ?_
 try simp only [put_pack]
 go_wp2_with fail
 clear c2
 refine tlast hO hK hq (fun _ h=>⟨rfl,h⟩) ?_
 intro v S1 w1 hr hP1 hk1 hK1 hO1
 have hf:=hO1.done hP1 hK1
 clear hO1 hP1 hK1 hr hk1 hO h hK hq g1
 go_wp2_with fail
 first | exact hf | (go_ret;exact hf)
set_option maxRecDepth 100000 in
theorem gacl2 (B p n me D:Nat)(S:TS)(bo bt:Nat)(w:World)(h:Plays B w p S)(h1:1<=n)(h8:n<=8)(hm:me<n)(hD:S.left<D)(hn0:S.nts.length+10*S.left<=90000)
  (g1:Blk w bo (.cells (obCells n) 31))(c2:w.cell? ⟨bt,0,none⟩=some (.int .i64 me)) :
  Calls Tryz.prog 17 #[.pointer (some ⟨p,0,none⟩),.pointer (some ⟨bo,0,none⟩),.pointer (some ⟨bt,0,none⟩)] w (Post encI B p w ((treeN (gaM n me).ask D (.st none)).run S)):=by
 have hq:=wait_p B p n D me S w h h1 h8 hm hD hn0
 generalize hR:Post encI B p w ((treeN (gaM n me).ask D (.st none)).run S)=R
 have hO:Owes R encI B p w ((treeN (gaM n me).ask D (.st none)).run S):=hR▸owes _ _ _ _ _
 clear hR
 have hK:=Keep.refl [2,3,4] B p w
 go_enter Tryz.func17,Tryz.ntmps17
 go_upto_region 1 with fail
 refine wp_region_lit ?_
 refine load_obj rfl _ rfl rfl _ rfl bo rfl g1 rfl ?_
 try simp only [put_pack]
 go_wp2_with fail
 clear c2
 refine tlast hO hK hq (fun _ h=>⟨rfl,h⟩) ?_
 intro v S1 w1 hr hP1 hk1 hK1 hO1
 have hf:=hO1.done hP1 hK1
 clear hO1 hP1 hK1 hr hk1 hO h hK hq g1
 go_wp2_with fail
 first | exact hf | (go_ret;exact hf)
set_option maxRecDepth 100000 in
theorem gaal1 (B p D:Nat)(S:TS)(bo:Nat)(w:World)(h:Plays B w p S)(hD:S.left<D)(hn0:S.nts.length+10*S.left<=90000)(g1:Blk w bo (.cells (obCells 1) 31)) :
  Calls Tryz.prog 49 #[.pointer (some ⟨p,0,none⟩),.pointer (some ⟨bo,0,none⟩)] w (Post encI B p w ((treeN (gaM 1 0).ask D (.st none)).run S)):=by
 have hq:=wait_p B p 1 D 0 S w h (by decide) (by decide) (by decide) hD hn0
 generalize hR:Post encI B p w ((treeN (gaM 1 0).ask D (.st none)).run S)=R
 have hO:Owes R encI B p w ((treeN (gaM 1 0).ask D (.st none)).run S):=hR▸owes _ _ _ _ _
 clear hR
 have hK:=Keep.refl [2,3,4] B p w
 go_enter Tryz.func49,Tryz.ntmps49
 go_upto_region 1 with fail
 refine wp_region_lit ?_
 refine load_obj rfl _ rfl rfl _ rfl bo rfl g1 rfl ?_
 try simp only [put_pack]
 go_wp2_with fail
 refine tlast hO hK hq (fun _ h=>⟨rfl,h⟩) ?_
 intro v S1 w1 hr hP1 hk1 hK1 hO1
 have hf:=hO1.done hP1 hK1
 clear hO1 hP1 hK1 hr hk1 hO h hK hq g1
 go_wp2_with fail
 first | exact hf | (go_ret;exact hf)
set_option maxRecDepth 100000 in
theorem strips37 (w:World):Calls Tryz.prog 50 #[] w fun e w'=>∃ A,e=.returned (.slice A 2 2)/\Ext w w':=by
 go_enter Tryz.func50,Tryz.ntmps50
 go_wp2_with fail
 go_ret
 exact⟨_,rfl,(Ext.refl w).alloc _⟩
set_option maxRecDepth 100000 in
set_option maxHeartbeats 1000000 in
theorem alive37 (w:World):Calls Tryz.prog 13 #[] w fun e w'=>e=.returned (.bool true)/\Ext w w':=by
 have hmf:∀ (fn:Fn) (first cap:Array Value) (w:World),(Instr.makeFunc fn first cap).run Tryz.prog w=.ok (.func fn first cap) w:=fun _ _ _ _=>rfl
 have hput:=fun w=>put8_r 0 1 1 0 0 1 w
 go_enter Tryz.func13,Tryz.ntmps13
 go_wp2_with fail
 refine (hput _).mono ?_
 rintro e w0 ⟨rfl,hX⟩
 clear hput
 rename_i hKK
 refine hKK _ _ ?_
 clear hKK
 refine new_obj rfl rfl rfl _ _ rfl _ rfl rfl rfl (by kernel_rfl) ?_
 refine wpList_nil ?_
 have b1:=Blk.new w0 (.cells (obCells 1) 31)
 replace hX:=hX.alloc (.cells (obCells 1) 31)
 generalize hbk:w0.heap.size=bk at *
 generalize World.alloc w0 _=V0 at *
 clear hbk
 go_wp2_with fail
 have hA:=ints_new V0 [0,1,0,0,0,0] (by simp)
 replace b1:=b1.alloc (.cells #[.int .i64 0,.int .i64 1,.int .i64 0,.int .i64 0,.int .i64 0,.int .i64 0] 3)
 replace hX:=hX.alloc (.cells #[.int .i64 0,.int .i64 1,.int .i64 0,.int .i64 0,.int .i64 0,.int .i64 0] 3)
 simp only [List.map_cons,List.map_nil,List.length_cons,List.length_nil,Nat.reduceAdd] at hA
 have hsz:V0.heap.size<(World.alloc V0 (.cells #[.int .i64 0,.int .i64 1,.int .i64 0,.int .i64 0,.int .i64 0,.int .i64 0] 3)).heap.size:=by simp
 generalize World.alloc V0 _=V0a at *
 have hPl:=play_int 49 #[.pointer (some ⟨bk,0,none⟩)] (treeN (gaM 1 0).ask 8 (.st none)) none 0 [] (some ⟨V0.heap.size,0,none⟩) 6 [0,1,0,0,0,0] V0a (Ints.nil _) (by simp) hA (by simp [maxAns]) (fun k hk=>by simp only [Value.ownBlock,Option.some.injEq] at hk;omega) (fun _ _=>rfl) (fun W p hxW hP=>gaal1 _ p 8 _ bk W hP (by decide) (by decide) (b1.ext hxW))
 have e1:((treeN (gaM 1 0).ask 8 (.st none)).run (TS0 [] [0,1,0,0,0,0])).1=some 1:=by decide +kernel
 have e2:((treeN (gaM 1 0).ask 8 (.st none)).run (TS0 [] [0,1,0,0,0,0])).2.acc.length=6:=by decide +kernel
 have e3:(((treeN (gaM 1 0).ask 8 (.st none)).run (TS0 [] [0,1,0,0,0,0])).2.acc[4]?)=some ⟨2,2,0⟩:=by kernel_rfl
 rw [e1,show ([0,1,0,0,0,0]:List Int).length=6 from rfl] at hPl
 generalize ((treeN (gaM 1 0).ask 8 (.st none)).run (TS0 [] [0,1,0,0,0,0])).2=S1 at *
 simp only [Option.getD_some,Option.isSome_some] at hPl
 refine hPl.mono ?_
 clear hPl e1 hA hsz
 rintro e y1 ⟨v1,rfl,hO,hx1⟩
 obtain⟨A1,c1,D1,d1,vs1,L1,rfl,hO1⟩:=hO
 obtain⟨E1,k1,hvs1,_,_⟩:=hO1.locs.slice
 subst hvs1
 unfold outV
 rw [e2]
 obtain⟨bq,rfl,hbq,q0,q1,q2⟩:=hO1.accs.at_ e3
 simp only at q0 q1 q2
 clear e2 e3 hO1
 replace hX:=(hX.trans hx1).alloc (.cells #[.bool true,.slice (some ⟨bq,0,none⟩) 6 c1,.slice D1 S1.nts.length d1,.slice E1 (shortL L1).length k1] 46)
 have n1:=Blk.new y1 (.cells #[.bool true,.slice (some ⟨bq,0,none⟩) 6 c1,.slice D1 S1.nts.length d1,.slice E1 (shortL L1).length k1] 46)
 have hxo:=(Ext.refl y1).alloc (.cells #[.bool true,.slice (some ⟨bq,0,none⟩) 6 c1,.slice D1 S1.nts.length d1,.slice E1 (shortL L1).length k1] 46)
 replace q0:=(hxo.cell (p:=⟨bq,_,none⟩) hbq).trans q0
 replace q1:=(hxo.cell (p:=⟨bq,_,none⟩) hbq).trans q1
 replace q2:=(hxo.cell (p:=⟨bq,_,none⟩) hbq).trans q2
 clear hx1 hxo b1
 go_upto_region 3 with fail
 generalize World.alloc y1 _=V1 at *
 have c_O:=n1.cells
 go_wp2_with fail
 refine (strips37 _).mono ?_
 rintro e w7 ⟨A7,rfl,hx7⟩
 replace hX:=hX.trans hx7
 clear hx7 c_O n1 q0 q1 q2
 go_wp2_with fail
 first | exact⟨rfl,hX⟩ | (go_ret;exact⟨rfl,hX⟩) | (go_ret2;exact⟨rfl,hX⟩)
end Go.Proofs.YtmmmiplmiooioaaGreat
namespace Go.Proofs.YtmmmiplmiooioaaGreat
open Go.ChangeShapes Go.WideShapes Go.ChangeAt Go.RowKit Kv
def U8s (w:World) (v:Value) (l:List Int):Prop :=
 ∃ A c,v=.slice A l.length c/\l.length<=c/\c<=9223372036854775807/\(l≠[]->∃ b off,A=some ⟨b,off,none⟩/\b<w.heap.size/\∀ i x,l[i]?=some x->w.cell? ⟨b,off+i,none⟩=some (.int .u8 x))
theorem U8s.ext {w w':World}{v:Value}{l:List Int}(h:U8s w v l)(hx:Ext w w'):U8s w' v l:=by
 obtain⟨A,c,rfl,h1,h2,h3⟩:=h
 refine⟨A,c,rfl,h1,h2,fun hl=>?_⟩
 obtain⟨b,off,rfl,hb,hc⟩:=h3 hl
 exact⟨b,off,rfl,Nat.lt_of_lt_of_le hb (Ext.size hx),fun i x hi=>(Ext.cell hx (p:=⟨b,off+i,none⟩) hb).trans (hc i x hi)⟩
theorem U8s.at_ {w:World}{A:Option Addr}{n c:Nat}{l:List Int}(h:U8s w (.slice A n c) l){i:Nat}{x:Int}(hi:l[i]?=some x) :
  ∃ b off,A=some ⟨b,off,none⟩/\b<w.heap.size/\w.cell? ⟨b,off+i,none⟩=some (.int .u8 x):=by
 obtain⟨A',c',he,h1,h2,h3⟩:=h
 injection he with e1 e2 e3
 subst e1 e2 e3
 have hl:l≠[]:=by rintro rfl;simp at hi
 obtain⟨b,off,rfl,hb,hc⟩:=h3 hl
 exact⟨b,off,rfl,hb,hc i x hi⟩
theorem cellsByte:Tryz.prog.cellsOf 5=1:=by kernel_rfl
set_option maxRecDepth 100000 in
theorem bytes_arg {H:Type}{enc:TypeId × Value->H}{W:World}{b0:Nat}{r:Reach}{v:Value}{d:DataW H}{p:List MemPlace}
  (hv:Value.okWide Tryz.prog W r b0 22 v)(h:DataW.Trod enc Tryz.prog W 0 (fun _=>true) true 22 v d p) :
  ∃ l,U8s W v l/\∀ x∈l,0<=x/\x<256:=by
 obtain⟨a0,len,cap,rfl⟩:=okWide_slice Tryz.underlying22 hv
 obtain⟨fuel,hf⟩:=h
 rcases open_ints Tryz.underlying22 Tryz.underlying5 cellsByte hf with⟨hcs,hx⟩ | ⟨a,len',cap',zs,hcs,_,hl,hm,hz,hx,hcell,hwz⟩
 · simp [Value.cells] at hcs
   obtain⟨rfl,rfl,rfl⟩:=hcs
   exact⟨[],⟨none,0,rfl,by simp,by omega,fun h=>absurd rfl h⟩,by simp⟩
 · simp [Value.cells] at hcs
   obtain⟨rfl,rfl,rfl⟩:=hcs
   simp only [if_true] at hz
   refine⟨zs.take len,?_,fun x hx=>by have:=bounds_u8 (hwz x (List.mem_of_mem_take hx));omega⟩
   have hlen:(zs.take len).length=len:=by rw [List.length_take];omega
   refine⟨some a,cap,by rw [hlen],by omega,by unfold maxLen at hm;exact hm,fun hne=>?_⟩
   have hpos:0<zs.length:=by
    rcases Nat.eq_zero_or_pos zs.length with h0 | h0
    · have:zs=[]:=List.eq_nil_of_length_eq_zero h0
      subst this
      simp at hne
    · exact h0
   obtain⟨b,off,rfl,hc⟩:=ints_at hcell hpos
   refine⟨b,off,rfl,cell_lt (hc 0 hpos),fun i x hi=>?_⟩
   have hi2:i<zs.length:=by
    have:=(List.getElem?_eq_some_iff.1 hi).1
    rw [List.length_take] at this
    omega
   rw [hc i hi2]
   have hi3:i<len:=by
    have:=(List.getElem?_eq_some_iff.1 hi).1
    omega
   rw [List.getElem?_take,if_pos hi3] at hi
   rw [List.getD_eq_getElem?_getD,hi]
   rfl
end Go.Proofs.YtmmmiplmiooioaaGreat
namespace Go.Proofs.YtmmmiplmiooioaaGreat
open Go.RowKit Kv
def EndAtI (B:Nat) (w w':World) (bg bo:Nat) (v:Value) (d:Bool) (S:TS):Prop :=
 w'.heap[bg]?=some (.cells #[v] 3 (0,0))/\(∃ vC vN vs,w'.heap[bo]?=some (.cells #[.bool d,vC,vN,vs] 46 (0,0))/\Outs w' (.agg #[.bool d,vC,vN,vs]) d S/\(∀ b,vs.ownBlock=some b->B<=b)/\(∀ b,vC.ownBlock=some b->B<=b))/\Below B w w'
set_option maxRecDepth 100000 in
set_option maxHeartbeats 1000000 in
theorem end_okI (B p:Nat)(S:TS)(bm bg bo:Nat)(v:Value)(w:World)(h:Plays B w p S)(hm:HeldP w p bm (.cells #[.pointer (some ⟨p,0,none⟩)] 36 (0,0)))(hg:HeldP w p bg (.cells #[v] 3 (0,0)))
  (ho:HeldP w p bo (.cells #[.bool false,.slice none 0 0,.slice none 0 0,.slice none 0 0] 46 (0,0)))(hB2:B<=bo) :
  CallsD Tryz.prog 51 #[.pointer (some ⟨bm,0,none⟩),.pointer (some ⟨bg,0,none⟩),.pointer (some ⟨bo,0,none⟩)] .returning w fun e u' w'=>e=.returned (.tuple #[])/\u'=.returning/\EndAtI B w w' bg bo v true S:=by
 obtain⟨h1,vA,vL,vC,vN,L,h⟩:=h
 have hc:=cell_of_heap h.heap
 have hfz:=frozen_of_heap h.heap
 have cm:=hm.cells
 refine callsD_of_wpS Tryz.func51 rfl fun c₀ cs hu=>?_
 simp only [Tryz.ntmps51,List.size_toArray,List.length_cons,List.length_nil,Nat.reduceAdd,Nat.reduceSub,Array.replicate_succ,Array.replicate_zero,List.push_toArray,List.append_toArray,List.nil_append,List.cons_append]
 apply wpS_seq
 refine wpS_of_wp ?_
 go_wp2_with fail
 simp only [Exit.thenS]
 apply wpS_seq
 refine wpS_of_wp ?_
 go_wp2_with fail
 simp only [Exit.thenS]
 obtain⟨HM,HK⟩:=h.state 0
 have hmh:=Lib.hid (hm.keep HK)
 have hgh:=Lib.hid (hg.keep HK).1
 have hoh:=Lib.hid (ho.keep HK)
 have hq:=cell_of_heap HM.heap
 have cm2:=hmh.out.cells
 have HMh:=Lib.hid HM
 have hbel:=Lib.hid HK.below
 clear HM HK hc hfz cm hm hg ho h
 generalize w.setCell ⟨p,0,none⟩ (.int .i64 0)=W at *
 apply wpS_seq
 apply wpS_seq
 apply wpS_region
 simp [wpOpsS,go_sem,recoverD,hu,Exit.thenS]
 refine wpS_of_wp ?_
 go_wp2_with fail
 simp only [Exit.thenS]
 refine wpS_of_wp ?_
 go_wp2_with fail
 have hI:Ints W vL L:=IntRow.ints HMh.out.rowL
 obtain⟨Al,cl,rfl,q1,q2⟩:=hI.slice
 have hIh:=Lib.hid hI
 obtain⟨Ac,cc,rfl,-,-,-⟩:=vals_row HMh.out.rowC
 obtain⟨An,cn,rfl,-,-,-⟩:=vals_row HMh.out.rowN
 have hlen:=HMh.out.locN
 have hplt:=HMh.out.lt
 have hmlt:=hmh.out.lt
 clear hI
 have hpo:p≠bo:=fun e=>hoh.out.2 (.inl e.symm)
 have hmo:bm≠bo:=fun e=>by
  have h1:=hmh.out.1
  rw [e,hoh.out.1] at h1
  injection h1 with h1
  injection h1 with _ h2
  cases h2
 have hlo:(Value.slice Al L.length cl).ownBlock≠some bo:=row_not HMh.out.rowL hoh.out.1 (by decide)
 have hS:∀ w',Near W bo 4 46 w'->((∀ i,w'.cell? ⟨p,i,none⟩=(#[.int .i64 0,vA,.slice Al L.length cl,.slice Ac S.acc.length cc,.slice An S.nts.length cn]:Array Value)[i]?)/\(∀ i,w'.cell? ⟨bm,i,none⟩=(#[.pointer (some ⟨p,0,none⟩)]:Array Value)[i]?)/\(∀ i,w'.cell? ⟨bo,i,none⟩=(#[cellD w' bo 0,cellD w' bo 1,cellD w' bo 2,cellD w' bo 3]:Array Value)[i]?)/\(∀ i,w'.frozen? ⟨bo,i,none⟩=false)/\Near W bo 4 46 w'):=fun w' hx =>
  ⟨fun i=>(hx.cell hplt hpo).trans (hq i),fun i=>(hx.cell hmlt hmo).trans (cm2 i),hx.four,hx.frozen,hx⟩
 have hN:Near W bo 4 46 W:=Near.new hoh.out.1 rfl
 go_region_held2 (fun w'=>(∀ i,w'.cell? ⟨p,i,none⟩=(#[.int .i64 0,vA,.slice Al L.length cl,.slice Ac S.acc.length cc,.slice An S.nts.length cn]:Array Value)[i]?)/\(∀ i,w'.cell? ⟨bm,i,none⟩=(#[.pointer (some ⟨p,0,none⟩)]:Array Value)[i]?)/\(∀ i,w'.cell? ⟨bo,i,none⟩=(#[cellD w' bo 0,cellD w' bo 1,cellD w' bo 2,cellD w' bo 3]:Array Value)[i]?)/\(∀ i,w'.frozen? ⟨bo,i,none⟩=false)/\Near W bo 4 46 w') (first | exact hS _ hN.drew | (refine hS _ ?_;(repeat refine Near.set ?_ _ _);exact hN.drew.ext h2))
  (first
    | (go_at_call 48
       refine (tshort_p Al cl L _ (hIh.out.ext (Ext.refl W).drew) q1 q2 (by omega)).mono ?_
       rintro e w' ⟨v',rfl,h1,h2⟩
       obtain⟨As,cs,rfl,hs1,hs2⟩:=h1.ints.slice))
 have f3:∀ b,(Value.slice As (shortL L).length cs).ownBlock=some b->B<=b:=fun b hb=>by
  have q1:=(h1.lt b hb).1
  have q2:=HMh.out.ge
  have q3:=HMh.out.lt
  rw [World.size_drew] at q1
  omega
 have f4:∀ b,(Value.slice Ac S.acc.length cc).ownBlock=some b->B<=b:=fun b hb=>(HMh.out.rowC.lt b hb).1
 obtain⟨f1,f2⟩:=end_out (d:=true) HMh.out hoh.out.1 ((Ext.refl W).drew.trans h2) h1
 have fg:bg≠bo:=fun e=>by
  have h1:=hgh.out
  rw [e,hoh.out.1] at h1
  injection h1 with h1
  injection h1 with _ h2
  cases h2
 refine⟨rfl,FrameMode.returning,(by cases c₀;simp only at hu;subst hu;rfl),.tuple #[],(by simp [results,Tryz.results51,go_sem]),rfl,rfl,?_,⟨_,_,_,f1,f2,f3,f4⟩,?_⟩
 · rw [heap_setCell_ne _ _ fg,heap_setCell_ne _ _ fg,heap_setCell_ne _ _ fg,heap_setCell_ne _ _ fg]
   exact (Below.block ((Ext.refl W).drew.trans h2) bg (Array.getElem?_eq_some_iff.1 hgh.out).1).trans hgh.out
 · exact ((((hN.drew.ext h2).set _ _).set _ _).set _ _ |>.set _ _).below hbel.out hB2 (by have:=HMh.out.ge;omega)
set_option maxRecDepth 100000 in
set_option maxHeartbeats 1000000 in
theorem end_stopI (B p:Nat)(S:TS)(bm bg bo:Nat)(v:Value)(older:List PanicEntry)(w:World)(h:Stops B w p S)(hm:HeldP w p bm (.cells #[.pointer (some ⟨p,0,none⟩)] 36 (0,0)))(hg:HeldP w p bg (.cells #[v] 3 (0,0)))
  (ho:HeldP w p bo (.cells #[.bool false,.slice none 0 0,.slice none 0 0,.slice none 0 0] 46 (0,0)))(hB1:B<=bg)(hB2:B<=bo) :
  CallsD Tryz.prog 51 #[.pointer (some ⟨bm,0,none⟩),.pointer (some ⟨bg,0,none⟩),.pointer (some ⟨bo,0,none⟩)] (.panicking ({ v:=.iface 90 (.agg #[.pointer (some ⟨p,0,none⟩)]),recovered:=false } :: older)) w fun e u' w' =>
   e=.returned (.tuple #[])/\u'=.panicking ({ v:=.iface 90 (.agg #[.pointer (some ⟨p,0,none⟩)]),recovered:=true } :: older)/\EndAtI B w w' bg bo (.int .i64 0) false S:=by
 obtain⟨vA,vL,vC,vN,L,h⟩:=h
 have hc:=cell_of_heap h.heap
 have hfz:=frozen_of_heap h.heap
 have cm:=hm.cells
 refine callsD_of_wpS Tryz.func51 rfl fun c₀ cs hu=>?_
 simp only [Tryz.ntmps51,List.size_toArray,List.length_cons,List.length_nil,Nat.reduceAdd,Nat.reduceSub,Array.replicate_succ,Array.replicate_zero,List.push_toArray,List.append_toArray,List.nil_append,List.cons_append]
 apply wpS_seq
 refine wpS_of_wp ?_
 go_wp2_with fail
 simp only [Exit.thenS]
 apply wpS_seq
 refine wpS_of_wp ?_
 go_wp2_with fail
 simp only [Exit.thenS]
 obtain⟨HM,HK⟩:=h.state 0
 have hm2:=hm.keep HK
 have hg2:=hg.keep HK
 have ho2:=ho.keep HK
 clear hc hfz cm hm hg ho h
 generalize w.setCell ⟨p,0,none⟩ (.int .i64 0)=W0 at *
 have hX:=(Ext.refl W0).alloc (.cells #[.agg #[.pointer (some ⟨p,0,none⟩)]] 90)
 have hq0:=cell_of_heap HM.heap
 have cm0:=hm2.cells
 have hqa:Hid (∀ O,∀ i,(W0.alloc O).cell? ⟨bm,i,none⟩=(#[.pointer (some ⟨p,0,none⟩)]:Array Value)[i]?):=Lib.hid fun O i=>(((Ext.refl W0).alloc O).cell (p:=⟨bm,i,none⟩) hm2.lt).trans (hm2.cells i)
 have cma:=hqa.out
 have fga:=frozen_of_heap hg2.1
 have cg0:=hg2.cells
 have W0lt:=hg2.lt
 have fgb:Hid (∀ O i,(W0.alloc O).frozen? ⟨bg,i,none⟩=false):=Lib.hid fun O i=>frozen_of_heap ((Below.block ((Ext.refl W0).alloc O) bg hg2.lt).trans hg2.1) i
 have cgb:Hid (∀ O i,(W0.alloc O).cell? ⟨bg,i,none⟩=(#[v]:Array Value)[i]?):=Lib.hid fun O i=>(((Ext.refl W0).alloc O).cell (p:=⟨bg,i,none⟩) hg2.lt).trans (hg2.cells i)
 have fgb':=fgb.out
 have cgb':=cgb.out
 have HMh0:=Lib.hid HM
 have HKh:=Lib.hid HK
 have hmh0:=Lib.hid hm2
 have hgh0:=Lib.hid hg2
 have hoh0:=Lib.hid ho2
 clear HM HK hm2 hg2 ho2
 apply wpS_seq
 apply wpS_seq
 apply wpS_region
 simp [wpOpsS,go_sem,recoverD,hu,Exit.thenS]
 refine wpS_of_wp ?_
 go_wp2_with fail
 simp only [Exit.thenS]
 refine wpS_of_wp ?_
 go_wp2_with fail
 have hgp:=hgh0.out.2
 have hmg:bm≠bg:=fun e=>by
  have h1:=hmh0.out.1
  rw [e,hgh0.out.1] at h1
  injection h1 with h1
  injection h1 with _ h2
  cases h2
 have hog:bo≠bg:=fun e=>by
  have h1:=hoh0.out.1
  rw [e,hgh0.out.1] at h1
  injection h1 with h1
  injection h1 with _ h2
  cases h2
 have HM1:=HMh0.out.setO hgp hB1 0 (.int .i64 0)
 have hm1:=hmh0.out.setO hmg hgp 0 (.int .i64 0)
 have ho1:=hoh0.out.setO hog hgp 0 (.int .i64 0)
 have hg1:=heap_setCell (i:=0) hgh0.out.1 (.int .i64 0)
 have hb1:Below B w (W0.setCell ⟨bg,0,none⟩ (.int .i64 0)):=Below.setCell HKh.out.below (by show B<=bg;exact hB1) _
 have HMh:=Lib.hid (HM1.ext ((Ext.refl _).alloc (.cells #[.pointer (some ⟨p,0,none⟩)] 90)))
 have hmh:=Lib.hid (hm1.alloc (.cells #[.pointer (some ⟨p,0,none⟩)] 90) HM1.lt)
 have hoh:=Lib.hid (ho1.alloc (.cells #[.pointer (some ⟨p,0,none⟩)] 90) HM1.lt)
 have hgh:=Lib.hid ((Below.block ((Ext.refl _).alloc (.cells #[.pointer (some ⟨p,0,none⟩)] 90)) bg (Array.getElem?_eq_some_iff.1 hg1).1).trans hg1)
 have hbel:=Lib.hid (Below.alloc hb1 (by have:=HM1.ge;have:=HM1.lt;omega) (.cells #[.pointer (some ⟨p,0,none⟩)] 90))
 clear hX hq0 cm0 hqa cma fga cg0 fgb cgb fgb' cgb' HMh0 hmh0 hgh0 hoh0 HKh HM1 hm1 ho1 hg1 hb1 hgp W0lt
 generalize (World.alloc (W0.setCell ⟨bg,0,none⟩ (.int .i64 0)) (.cells #[.pointer (some ⟨p,0,none⟩)] 90))=W at *
 have hq:=cell_of_heap HMh.out.heap
 have cm2:=hmh.out.cells
 have hI:Ints W vL L:=IntRow.ints HMh.out.rowL
 obtain⟨Al,cl,rfl,q1,q2⟩:=hI.slice
 have hIh:=Lib.hid hI
 obtain⟨Ac,cc,rfl,-,-,-⟩:=vals_row HMh.out.rowC
 obtain⟨An,cn,rfl,-,-,-⟩:=vals_row HMh.out.rowN
 have hlen:=HMh.out.locN
 have hplt:=HMh.out.lt
 have hmlt:=hmh.out.lt
 clear hI
 have hpo:p≠bo:=fun e=>hoh.out.2 (.inl e.symm)
 have hmo:bm≠bo:=fun e=>by
  have h1:=hmh.out.1
  rw [e,hoh.out.1] at h1
  injection h1 with h1
  injection h1 with _ h2
  cases h2
 have hlo:(Value.slice Al L.length cl).ownBlock≠some bo:=row_not HMh.out.rowL hoh.out.1 (by decide)
 have hS:∀ w',Near W bo 4 46 w'->((∀ i,w'.cell? ⟨p,i,none⟩=(#[.int .i64 0,vA,.slice Al L.length cl,.slice Ac S.acc.length cc,.slice An S.nts.length cn]:Array Value)[i]?)/\(∀ i,w'.cell? ⟨bm,i,none⟩=(#[.pointer (some ⟨p,0,none⟩)]:Array Value)[i]?)/\(∀ i,w'.cell? ⟨bo,i,none⟩=(#[cellD w' bo 0,cellD w' bo 1,cellD w' bo 2,cellD w' bo 3]:Array Value)[i]?)/\(∀ i,w'.frozen? ⟨bo,i,none⟩=false)/\Near W bo 4 46 w'):=fun w' hx =>
  ⟨fun i=>(hx.cell hplt hpo).trans (hq i),fun i=>(hx.cell hmlt hmo).trans (cm2 i),hx.four,hx.frozen,hx⟩
 have hN:Near W bo 4 46 W:=Near.new hoh.out.1 rfl
 go_region_held2 (fun w'=>(∀ i,w'.cell? ⟨p,i,none⟩=(#[.int .i64 0,vA,.slice Al L.length cl,.slice Ac S.acc.length cc,.slice An S.nts.length cn]:Array Value)[i]?)/\(∀ i,w'.cell? ⟨bm,i,none⟩=(#[.pointer (some ⟨p,0,none⟩)]:Array Value)[i]?)/\(∀ i,w'.cell? ⟨bo,i,none⟩=(#[cellD w' bo 0,cellD w' bo 1,cellD w' bo 2,cellD w' bo 3]:Array Value)[i]?)/\(∀ i,w'.frozen? ⟨bo,i,none⟩=false)/\Near W bo 4 46 w') (first | exact hS _ hN.drew | (refine hS _ ?_;(repeat refine Near.set ?_ _ _);exact hN.drew.ext h2))
  (first
    | (go_at_call 48
       refine (tshort_p Al cl L _ (hIh.out.ext (Ext.refl W).drew) q1 q2 (by omega)).mono ?_
       rintro e w' ⟨v',rfl,h1,h2⟩
       obtain⟨As,cs,rfl,hs1,hs2⟩:=h1.ints.slice))
 have f3:∀ b,(Value.slice As (shortL L).length cs).ownBlock=some b->B<=b:=fun b hb=>by
  have q1:=(h1.lt b hb).1
  have q2:=HMh.out.ge
  have q3:=HMh.out.lt
  rw [World.size_drew] at q1
  omega
 have f4:∀ b,(Value.slice Ac S.acc.length cc).ownBlock=some b->B<=b:=fun b hb=>(HMh.out.rowC.lt b hb).1
 obtain⟨f1,f2⟩:=end_out (d:=false) HMh.out hoh.out.1 ((Ext.refl W).drew.trans h2) h1
 have fg:bg≠bo:=fun e=>by
  have h1:=hgh.out
  rw [e,hoh.out.1] at h1
  injection h1 with h1
  injection h1 with _ h2
  cases h2
 refine⟨rfl,FrameMode.panicking ({ v:=.iface 90 (.agg #[.pointer (some ⟨p,0,none⟩)]),recovered:=true } :: older),(by cases c₀;simp only at hu;subst hu;rfl),.tuple #[],(by simp [results,Tryz.results51,go_sem]),rfl,rfl,?_,⟨_,_,_,f1,f2,f3,f4⟩,?_⟩
 · rw [heap_setCell_ne _ _ fg,heap_setCell_ne _ _ fg,heap_setCell_ne _ _ fg,heap_setCell_ne _ _ fg]
   exact (Below.block ((Ext.refl W).drew.trans h2) bg (Array.getElem?_eq_some_iff.1 hgh.out).1).trans hgh.out
 · exact ((((hN.drew.ext h2).set _ _).set _ _).set _ _ |>.set _ _).below hbel.out hB2 (by have:=HMh.out.ge;omega)
set_option maxRecDepth 100000 in
set_option maxHeartbeats 1000000 in
theorem play_intB (f:FuncId)(cap:Array Value)(T:Prog Int)(Al:Option Addr)(cl:Nat)(L:List Int)(Aa:Option Addr)(ca:Nat)(ans:List Int)(w:World)(h:Ints w (.slice Al L.length cl) L)(hl:L.length<=32768)(ha:Ints w (.slice Aa ans.length ca) ans)(hn:ans.length<=maxAns)
  (hb:∀ b,(Value.slice Aa ans.length ca).ownBlock=some b->b<w.heap.size)
  (hcf:∀ (args:Array Value) (w:World),(callFunc f args).run Tryz.prog w=.ok (.enter f args) w)
  (hdo:∀ w1 p,Ext w w1->Plays w.heap.size w1 p (TS0 L ans)->Calls Tryz.prog f (#[.pointer (some ⟨p,0,none⟩)]++cap) w1 (Post encI w.heap.size p w1 (T.run (TS0 L ans)))) :
  Calls Tryz.prog 14 #[.func (.func f) #[] cap,.slice Al L.length cl,.slice Aa ans.length ca] w fun e w'=>∃ v,e=.returned (.tuple #[.int .i64 ((T.run (TS0 L ans)).1.getD 0),v])/\Outs w' v (T.run (TS0 L ans)).1.isSome (T.run (TS0 L ans)).2/\(∃ d vC vN vs,v=.agg #[.bool d,vC,vN,vs]/\(∀ b,vs.ownBlock=some b->w.heap.size<=b)/\∀ b,vC.ownBlock=some b->w.heap.size<=b)/\Ext w w':=by
 obtain⟨q1,q2⟩:L.length<=cl/\cl<=9223372036854775807:=by
  obtain⟨A',c',he,q1,q2,_⟩:=h
  injection he with e1 e2 e3
  subst e3
  exact⟨q1,q2⟩
 generalize hR:(fun e w'=>∃ v,e=Ending.returned (.tuple #[.int .i64 ((T.run (TS0 L ans)).1.getD 0),v])/\Outs w' v (T.run (TS0 L ans)).1.isSome (T.run (TS0 L ans)).2/\(∃ d vC vN vs,v=.agg #[.bool d,vC,vN,vs]/\(∀ b,vs.ownBlock=some b->w.heap.size<=b)/\∀ b,vC.ownBlock=some b->w.heap.size<=b)/\Ext w w')=R
 have hfin:∀ v w',Outs w' v (T.run (TS0 L ans)).1.isSome (T.run (TS0 L ans)).2->(∃ d vC vN vs,v=.agg #[.bool d,vC,vN,vs]/\(∀ b,vs.ownBlock=some b->w.heap.size<=b)/\∀ b,vC.ownBlock=some b->w.heap.size<=b)->Ext w w'->R (.returned (.tuple #[.int .i64 ((T.run (TS0 L ans)).1.getD 0),v])) w':=fun v w' h1 h3 h2=>hR▸⟨v,rfl,h1,h3,h2⟩
 clear hR
 have hmf:∀ (fn:Fn) (first cap:Array Value) (w:World),(Instr.makeFunc fn first cap).run Tryz.prog w=.ok (.func fn first cap) w:=fun _ _ _ _=>rfl
 go_enter_defers Tryz.func14,Tryz.ntmps14
 go_wp2_with fail
 obtain⟨hx,g1,g2,g3,g4⟩:=four_boxes w (.cells #[.int .i64 0] 3) (.cells #[.bool false,.slice none 0 0,.slice none 0 0,.slice none 0 0] 46) (.cells #[.int .i64 1,.slice Aa ans.length ca,.slice none 0 0,.slice none 0 0,.slice none 0 0] 87) (.cells #[.pointer (some ⟨w.heap.size+1+1,0,none⟩)] 36)
 generalize hW:World.alloc (World.alloc (World.alloc (World.alloc w _) _) _) _=W at *
 clear hW
 have hI:=h.ext hx
 have cm:=cell_of_heap g4
 have hN:Near W (w.heap.size+1+1) 5 87 W:=Near.new g3 rfl
 have hmlt:=(Array.getElem?_eq_some_iff.1 g4).1
 have hmin:min (L.length:Int) 32768=(L.length:Int):=by omega
 have hS:∀ w',Near W (w.heap.size+1+1) 5 87 w'->((∀ i,w'.cell? ⟨w.heap.size+1+1+1,i,none⟩=(#[.pointer (some ⟨w.heap.size+1+1,0,none⟩)]:Array Value)[i]?)/\(∀ i,w'.cell? ⟨w.heap.size+1+1,i,none⟩=(#[cellD w' (w.heap.size+1+1) 0,cellD w' (w.heap.size+1+1) 1,cellD w' (w.heap.size+1+1) 2,cellD w' (w.heap.size+1+1) 3,cellD w' (w.heap.size+1+1) 4]:Array Value)[i]?)/\(∀ i,w'.frozen? ⟨w.heap.size+1+1,i,none⟩=false)):=fun w' hx =>
  ⟨fun i=>(hx.cell hmlt (by omega)).trans (cm i),hx.five,hx.frozen⟩
 go_region_held3 (fun w'=>(∀ i,w'.cell? ⟨w.heap.size+1+1+1,i,none⟩=(#[.pointer (some ⟨w.heap.size+1+1,0,none⟩)]:Array Value)[i]?)/\(∀ i,w'.cell? ⟨w.heap.size+1+1,i,none⟩=(#[cellD w' (w.heap.size+1+1) 0,cellD w' (w.heap.size+1+1) 1,cellD w' (w.heap.size+1+1) 2,cellD w' (w.heap.size+1+1) 3,cellD w' (w.heap.size+1+1) 4]:Array Value)[i]?)/\(∀ i,w'.frozen? ⟨w.heap.size+1+1,i,none⟩=false)) (first | exact hS _ hN.drew | (refine hS _ ?_;(repeat refine Near.set ?_ _ _);exact hN.drew.ext h2))
  (first
    | (go_at_call 46
       refine (clone_any Al cl L _ (hI.ext (Ext.refl W).drew) (by omega)).mono ?_
       rintro e w' ⟨v',rfl,h1,h2⟩
       obtain⟨As,cs,rfl,hs1,hs2⟩:=h1.ints.slice))
 obtain⟨hP,hH,hE⟩:=play_start (p:=w.heap.size+1+1) hx (by omega) g3 ((Ext.refl W).drew.trans h2) h1 hl ha hn hb
 have hbg:=hH _ _ g1 (by omega)
 have hbo:=hH _ _ g2 (by omega)
 have hbm:=hH _ _ g4 (by omega)
 clear hH g1 g2 g3 g4 hS hN h1 h2 hI cm hmin hmlt
 rename_i hh
 clear hh
 have hT:=hdo _ _ hE hP
 clear hdo
 generalize World.setCell _ _ _=W2 at *
 have cbm:=hbm.cells
 have hnf:(binOp .neq 55 (.func (.func f) #[] cap) .nilFunc).run Tryz.prog W2=.ok (.bool true) W2:=by kernel_rfl
 go_wp2_with fail
 generalize hr:T.run (TS0 L ans)=r at hT hfin
 obtain⟨o,S⟩:=r
 clear hr
 cases o with
 | some a =>
   refine hT.mono ?_
   rintro e w3 ⟨rfl,hP3,hK3⟩
   have hbg3:=hbg.keep hK3
   have hbo3:=hbo.keep hK3
   have hbm3:=hbm.keep hK3
   have hE3:Ext w w3:=Below.trans hE hK3.below
   clear hbg hbo hbm hE hK3 hT hP cbm hnf
   have cbg:=hbg3.cells
   have fbg:=frozen_of_heap hbg3.1
   have cbo:=hbo3.cells
   have fbo:=frozen_of_heap hbo3.1
   go_wp2_with fail
   have fgo:w.heap.size≠w.heap.size+1:=by omega
   have hg4:=heap_setCell (i:=0) hbg3.1 (.int .i64 a)
   have hP4:Plays w.heap.size (w3.setCell ⟨w.heap.size,0,none⟩ (.int .i64 a)) (w.heap.size+1+1) S:=by
    obtain⟨q,vA,vL,vC,vN,L',hM⟩:=hP3
    exact⟨q,vA,vL,vC,vN,L',hM.setO hbg3.2 (Nat.le_refl _) _ _⟩
   have hbm4:=hbm3.setO (b:=w.heap.size) (by omega) hbg3.2 0 (.int .i64 a)
   have hbo4:=hbo3.setO (b:=w.heap.size) (by omega) hbg3.2 0 (.int .i64 a)
   have hbg4:HeldP (w3.setCell ⟨w.heap.size,0,none⟩ (.int .i64 a)) (w.heap.size+1+1) w.heap.size (.cells #[.int .i64 a] 3 (0,0)):=⟨hg4,fun h'=>hbg3.2 ((ownR_same (heap_setCell_ne _ _ (by omega)) _).1 h')⟩
   have hE4:Ext w (w3.setCell ⟨w.heap.size,0,none⟩ (.int .i64 a)):=hE3.setCell (Nat.le_refl _) _
   clear hP3 hbg3 hbo3 hbm3 hE3 cbg fbg cbo fbo hg4
   generalize World.setCell _ _ _=w4 at *
   generalize hbq:w.heap.size+1=bo at hbm4 hbo4 hP4 ⊢
   have fgo1:w.heap.size≠bo:=by omega
   have fgo2:bo≠w.heap.size:=by omega
   clear fgo
   have cbg:=hbg4.cells
   have fbg:=frozen_of_heap hbg4.1
   have cbo:=hbo4.cells
   have fbo:=frozen_of_heap hbo4.1
   go_region
   all_goals
    generalize hW5:World.drew _=W5
    have hsm:SameW w4 W5:=by
     rw [<- hW5]
     repeat first | with_reducible exact SameW.refl _ | with_reducible refine SameW.drew2 ?_ | refine SameW.set ?_ hbg4.1 rfl | refine SameW.set ?_ hbo4.1 rfl
    clear hW5 cbg fbg cbo fbo
    have hP5:=hP4.ext hsm.ext
    have hbm5:=hbm4.ext hsm.ext hP4.lt
    have hbg5:=hbg4.ext hsm.ext (by rw [hbq];exact hP4.lt)
    have hbo5:=hbo4.ext hsm.ext hP4.lt
    have hE5:Ext w W5:=hE4.trans hsm.ext
    clear hP4 hbm4 hbg4 hbo4 hE4 hsm
    go_wp2_with fail
    refine leaves_cons (f:=51) (args:=#[.pointer (some ⟨bo+1+1,0,none⟩),.pointer (some ⟨w.heap.size,0,none⟩),.pointer (some ⟨bo,0,none⟩)]) (by simp) (by simp [go_sem]) ?_
    refine (end_okI w.heap.size _ S _ _ _ _ _ hP5 hbm5 (by rw [<- hbq];exact hbg5) hbo5 (by omega)).mono ?_
    rintro e u' w4 ⟨rfl,rfl,hg,⟨vC,vN,vs,ho,hO,hvs,hvc⟩,hB⟩
    have cg:=cell_of_heap hg
    have co:=cell_of_heap ho
    have cg0:=cg 0
    have co0:=co 0
    have co1:=co 1
    have co2:=co 2
    have co3:=co 3
    refine⟨.tuple #[.int .i64 a,.agg #[.bool true,vC,vN,vs]],?_,hfin _ _ hO ⟨_,vC,vN,vs,rfl,hvs,hvc⟩ (Below.trans hE5 hB)⟩
    simp [results,Tryz.results14,go_sem,cg0,co0,co1,co2,co3]
 | none =>
   refine hT.mono ?_
   rintro e w3 ⟨rfl,hP3,hK3⟩
   have hbg3:=hbg.keep hK3
   have hbo3:=hbo.keep hK3
   have hbm3:=hbm.keep hK3
   have hE3:Ext w w3:=Below.trans hE hK3.below
   clear hbg hbo hbm hE hK3 hT hP cbm hnf
   refine leaves_cons (f:=51) (args:=#[.pointer (some ⟨w.heap.size+1+1+1,0,none⟩),.pointer (some ⟨w.heap.size,0,none⟩),.pointer (some ⟨w.heap.size+1,0,none⟩)]) (by simp) (by simp [go_sem]) ?_
   refine (end_stopI w.heap.size _ S _ _ _ _ [] _ hP3 hbm3 hbg3 hbo3 (Nat.le_refl _) (by omega)).mono ?_
   rintro e u' w4 ⟨rfl,rfl,hg,⟨vC,vN,vs,ho,hO,hvs,hvc⟩,hB⟩
   have cg:=cell_of_heap hg
   have co:=cell_of_heap ho
   have cg0:=cg 0
   have co0:=co 0
   have co1:=co 1
   have co2:=co 2
   have co3:=co 3
   refine⟨.tuple #[.int .i64 0,.agg #[.bool false,vC,vN,vs]],?_,hfin _ _ hO ⟨_,vC,vN,vs,rfl,hvs,hvc⟩ (Below.trans hE3 hB)⟩
   simp [results,Tryz.results14,go_sem,cg0,co0,co1,co2,co3]
end Go.Proofs.YtmmmiplmiooioaaGreat
