/-
  RenameApartSaid: part 2 of its proof.
-/
import Derived.Test.YtbphlkaihfbgeaaJRenameApartSaid1
import Derived.Laws.FloatArith
import Derived.Laws.ComplexArith
import Derived.Shelf.Strconv.Itoa0
import Derived.Shelf.Bits.Mul64
import Derived.Shelf.Slices.Reverse
import Derived.Ground.Names2Prog
import Derived.Shelf.Slices.Clone
import Derived.Shelf.Slices.Cells
import Derived.Ground.SlgnProg
import Derived.Shelf.SlicesE.Clone
import Derived.Test.YtbphlkaihfbgeaaProg
import Derived.Lib.LaidTab
import Derived.Laws.StructEq
import Derived.ScopeJumps
import Derived.WalkMore
namespace Kv
inductive SPc
 | a | b | c | d | e (v:Int)
deriving DecidableEq
def SPc.tree (x y me:Int):SPc->Prog Int
 | .a=>.write x (me+1) fun _=>.read y fun v=>if v≠0 then .ret 1 else .write y 1 fun _=>.read x fun v=>if v=me+1 then .ret 0 else .ret 2
 | .b=>.read y fun v=>if v≠0 then .ret 1 else .write y 1 fun _=>.read x fun v=>if v=me+1 then .ret 0 else .ret 2
 | .c=>.write y 1 fun _=>.read x fun v=>if v=me+1 then .ret 0 else .ret 2
 | .d=>.read x fun v=>if v=me+1 then .ret 0 else .ret 2
 | .e v=>.ret v
theorem passM_tree {x y:Reg}(hx:x.kind=1)(hy:y.kind=1)(me:Int):passM x y me=SPc.tree x.base y.base me .a:=by
 unfold passM regW regR
 rw [if_pos hx,if_pos hx,if_pos hy,if_pos hy]
 rfl
def SPc.step (me X Y:Int):SPc->Int × Int × SPc
 | .a=>(me+1,Y,.b)
 | .b=>(X,Y,if Y≠0 then .e 1 else .c)
 | .c=>(X,1,.d)
 | .d=>(X,Y,if X=me+1 then .e 0 else .e 2)
 | .e v=>(X,Y,.e v)
structure SplOk (many:Nat) (pc:Nat->SPc) (X Y:Int):Prop where
 i1:∀ t,t<many->pc t=.d∨pc t=.e 0∨pc t=.e 2->Y=1
 i2:∀ t,t<many->pc t=.e 0->∀ s,s<many->s≠t->(pc s=.c∨pc s=.d->X≠s+1)/\pc s≠.e 0
 i3:Y≠0->∃ t,t<many/\(pc t=.d∨pc t=.e 0∨pc t=.e 2)
 i4:∀ t,t<many->pc t=.e 2->X≠t+1
 i5:(∃ t,t<many/\pc t≠.a)->∃ s,s<many/\X=(s:Int)+1/\pc s≠.a
 i6:∀ t v,t<many->pc t=.e v->v=0∨v=1∨v=2
 i7:∀ t,t<many->pc t=.e 1->Y≠0
 i8:Y=0∨Y=1
theorem SplOk.start (many:Nat):SplOk many (fun _=>.a) 0 0 :=
 ⟨fun _ _ h=>(by rcases h with h | h | h <;> cases h),fun _ _ h=>(by cases h),fun h=>absurd rfl h,fun _ _ h=>(by cases h),fun ⟨_,_,h⟩=>absurd rfl h,fun _ _ _ h=>(by cases h),fun _ _ h=>(by cases h),.inl rfl⟩
def putP (pc:Nat->SPc) (t:Nat) (q:SPc):Nat->SPc:=fun s=>if s=t then q else pc s
theorem putP_self (pc:Nat->SPc)(t:Nat)(q:SPc):putP pc t q t=q:=if_pos rfl
theorem putP_ne {pc:Nat->SPc}{t s:Nat}{q:SPc}(h:s≠t):putP pc t q s=pc s:=if_neg h
theorem SplOk.step {many:Nat}{pc:Nat->SPc}{X Y:Int}(h:SplOk many pc X Y){t:Nat}(ht:t<many)(hnv:∀ v,pc t≠.e v) :
  SplOk many (putP pc t ((pc t).step t X Y).2.2) ((pc t).step t X Y).1 ((pc t).step t X Y).2.1:=by
 obtain⟨i1,i2,i3,i4,i5,i6,i7,i8⟩:=h
 have P:∀ (q:SPc) (s:Nat),putP pc t q s=if s=t then q else pc s:=fun _ _=>rfl
 cases hp:pc t with
 | e v=>exact absurd hp (hnv v)
 | a =>
   simp only [SPc.step]
   refine⟨fun s hs hq=>?_,fun s hs hq u hu hne=>?_,fun hy=>?_,fun s hs hq=>?_,fun _=>⟨t,ht,rfl,by rw [putP_self];simp⟩,fun s v hs hq=>?_,fun s hs hq=>?_,i8⟩
   · by_cases e:s=t
     · subst e;rw [putP_self] at hq;rcases hq with hq | hq | hq <;> cases hq
     · rw [putP_ne e] at hq;exact i1 s hs hq
   · have es:s≠t:=fun e=>by subst e;rw [putP_self] at hq;cases hq
     rw [putP_ne es] at hq
     by_cases eu:u=t
     · subst eu;rw [putP_self];exact⟨fun h=>(by rcases h with h | h <;> cases h),by simp⟩
     · rw [putP_ne eu];exact⟨fun _=>by omega,(i2 s hs hq u hu hne).2⟩
   · obtain⟨s,hs,hq⟩:=i3 hy
     have es:s≠t:=fun e=>by subst e;rw [hp] at hq;rcases hq with hq | hq | hq <;> cases hq
     exact⟨s,hs,by rw [putP_ne es];exact hq⟩
   · have es:s≠t:=fun e=>by subst e;rw [putP_self] at hq;cases hq
     omega
   · have es:s≠t:=fun e=>by subst e;rw [putP_self] at hq;cases hq
     rw [putP_ne es] at hq;exact i6 s v hs hq
   · have es:s≠t:=fun e=>by subst e;rw [putP_self] at hq;cases hq
     rw [putP_ne es] at hq;exact i7 s hs hq
 | b =>
   simp only [SPc.step]
   by_cases hy:Y≠0
   · rw [if_pos hy]
     refine⟨fun s hs hq=>?_,fun s hs hq u hu hne=>?_,fun hy=>?_,fun s hs hq=>?_,fun _=>?_,fun s v hs hq=>?_,fun s hs hq=>hy,i8⟩
     · by_cases e:s=t
       · subst e;rw [putP_self] at hq;rcases hq with hq | hq | hq <;> cases hq
       · rw [putP_ne e] at hq;exact i1 s hs hq
     · have es:s≠t:=fun e=>by subst e;rw [putP_self] at hq;cases hq
       rw [putP_ne es] at hq
       by_cases eu:u=t
       · subst eu;rw [putP_self];exact⟨fun h=>(by rcases h with h | h <;> cases h),by simp⟩
       · rw [putP_ne eu];exact i2 s hs hq u hu hne
     · obtain⟨s,hs,hq⟩:=i3 hy
       have es:s≠t:=fun e=>by subst e;rw [hp] at hq;rcases hq with hq | hq | hq <;> cases hq
       exact⟨s,hs,by rw [putP_ne es];exact hq⟩
     · have es:s≠t:=fun e=>by subst e;rw [putP_self] at hq;cases hq
       rw [putP_ne es] at hq;exact i4 s hs hq
     · obtain⟨s,hs,h1,h2⟩:=i5 ⟨t,ht,by rw [hp];simp⟩
       exact⟨s,hs,h1,by rw [P];split <;> simp [h2]⟩
     · by_cases e:s=t
       · subst e;rw [putP_self] at hq;injection hq with hq;omega
       · rw [putP_ne e] at hq;exact i6 s v hs hq
   · rw [if_neg hy]
     have hy0:Y=0:=by omega
     refine⟨fun s hs hq=>?_,fun s hs hq u hu hne=>?_,fun hy=>absurd hy0 hy,fun s hs hq=>?_,fun _=>?_,fun s v hs hq=>?_,fun s hs hq=>?_,i8⟩
     · by_cases e:s=t
       · subst e;rw [putP_self] at hq;rcases hq with hq | hq | hq <;> cases hq
       · rw [putP_ne e] at hq;exact i1 s hs hq
     · have es:s≠t:=fun e=>by subst e;rw [putP_self] at hq;cases hq
       rw [putP_ne es] at hq
       have:=i1 s hs (.inr (.inl hq))
       omega
     · have es:s≠t:=fun e=>by subst e;rw [putP_self] at hq;cases hq
       rw [putP_ne es] at hq;exact i4 s hs hq
     · obtain⟨s,hs,h1,h2⟩:=i5 ⟨t,ht,by rw [hp];simp⟩
       exact⟨s,hs,h1,by rw [P];split <;> simp [h2]⟩
     · have es:s≠t:=fun e=>by subst e;rw [putP_self] at hq;cases hq
       rw [putP_ne es] at hq;exact i6 s v hs hq
     · have es:s≠t:=fun e=>by subst e;rw [putP_self] at hq;cases hq
       rw [putP_ne es] at hq;exact i7 s hs hq
 | c =>
   simp only [SPc.step]
   refine⟨fun _ _ _=>rfl,fun s hs hq u hu hne=>?_,fun _=>⟨t,ht,.inl (putP_self _ _ _)⟩,fun s hs hq=>?_,fun _=>?_,fun s v hs hq=>?_,fun s hs hq=>by decide,.inr rfl⟩
   · have es:s≠t:=fun e=>by subst e;rw [putP_self] at hq;cases hq
     rw [putP_ne es] at hq
     by_cases eu:u=t
     · subst eu;rw [putP_self];exact⟨fun _=>(i2 s hs hq u hu hne).1 (.inl hp),by simp⟩
     · rw [putP_ne eu];exact i2 s hs hq u hu hne
   · have es:s≠t:=fun e=>by subst e;rw [putP_self] at hq;cases hq
     rw [putP_ne es] at hq;exact i4 s hs hq
   · obtain⟨s,hs,h1,h2⟩:=i5 ⟨t,ht,by rw [hp];simp⟩
     exact⟨s,hs,h1,by rw [P];split <;> simp [h2]⟩
   · have es:s≠t:=fun e=>by subst e;rw [putP_self] at hq;cases hq
     rw [putP_ne es] at hq;exact i6 s v hs hq
 | d =>
   simp only [SPc.step]
   have hY:=i1 t ht (.inl hp)
   by_cases hx:X=t+1
   · rw [if_pos hx]
     refine⟨fun _ _ _=>hY,fun s hs hq u hu hne=>?_,fun _=>⟨t,ht,.inr (.inl (putP_self _ _ _))⟩,fun s hs hq=>?_,fun _=>?_,fun s v hs hq=>?_,fun s hs hq=>by omega,i8⟩
     · by_cases es:s=t
       · subst es
         rw [putP_ne hne]
         refine⟨fun _=>by omega,fun hu0=>?_⟩
         exact (i2 u hu hu0 s hs (Ne.symm hne)).1 (.inr hp) hx
       · rw [putP_ne es] at hq
         exact absurd hx ((i2 s hs hq t ht (Ne.symm es)).1 (.inr hp))
     · have es:s≠t:=fun e=>by subst e;rw [putP_self] at hq;cases hq
       rw [putP_ne es] at hq;exact i4 s hs hq
     · obtain⟨s,hs,h1,h2⟩:=i5 ⟨t,ht,by rw [hp];simp⟩
       exact⟨s,hs,h1,by rw [P];split <;> simp [h2]⟩
     · by_cases e:s=t
       · subst e;rw [putP_self] at hq;injection hq with hq;omega
       · rw [putP_ne e] at hq;exact i6 s v hs hq
   · rw [if_neg hx]
     refine⟨fun _ _ _=>hY,fun s hs hq u hu hne=>?_,fun _=>⟨t,ht,.inr (.inr (putP_self _ _ _))⟩,fun s hs hq=>?_,fun _=>?_,fun s v hs hq=>?_,fun s hs hq=>by omega,i8⟩
     · have es:s≠t:=fun e=>by subst e;rw [putP_self] at hq;cases hq
       rw [putP_ne es] at hq
       by_cases eu:u=t
       · subst eu;rw [putP_self];exact⟨fun h=>(by rcases h with h | h <;> cases h),by simp⟩
       · rw [putP_ne eu];exact i2 s hs hq u hu hne
     · by_cases e:s=t
       · subst e;exact hx
       · rw [putP_ne e] at hq;exact i4 s hs hq
     · obtain⟨s,hs,h1,h2⟩:=i5 ⟨t,ht,by rw [hp];simp⟩
       exact⟨s,hs,h1,by rw [P];split <;> simp [h2]⟩
     · by_cases e:s=t
       · subst e;rw [putP_self] at hq;injection hq with hq;omega
       · rw [putP_ne e] at hq;exact i6 s v hs hq
def toldN (pc:Nat->SPc) (many:Nat) (v:Int):Nat:=cnt (fun t=>decide (pc t=.e v)) many
def SPc.ended:SPc->Bool
 | .e _=>true
 | _=>false
def endedN (pc:Nat->SPc) (many:Nat):Nat:=cnt (fun t=>(pc t).ended) many
theorem SplOk.notAll {many:Nat}{pc:Nat->SPc}{X Y:Int}(h:SplOk many pc X Y)(hm:1<=many):toldN pc many 1<many/\toldN pc many 2<many:=by
 have l1:toldN pc many 1<=many:=cnt_le _ _
 have l2:toldN pc many 2<=many:=cnt_le _ _
 constructor
 · by_cases e:toldN pc many 1=many
   · have ha:=cnt_all many e
     have h0:=of_decide_eq_true (ha 0 (by omega))
     obtain⟨t,ht,hq⟩:=h.i3 (h.i7 0 (by omega) h0)
     have:=of_decide_eq_true (ha t ht)
     rw [this] at hq
     rcases hq with hq | hq | hq <;> simp at hq
   · omega
 · by_cases e:toldN pc many 2=many
   · have ha:=cnt_all many e
     have h0:=of_decide_eq_true (ha 0 (by omega))
     obtain⟨s,hs,h1,_⟩:=h.i5 ⟨0,by omega,by rw [h0];simp⟩
     exact absurd h1 (h.i4 s hs (of_decide_eq_true (ha s hs)))
   · omega
theorem SplOk.lone {pc:Nat->SPc}{X Y:Int}(h:SplOk 1 pc X Y)(he:endedN pc 1=1):toldN pc 1 0=1:=by
 have h1:=cnt_all 1 he 0 (by omega)
 obtain⟨n1,n2⟩:=h.notAll (by omega)
 refine cnt_full 1 fun t ht=>?_
 obtain rfl:t=0:=by omega
 cases hp:pc 0 with
 | e v =>
   have hv:=h.i6 0 v (by omega) hp
   rcases hv with rfl | rfl | rfl
   · simp
   · have:toldN pc 1 1=1:=cnt_full 1 fun t ht=>by
      obtain rfl:t=0:=by omega
      simp [hp]
     omega
   · have:toldN pc 1 2=1:=cnt_full 1 fun t ht=>by
      obtain rfl:t=0:=by omega
      simp [hp]
     omega
 | a=>rw [hp] at h1;cases h1
 | b=>rw [hp] at h1;cases h1
 | c=>rw [hp] at h1;cases h1
 | d=>rw [hp] at h1;cases h1
structure GSt (N:Nat) (pc:Nat->Nat->Nat->SPc) (cur:Nat->Nat × Nat) (X Y:Nat->Nat->Int):Prop where
 spl:∀ x y,SplOk N (pc x y) (X x y) (Y x y)
 here:∀ t,t<N->∀ x y,pc x y t≠.a->(x,y)=cur t∨pc x y t=.e 1∨pc x y t=.e 2
 left:∀ t,t<N->∀ x y,pc x y t=.e 1->x<(cur t).1
 down:∀ t,t<N->∀ x y,pc x y t=.e 2->y<(cur t).2
 le:∀ t,t<N->∀ x y,pc x y t≠.a->x<=(cur t).1/\y<=(cur t).2
 hasL:∀ t,t<N->∀ c,c<(cur t).1->∃ y,pc c y t=.e 1
 hasD:∀ t,t<N->∀ d,d<(cur t).2->∃ x,pc x d t=.e 2
 cross:∀ t,t<N->∀ c y x d,pc c y t=.e 1->pc x d t=.e 2->¬ (y<=d/\x<=c)
theorem GSt.start (N:Nat):GSt N (fun _ _ _=>.a) (fun _=>(0,0)) (fun _ _=>0) (fun _ _=>0) :=
 ⟨fun _ _=>.start N,fun _ _ _ _ h=>absurd rfl h,fun _ _ _ _ h=>(by cases h),fun _ _ _ _ h=>(by cases h),fun _ _ _ _ h=>absurd rfl h,fun _ _ c h=>absurd h (Nat.not_lt_zero c),fun _ _ d h=>absurd h (Nat.not_lt_zero d),fun _ _ _ _ _ _ h=>(by cases h)⟩
theorem max_of {P:Nat->Prop}:∀ (B y0:Nat),P y0->(∀ y,P y->y<=y0+B)->∃ m,P m/\∀ y,P y->y<=m
 | 0,y0,h,hb=>⟨y0,h,fun y hy=>hb y hy⟩
 | B+1,y0,h,hb=>by
   by_cases hq:∃ y,P y/\y0<y
   · obtain⟨y1,h1,h2⟩:=hq
     exact max_of B y1 h1 fun y hy=>by have:=hb y hy;omega
   · exact⟨y0,h,fun y hy=>Nat.le_of_not_lt fun hlt=>hq ⟨y,hy,hlt⟩⟩
theorem bounded (f:Nat->Nat):∀ N,∃ B,∀ t,t<N->f t<=B
 | 0=>⟨0,fun _ h=>absurd h (by omega)⟩
 | N+1=>by
   obtain⟨B,h⟩:=bounded f N
   refine⟨max B (f N),fun t ht=>?_⟩
   by_cases e:t=N
   · subst e;omega
   · have:=h t (by omega);omega
section
variable {N:Nat} {pc:Nat->Nat->Nat->SPc} {cur:Nat->Nat × Nat} {X Y:Nat->Nat->Int}
def Asked (pc:Nat->Nat->Nat->SPc) (t:Nat):Prop:=∃ x y,pc x y t≠.a
theorem GSt.col (h:GSt N pc cur X Y){c y1 t1:Nat}(ht1:t1<N)(hb:pc c y1 t1≠.a):∃ s,s<N/\(cur s).1=c/\y1<=(cur s).2/\Asked pc s:=by
 obtain⟨B,hB⟩:=bounded (fun t=>(cur t).2) N
 obtain⟨ym,⟨t2,ht2,hb2⟩,hmax⟩:=max_of (P:=fun y=>∃ t,t<N/\pc c y t≠.a) B y1 ⟨t1,ht1,hb⟩ (fun y ⟨t,ht,hq⟩=>by
  have h1:=(h.le t ht c y hq).2
  have h2:(cur t).2<=B:=hB t ht
  omega)
 have hy1:=hmax y1 ⟨t1,ht1,hb⟩
 have hk:∃ s,s<N/\pc c ym s≠.a/\pc c ym s≠.e 1:=by
  by_cases he:∃ t,t<N/\pc c ym t=.e 1
  · obtain⟨t,ht,he⟩:=he
    obtain⟨s,hs,hq⟩:=(h.spl c ym).i3 ((h.spl c ym).i7 t ht he)
    exact⟨s,hs,by rcases hq with hq | hq | hq <;> rw [hq] <;> simp,by rcases hq with hq | hq | hq <;> rw [hq] <;> simp⟩
  · exact⟨t2,ht2,hb2,fun e=>he ⟨t2,ht2,e⟩⟩
 obtain⟨s,hs,hsa,hs1⟩:=hk
 refine⟨s,hs,?_,?_,⟨c,ym,hsa⟩⟩
 · rcases h.here s hs c ym hsa with hq | hq | hq
   · rw [<- hq]
   · exact absurd hq hs1
   · have hle:=(h.le s hs c ym hsa).1
     refine Nat.le_antisymm (Nat.le_of_not_lt fun hlt=>?_) hle
     obtain⟨y',hy'⟩:=h.hasL s hs c hlt
     exact h.cross s hs c y' c ym hy' hq ⟨hmax y' ⟨s,hs,by rw [hy'];simp⟩,Nat.le_refl _⟩
 · rcases h.here s hs c ym hsa with hq | hq | hq
   · rw [<- hq];exact hy1
   · exact absurd hq hs1
   · have:=h.down s hs c ym hq
     omega
theorem GSt.row (h:GSt N pc cur X Y){d x1 t1:Nat}(ht1:t1<N)(hb:pc x1 d t1≠.a):∃ s,s<N/\(cur s).2=d/\x1<=(cur s).1/\Asked pc s:=by
 obtain⟨B,hB⟩:=bounded (fun t=>(cur t).1) N
 obtain⟨xm,⟨t2,ht2,hb2⟩,hmax⟩:=max_of (P:=fun x=>∃ t,t<N/\pc x d t≠.a) B x1 ⟨t1,ht1,hb⟩ (fun x ⟨t,ht,hq⟩=>by
  have h1:=(h.le t ht x d hq).1
  have h2:(cur t).1<=B:=hB t ht
  omega)
 have hx1:=hmax x1 ⟨t1,ht1,hb⟩
 obtain⟨s,hs,hX,hsa⟩:=(h.spl xm d).i5 ⟨t2,ht2,hb2⟩
 have hs2:pc xm d s≠.e 2:=fun e=>(h.spl xm d).i4 s hs e hX
 refine⟨s,hs,?_,?_,⟨xm,d,hsa⟩⟩
 · rcases h.here s hs xm d hsa with hq | hq | hq
   · rw [<- hq]
   · have hle:=(h.le s hs xm d hsa).2
     refine Nat.le_antisymm (Nat.le_of_not_lt fun hlt=>?_) hle
     obtain⟨x',hx'⟩:=h.hasD s hs d hlt
     exact h.cross s hs xm d x' d hq hx' ⟨Nat.le_refl _,hmax x' ⟨s,hs,by rw [hx'];simp⟩⟩
   · exact absurd hq hs2
 · rcases h.here s hs xm d hsa with hq | hq | hq
   · rw [<- hq];exact hx1
   · have:=h.left s hs xm d hq
     omega
   · exact absurd hq hs2
theorem list_cnt {p:Nat->Bool}:∀ (N:Nat) (l:List Nat),l.Nodup->(∀ t∈l,t<N/\p t=true)->l.length<=cnt p N
 | 0,l,_,h=>by
   cases l with
   | nil=>simp
   | cons a l=>exact absurd (h a (by simp)).1 (by omega)
 | N+1,l,hn,h=>by
   unfold cnt
   by_cases hm:N∈l
   · have hp:=(h N hm).2
     have h1:=list_cnt N (l.erase N) (hn.erase N) fun t ht=>by
      have h2:=(hn.mem_erase_iff).1 ht
      have:=h t h2.2
      exact⟨by omega,this.2⟩
     rw [List.length_erase_of_mem hm] at h1
     rw [if_pos hp]
     omega
   · have h1:=list_cnt N l hn fun t ht=>by
      have:=h t ht
      have hne:t≠N:=fun e=>hm (e▸ht)
      exact⟨by omega,this.2⟩
     omega
theorem list_of (f:Nat->Nat):∀ n,(∀ i j,i<n->j<n->f i=f j->i=j)->∃ l:List Nat,l.Nodup/\l.length=n/\∀ t∈l,∃ i,i<n/\t=f i
 | 0,_=>⟨[],List.nodup_nil,rfl,fun t h=>by cases h⟩
 | n+1,h=>by
   obtain⟨l,h1,h2,h3⟩:=list_of f n fun i j hi hj=>h i j (by omega) (by omega)
   refine⟨f n :: l,List.nodup_cons.2 ⟨fun hm=>?_,h1⟩,by simp [h2],fun t ht=>?_⟩
   · obtain⟨i,hi,he⟩:=h3 _ hm
     have:=h n i (by omega) (by omega) he
     omega
   · rcases List.mem_cons.1 ht with rfl | ht
     · exact⟨n,by omega,rfl⟩
     · obtain⟨i,hi,he⟩:=h3 t ht
       exact⟨i,by omega,he⟩
theorem GSt.many (h:GSt N pc cur X Y){t:Nat}(ht:t<N){p:Nat->Bool}(hp:∀ s,s<N->Asked pc s->p s=true)(hpt:p t=true):(cur t).1+(cur t).2+1<=cnt p N:=by
 have hK:∀ c,∃ s,c<(cur t).1->∃ y1,pc c y1 t=.e 1/\s<N/\(cur s).1=c/\y1<=(cur s).2/\Asked pc s:=fun c=>by
  by_cases hc:c<(cur t).1
  · obtain⟨y1,hy⟩:=h.hasL t ht c hc
    obtain⟨s,h1,h2,h3,h4⟩:=h.col ht (show pc c y1 t≠.a by rw [hy];simp)
    exact⟨s,fun _=>⟨y1,hy,h1,h2,h3,h4⟩⟩
  · exact⟨0,fun e=>absurd e hc⟩
 have hR:∀ d,∃ s,d<(cur t).2->∃ x1,pc x1 d t=.e 2/\s<N/\(cur s).2=d/\x1<=(cur s).1/\Asked pc s:=fun d=>by
  by_cases hd:d<(cur t).2
  · obtain⟨x1,hx⟩:=h.hasD t ht d hd
    obtain⟨s,h1,h2,h3,h4⟩:=h.row ht (show pc x1 d t≠.a by rw [hx];simp)
    exact⟨s,fun _=>⟨x1,hx,h1,h2,h3,h4⟩⟩
  · exact⟨0,fun e=>absurd e hd⟩
 obtain⟨K,hK⟩:=Classical.axiomOfChoice hK
 obtain⟨R,hR⟩:=Classical.axiomOfChoice hR
 have hKR:∀ c d,c<(cur t).1->d<(cur t).2->K c≠R d:=fun c d hc hd e=>by
  obtain⟨y1,a1,a2,a3,a4,_⟩:=hK c hc
  obtain⟨x1,b1,b2,b3,b4,_⟩:=hR d hd
  rw [e] at a3 a4
  exact h.cross t ht c y1 x1 d a1 b1 ⟨by omega,by omega⟩
 obtain⟨f,hf⟩:∃ f:Nat->Nat,∀ i,f i=if i<(cur t).1 then K i else if i<(cur t).1+(cur t).2 then R (i-(cur t).1) else t:=⟨_,fun _=>rfl⟩
 have f1:∀ i,i<(cur t).1->f i=K i:=fun i hi=>by rw [hf,if_pos hi]
 have f2:∀ i,¬ i<(cur t).1->i<(cur t).1+(cur t).2->f i=R (i-(cur t).1):=fun i hi h2=>by rw [hf,if_neg hi,if_pos h2]
 have f3:∀ i,¬ i<(cur t).1->¬ i<(cur t).1+(cur t).2->f i=t:=fun i hi h2=>by rw [hf,if_neg hi,if_neg h2]
 have c1:∀ i,i<(cur t).1->(cur (K i)).1=i:=fun i hi=>by obtain⟨_,_,_,q,_⟩:=hK i hi;exact q
 have c2:∀ i,i<(cur t).2->(cur (R i)).2=i:=fun i hi=>by obtain⟨_,_,_,q,_⟩:=hR i hi;exact q
 obtain⟨l,hn,hl,hm⟩:=list_of f ((cur t).1+(cur t).2+1) fun i j hi hj e=>by
  by_cases i1:i<(cur t).1
  · rw [f1 i i1] at e
    by_cases j1:j<(cur t).1
    · rw [f1 j j1] at e
      have:=c1 i i1
      rw [e,c1 j j1] at this
      exact this.symm
    · by_cases j2:j<(cur t).1+(cur t).2
      · rw [f2 j j1 j2] at e
        exact absurd e (hKR _ _ i1 (by omega))
      · rw [f3 j j1 j2] at e
        have:=c1 i i1
        rw [e] at this
        omega
  · by_cases i2:i<(cur t).1+(cur t).2
    · rw [f2 i i1 i2] at e
      by_cases j1:j<(cur t).1
      · rw [f1 j j1] at e
        exact absurd e.symm (hKR _ _ j1 (by omega))
      · by_cases j2:j<(cur t).1+(cur t).2
        · rw [f2 j j1 j2] at e
          have:=c2 (i-(cur t).1) (by omega)
          rw [e,c2 (j-(cur t).1) (by omega)] at this
          omega
        · rw [f3 j j1 j2] at e
          have:=c2 (i-(cur t).1) (by omega)
          rw [e] at this
          omega
    · rw [f3 i i1 i2] at e
      by_cases j1:j<(cur t).1
      · rw [f1 j j1] at e
        have:=c1 j j1
        rw [<- e] at this
        omega
      · by_cases j2:j<(cur t).1+(cur t).2
        · rw [f2 j j1 j2] at e
          have:=c2 (j-(cur t).1) (by omega)
          rw [<- e] at this
          omega
        · omega
 rw [<- hl]
 refine list_cnt N l hn fun s hs=>?_
 obtain⟨i,hi,rfl⟩:=hm s hs
 by_cases i1:i<(cur t).1
 · rw [f1 i i1]
   obtain⟨_,_,q1,_,_,q2⟩:=hK i i1
   exact⟨q1,hp _ q1 q2⟩
 · by_cases i2:i<(cur t).1+(cur t).2
   · rw [f2 i i1 i2]
     obtain⟨_,_,q1,_,_,q2⟩:=hR (i-(cur t).1) (by omega)
     exact⟨q1,hp _ q1 q2⟩
   · rw [f3 i i1 i2]
     exact⟨ht,hpt⟩
end
def put3 (pc:Nat->Nat->Nat->SPc) (x y t:Nat) (q:SPc):Nat->Nat->Nat->SPc:=fun x' y'=>if x'=x/\y'=y then putP (pc x y) t q else pc x' y'
def put2 (X:Nat->Nat->Int) (x y:Nat) (v:Int):Nat->Nat->Int:=fun x' y'=>if x'=x/\y'=y then v else X x' y'
def putC (cur:Nat->Nat × Nat) (t:Nat) (c:Nat × Nat):Nat->Nat × Nat:=fun s=>if s=t then c else cur s
def nextC (q:SPc) (c:Nat × Nat):Nat × Nat:=if q=.e 1 then (c.1+1,c.2) else if q=.e 2 then (c.1,c.2+1) else c
theorem putC_self (cur:Nat->Nat × Nat)(t:Nat)(c:Nat × Nat):putC cur t c t=c:=if_pos rfl
theorem putC_ne {cur:Nat->Nat × Nat}{t s:Nat}{c:Nat × Nat}(h:s≠t):putC cur t c s=cur s:=if_neg h
theorem put3_at (pc:Nat->Nat->Nat->SPc)(x y t:Nat)(q:SPc):put3 pc x y t q x y=putP (pc x y) t q:=if_pos ⟨rfl,rfl⟩
theorem put3_self (pc:Nat->Nat->Nat->SPc)(x y t:Nat)(q:SPc):put3 pc x y t q x y t=q:=by rw [put3_at,putP_self]
theorem put3_ne {pc:Nat->Nat->Nat->SPc}{x y t x' y':Nat}{q:SPc}(h:¬ (x'=x/\y'=y)):put3 pc x y t q x' y'=pc x' y':=if_neg h
theorem put3_other {pc:Nat->Nat->Nat->SPc}{x y t s:Nat}{q:SPc}(h:s≠t)(x' y':Nat):put3 pc x y t q x' y' s=pc x' y' s:=by
 by_cases e:x'=x/\y'=y
 · obtain⟨rfl,rfl⟩:=e
   rw [put3_at,putP_ne h]
 · rw [put3_ne e]
theorem put2_at (X:Nat->Nat->Int)(x y:Nat)(v:Int):put2 X x y v x y=v:=if_pos ⟨rfl,rfl⟩
theorem put2_ne {X:Nat->Nat->Int}{x y x' y':Nat}{v:Int}(h:¬ (x'=x/\y'=y)):put2 X x y v x' y'=X x' y':=if_neg h
theorem nextC_le (q:SPc)(c:Nat × Nat):c.1<=(nextC q c).1/\c.2<=(nextC q c).2:=by
 unfold nextC
 split
 · exact⟨by simp,by simp⟩
 · split
   · exact⟨by simp,by simp⟩
   · exact⟨Nat.le_refl _,Nat.le_refl _⟩
theorem step_ne_a (me X Y:Int)(q:SPc):(q.step me X Y).2.2≠.a:=by
 cases q with
 | a=>simp [SPc.step]
 | b=>simp only [SPc.step];split <;> simp
 | c=>simp [SPc.step]
 | d=>simp only [SPc.step];split <;> simp
 | e v=>simp [SPc.step]
theorem GSt.step {N:Nat}{pc:Nat->Nat->Nat->SPc}{cur:Nat->Nat × Nat}{X Y:Nat->Nat->Int}(h:GSt N pc cur X Y){t x y:Nat}(ht:t<N)(hc:cur t=(x,y))(hv:∀ v,pc x y t≠.e v){X' Y':Int}{q:SPc}(hs:(pc x y t).step t (X x y) (Y x y)=(X',Y',q)) :
  GSt N (put3 pc x y t q) (putC cur t (nextC q (x,y))) (put2 X x y X') (put2 Y x y Y'):=by
 have hqa:q≠.a:=by have:=step_ne_a t (X x y) (Y x y) (pc x y t);rw [hs] at this;exact this
 have hle:=nextC_le q (x,y)
 have hc1:(cur t).1=x:=by rw [hc]
 have hc2:(cur t).2=y:=by rw [hc]
 refine⟨fun x' y'=>?_,fun s hs' x' y'=>?_,fun s hs' x' y'=>?_,fun s hs' x' y'=>?_,fun s hs' x' y'=>?_,fun s hs' c=>?_,fun s hs' d=>?_,fun s hs' c y1 x1 d=>?_⟩
 · by_cases e:x'=x/\y'=y
   · obtain⟨rfl,rfl⟩:=e
     rw [put3_at,put2_at,put2_at]
     have:=(h.spl x' y').step ht hv
     rw [hs] at this
     exact this
   · rw [put3_ne e,put2_ne e,put2_ne e]
     exact h.spl x' y'
 · by_cases es:s=t
   · subst es
     rw [putC_self]
     by_cases e:x'=x/\y'=y
     · obtain⟨rfl,rfl⟩:=e
       rw [put3_self]
       intro _
       unfold nextC
       by_cases e1:q=.e 1
       · exact .inr (.inl e1)
       · by_cases e2:q=.e 2
         · exact .inr (.inr e2)
         · rw [if_neg e1,if_neg e2];exact .inl rfl
     · rw [put3_ne e]
       intro hq
       rcases h.here s hs' x' y' hq with h1 | h1
       · rw [hc] at h1
         injection h1 with h1 h2
         exact absurd ⟨h1,h2⟩ e
       · exact .inr h1
   · rw [put3_other es,putC_ne es]
     exact h.here s hs' x' y'
 · by_cases es:s=t
   · subst es
     rw [putC_self]
     by_cases e:x'=x/\y'=y
     · obtain⟨rfl,rfl⟩:=e
       rw [put3_self]
       intro e1
       unfold nextC
       rw [if_pos e1]
       simp
     · rw [put3_ne e]
       intro hq
       have:=h.left s hs' x' y' hq
       rw [hc1] at this
       exact Nat.lt_of_lt_of_le this hle.1
   · rw [put3_other es,putC_ne es]
     exact h.left s hs' x' y'
 · by_cases es:s=t
   · subst es
     rw [putC_self]
     by_cases e:x'=x/\y'=y
     · obtain⟨rfl,rfl⟩:=e
       rw [put3_self]
       intro e1
       unfold nextC
       rw [if_neg (by rw [e1];decide),if_pos e1]
       simp
     · rw [put3_ne e]
       intro hq
       have:=h.down s hs' x' y' hq
       rw [hc2] at this
       exact Nat.lt_of_lt_of_le this hle.2
   · rw [put3_other es,putC_ne es]
     exact h.down s hs' x' y'
 · by_cases es:s=t
   · subst es
     rw [putC_self]
     by_cases e:x'=x/\y'=y
     · obtain⟨rfl,rfl⟩:=e
       exact fun _=>hle
     · rw [put3_ne e]
       intro hq
       have:=h.le s hs' x' y' hq
       rw [hc1,hc2] at this
       exact⟨Nat.le_trans this.1 hle.1,Nat.le_trans this.2 hle.2⟩
   · rw [put3_other es,putC_ne es]
     exact h.le s hs' x' y'
 · by_cases es:s=t
   · subst es
     rw [putC_self]
     intro hlt
     by_cases hcx:c<x
     · obtain⟨y',hy'⟩:=h.hasL s hs' c (by rw [hc1];exact hcx)
       exact⟨y',by rw [put3_ne (by omega)];exact hy'⟩
     · have e1:q=.e 1:=by
        refine Classical.byContradiction fun e1=>?_
        unfold nextC at hlt
        rw [if_neg e1] at hlt
        split at hlt <;> simp at hlt <;> omega
       have hcx:c=x:=by
        unfold nextC at hlt
        rw [if_pos e1] at hlt
        simp at hlt
        omega
       exact⟨y,by rw [hcx,put3_self];exact e1⟩
   · rw [putC_ne es]
     intro hlt
     obtain⟨y',hy'⟩:=h.hasL s hs' c hlt
     exact⟨y',by rw [put3_other es];exact hy'⟩
 · by_cases es:s=t
   · subst es
     rw [putC_self]
     intro hlt
     by_cases hcy:d<y
     · obtain⟨x',hx'⟩:=h.hasD s hs' d (by rw [hc2];exact hcy)
       exact⟨x',by rw [put3_ne (by omega)];exact hx'⟩
     · have e2:q=.e 2:=by
        refine Classical.byContradiction fun e2=>?_
        unfold nextC at hlt
        rw [if_neg e2] at hlt
        split at hlt <;> simp at hlt <;> omega
       have hdy:d=y:=by
        unfold nextC at hlt
        rw [if_neg (by rw [e2];decide),if_pos e2] at hlt
        simp at hlt
        omega
       exact⟨x,by rw [hdy,put3_self];exact e2⟩
   · rw [putC_ne es]
     intro hlt
     obtain⟨x',hx'⟩:=h.hasD s hs' d hlt
     exact⟨x',by rw [put3_other es];exact hx'⟩
 · by_cases es:s=t
   · subst es
     by_cases e:c=x/\y1=y
     · obtain⟨rfl,rfl⟩:=e
       rw [put3_self]
       intro e1
       by_cases e':x1=c/\d=y1
       · obtain⟨rfl,rfl⟩:=e'
         rw [put3_self,e1]
         intro e2
         cases e2
       · rw [put3_ne e']
         intro hq
         have:=h.down s hs' x1 d hq
         omega
     · rw [put3_ne e]
       intro h1
       have h2:=h.left s hs' c y1 h1
       by_cases e':x1=x/\d=y
       · obtain⟨rfl,rfl⟩:=e'
         intro _
         omega
       · rw [put3_ne e']
         exact fun hq=>h.cross s hs' c y1 x1 d h1 hq
   · rw [put3_other es,put3_other es]
     exact h.cross s hs' c y1 x1 d
end Kv
namespace Kv
open Ieee
def eU:Nat:=1074
theorem eU_eq:eU=1074:=rfl
def U:Nat:=2 ^ eU
theorem U_split (a b:Nat)(h:a+b=1074):2 ^ a*2 ^ b=U:=by
 unfold U;rw [eU_eq,<- h,Nat.pow_add]
theorem U_pos:0<U:=Nat.two_pow_pos eU
abbrev D:Format:=Ieee.double
theorem D_binade:D.binade=4503599627370496:=rfl
theorem D_sign:D.signWeight=9223372036854775808:=rfl
theorem D_least:D.leastPlace=-1074:=rfl
theorem D_inf:D.infRung=9218868437227405312:=rfl
theorem D_frac:D.fractionBits=52:=rfl
theorem signed_pow (s:Bool)(m u k:Nat):signed s m (u+k)=signed s m u*(2 ^ k:Nat):=by
 unfold signed
 rw [Nat.shiftLeft_eq,Nat.shiftLeft_eq,Nat.pow_add,<- Nat.mul_assoc]
 split
 · rw [Int.natCast_mul,Int.neg_mul]
 · rw [Int.natCast_mul]
def Num (x:Nat) (v:Int):Prop:=∃ s m p,D.read x=.number s m p/\-1074<=p/\m<9007199254740992/\signed s m (p+1074).toNat=v
theorem read_number {x:Nat}{s:Bool}{m:Nat}{p:Int}(h:D.read x=.number s m p):-1074<=p/\m<9007199254740992:=by
 unfold Format.read at h
 rw [D_binade,D_sign,D_least,D_inf] at h
 dsimp only at h
 split at h
 · injection h with h1 h2 h3
   omega
 · split at h
   · injection h with h1 h2 h3
     omega
   · split at h <;> cases h
theorem num_of {x:Nat}{s:Bool}{m:Nat}{p:Int}(h:D.read x=.number s m p):Num x (signed s m (p+1074).toNat) :=
 ⟨s,m,p,h,(read_number h).1,(read_number h).2,rfl⟩
theorem compare_mul (a b k:Int)(hk:0<k):compare (a*k) (b*k)=compare a b:=by
 rcases Int.lt_trichotomy a b with h | h | h
 · rw [Int.compare_eq_lt.2 h,Int.compare_eq_lt.2 (Int.mul_lt_mul_of_pos_right h hk)]
 · subst h;rw [Int.compare_eq_eq.2 rfl,Int.compare_eq_eq.2 rfl]
 · rw [Int.compare_eq_gt.2 h,Int.compare_eq_gt.2 (Int.mul_lt_mul_of_pos_right h hk)]
theorem order_num {x y:Nat}{a b:Int}(hx:Num x a)(hy:Num y b):D.order x y=some (compare a b):=by
 obtain⟨s,m,p,h1,h2,_,rfl⟩:=hx
 obtain⟨t,n,q,k1,k2,_,rfl⟩:=hy
 unfold Format.order
 rw [h1,k1]
 show some (compare (signed s m (p-min p q).toNat) (signed t n (q-min p q).toNat))=_
 have e1:(p+1074).toNat=(p-min p q).toNat+(min p q+1074).toNat:=by omega
 have e2:(q+1074).toNat=(q-min p q).toNat+(min p q+1074).toNat:=by omega
 rw [e1,e2,signed_pow,signed_pow,compare_mul]
 have:=Nat.two_pow_pos (min p q+1074).toNat
 omega
theorem log2_mul_pow (m k:Nat)(hm:m≠0):(m*2 ^ k).log2=m.log2+k:=by
 have hp:=Nat.two_pow_pos k
 have h1:=Nat.log2_self_le hm
 have h2:=Nat.lt_log2_self (n:=m)
 rw [Nat.log2_eq_iff (by have:=Nat.mul_pos (Nat.pos_of_ne_zero hm) hp;omega)]
 constructor
 · rw [Nat.pow_add];exact Nat.mul_le_mul_right _ h1
 · rw [show m.log2+k+1=(m.log2+1)+k from by omega,Nat.pow_add 2 (m.log2+1) k]
   exact Nat.mul_lt_mul_of_pos_right h2 hp
def rungOf (N:Nat):Nat:=(N.log2+1022)*4503599627370496+N*2 ^ (52-N.log2)
theorem log2_le52 {N:Nat}(h0:N≠0)(h:N<9007199254740992):N.log2<=52:=by
 have:N.log2<53:=(Nat.log2_lt h0).2 (by simpa using h)
 omega
theorem kept_bounds {N:Nat}(h0:N≠0)(h:N<9007199254740992):4503599627370496<=N*2 ^ (52-N.log2)/\N*2 ^ (52-N.log2)<9007199254740992:=by
 have hL:=log2_le52 h0 h
 have h1:=Nat.log2_self_le h0
 have h2:=Nat.lt_log2_self (n:=N)
 have hp:=Nat.two_pow_pos (52-N.log2)
 constructor
 · have:2 ^ N.log2*2 ^ (52-N.log2)<=N*2 ^ (52-N.log2):=Nat.mul_le_mul_right _ h1
   rw [<- Nat.pow_add,show N.log2+(52-N.log2)=52 from by omega] at this
   simpa using this
 · have:N*2 ^ (52-N.log2)<2 ^ (N.log2+1)*2 ^ (52-N.log2):=Nat.mul_lt_mul_of_pos_right h2 hp
   rw [<- Nat.pow_add,show N.log2+1+(52-N.log2)=53 from by omega] at this
   simpa using this
theorem cut_zero (neg:Bool)(n:Nat):Toward.even.cut neg n 0=n:=by
 unfold Toward.cut
 simp [Nat.mod_one]
theorem cut_exact (neg:Bool)(K drop:Nat)(hK:K≠0):Toward.even.cut neg (K*2 ^ drop) drop=K:=by
 unfold Toward.cut
 have hm:min drop ((K*2 ^ drop).log2+2)=drop:=by rw [log2_mul_pow _ _ hK];omega
 have hp:=Nat.two_pow_pos drop
 simp only [hm,Nat.one_shiftLeft,Nat.mul_div_cancel _ hp,Nat.mul_mod_left]
 have h1:decide (2 ^ drop<2*0)=false:=by simp
 have h2:(2 ^ drop==2*0)=false:=by rw [beq_eq_false_iff_ne];omega
 rw [h1,h2]
 rfl
theorem nearest_whole (neg:Bool)(mag:Nat)(place:Int)(N:Nat)(hp:-1074<=place)(h0:N≠0)(hN:N<9007199254740992)(h:mag*2 ^ (place+1074).toNat=N*U) :
  D.nearest neg mag place=D.word neg (rungOf N):=by
 have hL:=log2_le52 h0 hN
 have hm0:mag≠0:=by
  rintro rfl
  rw [Nat.zero_mul] at h
  have:=Nat.mul_pos (Nat.pos_of_ne_zero h0) U_pos
  omega
 have hlog:(mag.log2:Int)+place=N.log2:=by
  have e1:=log2_mul_pow mag (place+1074).toNat hm0
  have e2:=log2_mul_pow N eU h0
  rw [h] at e1
  have e3:N*U=N*2 ^ eU:=rfl
  rw [e3,e2,eU_eq] at e1
  omega
 have hlast:max (place+mag.log2-(D.fractionBits:Int)) D.leastPlace=(N.log2:Int)-52:=by rw [D_frac,D_least];omega
 have hkept:Toward.even.cut neg (mag <<< (place-((N.log2:Int)-52)).toNat) (((N.log2:Int)-52)-place).toNat=N*2 ^ (52-N.log2):=by
  rw [Nat.shiftLeft_eq]
  by_cases hc:(N.log2:Int)-52<=place
  · rw [show (((N.log2:Int)-52)-place).toNat=0 from by omega,cut_zero]
    have hq:=Nat.two_pow_pos (N.log2+1022)
    refine Nat.eq_of_mul_eq_mul_right hq ?_
    rw [Nat.mul_assoc,<- Nat.pow_add,Nat.mul_assoc,U_split _ _ (by omega),<- h]
    congr 2
    omega
  · rw [show (place-((N.log2:Int)-52)).toNat=0 from by omega,Nat.pow_zero,Nat.mul_one]
    have hmag:mag=N*2 ^ (52-N.log2)*2 ^ (((N.log2:Int)-52)-place).toNat:=by
     have hq:=Nat.two_pow_pos (place+1074).toNat
     refine Nat.eq_of_mul_eq_mul_right hq ?_
     rw [Nat.mul_assoc,Nat.mul_assoc,<- Nat.pow_add,U_split _ _ (by omega),h]
    have hK:N*2 ^ (52-N.log2)≠0:=by have:=(kept_bounds h0 hN).1;omega
    rw [hmag,cut_exact _ _ _ hK]
 unfold Format.nearest
 rw [if_neg hm0]
 simp only [hlast]
 rw [hkept]
 congr 1
 have hb:=(kept_bounds h0 hN).2
 rw [D_least,D_binade,D_inf,show ((N.log2:Int)-52 - -1074).toNat=N.log2+1022 from by omega]
 unfold rungOf
 have:(N.log2+1022)*4503599627370496<=1074*4503599627370496:=Nat.mul_le_mul_right _ (by omega)
 omega
theorem word_sign (neg:Bool)(r:Nat)(h:r<9223372036854775808):(D.word neg r / 9223372036854775808 % 2==1)=neg/\D.word neg r % 9223372036854775808=r:=by
 unfold Format.word
 rw [D_sign]
 cases neg
 · simp
   omega
 · simp
   omega
theorem num_word (neg:Bool)(N:Nat)(h0:N≠0)(hN:N<9007199254740992):Num (D.word neg (rungOf N)) (signed neg N 0*U):=by
 have hL:=log2_le52 h0 hN
 obtain⟨hb1,hb2⟩:=kept_bounds h0 hN
 have hr:D.read (D.word neg (rungOf N))=.number neg (N*2 ^ (52-N.log2)) ((N.log2:Int)-52):=by
  have hlt:rungOf N<9218868437227405312:=by
   unfold rungOf
   have:(N.log2+1022)*4503599627370496<=1074*4503599627370496:=Nat.mul_le_mul_right _ (by omega)
   omega
  obtain⟨w1,w2⟩:=word_sign neg (rungOf N) (by omega)
  unfold Format.read
  rw [D_sign,D_binade,D_inf,D_least]
  simp only [w1,w2]
  have hge:4503599627370496<=rungOf N:=by unfold rungOf;omega
  rw [if_neg (by omega),if_pos hlt]
  have hdiv:rungOf N / 4503599627370496=N.log2+1023:=by unfold rungOf;omega
  have hmod:rungOf N % 4503599627370496=N*2 ^ (52-N.log2)-4503599627370496:=by unfold rungOf;omega
  rw [hdiv,hmod]
  rw [show 4503599627370496+(N*2 ^ (52-N.log2)-4503599627370496)=N*2 ^ (52-N.log2) from by omega,show (-1074:Int)+((N.log2+1023-1:Nat):Int)=(N.log2:Int)-52 from by omega]
 refine⟨neg,_,_,hr,by omega,hb2,?_⟩
 unfold signed
 have e:(N*2 ^ (52-N.log2)) <<< ((N.log2:Int)-52+1074).toNat=N*U:=by
  rw [Nat.shiftLeft_eq,Nat.mul_assoc,U_split _ _ (by omega)]
 rw [e,Nat.shiftLeft_zero]
 split
 · rw [Int.natCast_mul,Int.neg_mul]
 · rw [Int.natCast_mul]
theorem num_zero (neg:Bool):Num (D.word neg 0) 0:=by
 obtain⟨w1,w2⟩:=word_sign neg 0 (by omega)
 have hr:D.read (D.word neg 0)=.number neg 0 (-1074):=by
  unfold Format.read
  rw [D_sign,D_binade,D_inf,D_least]
  dsimp only
  rw [w1,w2,if_pos (by omega)]
 refine⟨neg,0,-1074,hr,by omega,by omega,?_⟩
 unfold signed
 simp
theorem num_nearest (neg:Bool)(mag:Nat)(place:Int)(v:Int)(hp:-1074<=place)(h1:-9007199254740992<v)(h2:v<9007199254740992)(h:signed neg mag (place+1074).toNat=v*U) :
  Num (D.nearest neg mag place) (v*U):=by
 have hU:=U_pos
 by_cases hm:mag=0
 · subst hm
   have hv:v*U=0:=by rw [<- h];unfold signed;simp
   rw [hv]
   unfold Format.nearest
   rw [if_pos rfl]
   exact num_zero neg
 · unfold signed at h
   rw [Nat.shiftLeft_eq] at h
   have hmp:=Nat.mul_pos (Nat.pos_of_ne_zero hm) (Nat.two_pow_pos (place+1074).toNat)
   have hN:mag*2 ^ (place+1074).toNat=v.natAbs*U/\signed neg v.natAbs 0=v:=by
    cases neg
    · simp only [Bool.false_eq_true,if_false] at h
      have hv:0<v:=by
       refine Decidable.byContradiction fun hn=>?_
       have:=Int.mul_le_mul_of_nonneg_right (show v<=0 from by omega) (show (0:Int)<=(U:Int) from by omega)
       omega
      have e:v=(v.natAbs:Int):=by omega
      refine⟨?_,?_⟩
      · rw [e,<- Int.natCast_mul] at h
        simpa using Int.ofNat.inj h
      · unfold signed;simp;omega
    · simp only [if_true] at h
      have hv:v<0:=by
       refine Decidable.byContradiction fun hn=>?_
       have:=Int.mul_nonneg (show 0<=v from by omega) (show (0:Int)<=(U:Int) from by omega)
       omega
      have e:v=-(v.natAbs:Int):=by omega
      refine⟨?_,?_⟩
      · rw [e,Int.neg_mul,<- Int.natCast_mul] at h
        have h':=Int.neg_inj.1 h
        simpa using Int.ofNat.inj h'
      · unfold signed;simp;omega
   have h0:v.natAbs≠0:=by
    intro e
    rw [e,Nat.zero_mul] at hN
    omega
   rw [nearest_whole neg mag place v.natAbs hp h0 (by omega) hN.1]
   have:=num_word neg v.natAbs h0 (by omega)
   rw [hN.2] at this
   exact this
def DNum (d:Datum) (v:Int):Prop:=∃ s m p,d=.number s m p/\-1074<=p/\m<9007199254740992/\signed s m (p+1074).toNat=v
theorem Num.d {x:Nat}{v:Int}(h:Num x v):DNum (D.read x) v:=h
theorem signed_zero_mag (s:Bool)(k:Nat):signed s 0 k=0:=by unfold signed;simp
theorem signed_abs (t:Int)(s:Bool)(hs:t≠0->s=decide (t<0))(k:Nat):signed s t.natAbs k=t*(2 ^ k:Nat):=by
 by_cases h0:t=0
 · subst h0;rw [Int.natAbs_zero,signed_zero_mag,Int.zero_mul]
 · rw [hs h0]
   unfold signed
   rw [Nat.shiftLeft_eq,Int.natCast_mul]
   by_cases h:t<0
   · rw [decide_eq_true h,if_pos rfl,<- Int.neg_mul]
     congr 1
     omega
   · rw [decide_eq_false h,if_neg (by simp)]
     congr 1
     omega
theorem sum_dnum {d e:Datum}{u v:Int}(hd:DNum d (u*U))(he:DNum e (v*U))(h1:-9007199254740992<u+v)(h2:u+v<9007199254740992) :
  ∃ r,(d.sum e).map D.write=some r/\Num r ((u+v)*U):=by
 obtain⟨s,m,p,rfl,a1,a2,a3⟩:=hd
 obtain⟨t,n,q,rfl,b1,b2,b3⟩:=he
 refine⟨_,rfl,?_⟩
 show Num (D.nearest (if signed s m (p-min p q).toNat+signed t n (q-min p q).toNat=0 then s&&t else decide (signed s m (p-min p q).toNat+signed t n (q-min p q).toNat<0)) (signed s m (p-min p q).toNat+signed t n (q-min p q).toNat).natAbs (min p q)) _
 refine num_nearest _ _ _ _ (by omega) h1 h2 ?_
 have e1:(p+1074).toNat=(p-min p q).toNat+(min p q+1074).toNat:=by omega
 have e2:(q+1074).toNat=(q-min p q).toNat+(min p q+1074).toNat:=by omega
 rw [e1,signed_pow] at a3
 rw [e2,signed_pow] at b3
 rw [signed_abs _ _ (fun h=>by rw [if_neg h]),Int.add_mul,Int.add_mul,a3,b3]
theorem add_num {x y:Nat}{u v:Int}(hx:Num x (u*U))(hy:Num y (v*U))(h1:-9007199254740992<u+v)(h2:u+v<9007199254740992) :
  ∃ r,D.add x y=some r/\Num r ((u+v)*U):=sum_dnum hx.d hy.d h1 h2
theorem floatOfInt_eq (n:Int):Go.floatOfInt .f64 n=D.nearest (decide (n<0)) n.natAbs 0:=rfl
theorem num_F (n:Int)(h1:-9007199254740992<n)(h2:n<9007199254740992):Num (Go.floatOfInt .f64 n) (n*U):=by
 rw [floatOfInt_eq]
 refine num_nearest (decide (n<0)) n.natAbs 0 n (by omega) h1 h2 ?_
 rw [signed_abs _ _ (fun _=>rfl),show ((0:Int)+1074).toNat=eU from rfl]
 rfl
theorem toInt_num {x:Nat}{v:Int}(h:Num x v):(D.read x).toInt .zero=some (v.tdiv (U:Int)):=by
 obtain⟨s,m,p,h1,h2,h3,rfl⟩:=h
 rw [h1]
 show some (signed s (Toward.zero.cut s (m <<< p.toNat) (-p).toNat) 0)=_
 congr 1
 have hcut:Toward.zero.cut s (m <<< p.toNat) (-p).toNat=m*2 ^ (p+1074).toNat / U:=by
  unfold Toward.cut
  simp only [Bool.toNat_false,Nat.add_zero]
  rw [Nat.one_shiftLeft,Nat.shiftLeft_eq]
  by_cases hp:0<=p
  · rw [show (-p).toNat=0 from by omega,Nat.zero_min,Nat.pow_zero,Nat.div_one]
    have e:2 ^ (p+1074).toNat=2 ^ p.toNat*U:=by
     rw [show (p+1074).toNat=p.toNat+eU from by rw [eU_eq];omega,Nat.pow_add]
     rfl
    rw [e,<- Nat.mul_assoc,Nat.mul_div_cancel _ U_pos]
  · rw [show p.toNat=0 from by omega,Nat.pow_zero,Nat.mul_one]
    have e:=U_split (-p).toNat (p+1074).toNat (by omega)
    rw [<- e,Nat.mul_div_mul_right _ _ (Nat.two_pow_pos _)]
    by_cases hd:(-p).toNat<=m.log2+2
    · rw [Nat.min_eq_left hd]
    · rw [Nat.min_eq_right (by omega)]
      have hm:=Nat.lt_log2_self (n:=m)
      have q1:m<2 ^ (m.log2+2):=Nat.lt_of_lt_of_le hm (Nat.pow_le_pow_right (by omega) (by omega))
      have q2:m<2 ^ (-p).toNat:=Nat.lt_of_lt_of_le hm (Nat.pow_le_pow_right (by omega) (by omega))
      rw [Nat.div_eq_of_lt q1,Nat.div_eq_of_lt q2]
 rw [hcut]
 unfold signed
 rw [Nat.shiftLeft_zero,Nat.shiftLeft_eq]
 cases s
 · simp only [Bool.false_eq_true,if_false]
   rw [Int.ofNat_tdiv]
 · simp only [if_true]
   rw [Int.neg_tdiv,Int.ofNat_tdiv]
theorem leqB {x y:Nat}{a b:Int}(hx:Num x a)(hy:Num y b):(Go.FloatKind.f64.format.order x y==some Ordering.lt||Go.FloatKind.f64.format.order x y==some Ordering.eq)=decide (a<=b):=by
 have h:Go.FloatKind.f64.format.order x y=some (compare a b):=order_num hx hy
 rw [h]
 rcases Int.lt_trichotomy a b with h | h | h
 · rw [Int.compare_eq_lt.2 h,decide_eq_true (by omega)];rfl
 · subst h;rw [Int.compare_eq_eq.2 rfl,decide_eq_true (by omega)];rfl
 · rw [Int.compare_eq_gt.2 h,decide_eq_false (by omega)];rfl
theorem geqB {x y:Nat}{a b:Int}(hx:Num x a)(hy:Num y b):(Go.FloatKind.f64.format.order x y==some Ordering.gt||Go.FloatKind.f64.format.order x y==some Ordering.eq)=decide (b<=a):=by
 have h:Go.FloatKind.f64.format.order x y=some (compare a b):=order_num hx hy
 rw [h]
 rcases Int.lt_trichotomy a b with h | h | h
 · rw [Int.compare_eq_lt.2 h,decide_eq_false (by omega)];rfl
 · subst h;rw [Int.compare_eq_eq.2 rfl,decide_eq_true (by omega)];rfl
 · rw [Int.compare_eq_gt.2 h,decide_eq_true (by omega)];rfl
theorem eqB {x y:Nat}{a b:Int}(hx:Num x a)(hy:Num y b):(Go.FloatKind.f64.format.order x y==some Ordering.eq)=decide (a=b):=by
 have h:Go.FloatKind.f64.format.order x y=some (compare a b):=order_num hx hy
 rw [h]
 rcases Int.lt_trichotomy a b with h | h | h
 · rw [Int.compare_eq_lt.2 h,decide_eq_false (by omega)];rfl
 · subst h;rw [Int.compare_eq_eq.2 rfl,decide_eq_true (by omega)];rfl
 · rw [Int.compare_eq_gt.2 h,decide_eq_false (by omega)];rfl
theorem cLo:Go.floatOfInt .f64 (-1048576)=13920626448202203136:=by decide +kernel
theorem cHi:Go.floatOfInt .f64 1048576=4697254411347427328:=by decide +kernel
theorem num_lo:Num 13920626448202203136 (-1048576*U):=by rw [<- cLo];exact num_F _ (by omega) (by omega)
theorem num_hi:Num 4697254411347427328 (1048576*U):=by rw [<- cHi];exact num_F _ (by omega) (by omega)
def partOf (x:Nat):Option Int :=
 match D.read x with
 | .number s m p=>if signed s m (p+1074).toNat % (U:Int)=0/\-1048576*(U:Int)<=signed s m (p+1074).toNat/\signed s m (p+1074).toNat<=1048576*(U:Int) then some (signed s m (p+1074).toNat / (U:Int)) else none
 | _=>none
theorem partOf_num {x:Nat}{v:Int}(h:Num x v):partOf x=if v % (U:Int)=0/\-1048576*(U:Int)<=v/\v<=1048576*(U:Int) then some (v / (U:Int)) else none:=by
 obtain⟨s,m,p,h1,_,_,rfl⟩:=h
 unfold partOf
 rw [h1]
theorem Ui_pos:(0:Int)<(U:Int):=by have:=U_pos;omega
theorem le_of_mulU {a b:Int}(h:a*(U:Int)<=b*(U:Int)):a<=b:=Int.le_of_mul_le_mul_right h Ui_pos
theorem lt_of_mulU {a b:Int}(h:a*(U:Int)<b*(U:Int)):a<b:=Int.lt_of_mul_lt_mul_right h (by have:=Ui_pos;omega)
theorem mulU_le {a b:Int}(h:a<=b):a*(U:Int)<=b*(U:Int):=Int.mul_le_mul_of_nonneg_right h (by have:=Ui_pos;omega)
theorem decU_le (a b:Int):decide (a*(U:Int)<=b*(U:Int))=decide (a<=b):=by
 rw [decide_eq_decide];exact⟨le_of_mulU,mulU_le⟩
theorem partOf_whole {x:Nat}{n:Int}(h:Num x (n*U))(h1:-1048576<=n)(h2:n<=1048576):partOf x=some n:=by
 rw [partOf_num h,if_pos ⟨Int.mul_emod_left _ _,mulU_le h1,mulU_le h2⟩,Int.mul_ediv_cancel _ (by have:=Ui_pos;omega)]
inductive Cls (x:Nat):Prop
 | whole (n:Int) (h:Num x (n*U)) (h1:-1048576<=n) (h2:n<=1048576) (hp:partOf x=some n)
 | broken (v:Int) (h:Num x v) (h1:-1048576*(U:Int)<=v) (h2:v<=1048576*(U:Int)) (h3:v % (U:Int)≠0) (hp:partOf x=none)
 | low (h:Go.FloatKind.f64.format.order x 13920626448202203136=some Ordering.lt) (h2:Go.FloatKind.f64.format.order x x=some Ordering.eq) (hp:partOf x=none)
 | high (h:Go.FloatKind.f64.format.order x 13920626448202203136=some Ordering.gt) (h1:Go.FloatKind.f64.format.order x 4697254411347427328=some Ordering.gt) (h2:Go.FloatKind.f64.format.order x x=some Ordering.eq) (hp:partOf x=none)
 | nan (h:∀ y,Go.FloatKind.f64.format.order x y=none) (hp:partOf x=none)
theorem cls_of (x:Nat):Cls x:=by
 have hU:=Ui_pos
 cases hr:D.read x with
 | number s m p =>
   have hn:=num_of hr
   generalize signed s m (p+1074).toNat=v at hn
   by_cases h1:v < -1048576*(U:Int)
   · refine .low ?_ ?_ ?_
     · show D.order _ _=_
       rw [order_num hn num_lo,Int.compare_eq_lt.2 h1]
     · show D.order _ _=_
       rw [order_num hn hn,Int.compare_eq_eq.2 rfl]
     · rw [partOf_num hn,if_neg (by omega)]
   · by_cases h2:1048576*(U:Int)<v
     · refine .high ?_ ?_ ?_ ?_
       · show D.order _ _=_
         rw [order_num hn num_lo,Int.compare_eq_gt.2 (by omega)]
       · show D.order _ _=_
         rw [order_num hn num_hi,Int.compare_eq_gt.2 h2]
       · show D.order _ _=_
         rw [order_num hn hn,Int.compare_eq_eq.2 rfl]
       · rw [partOf_num hn,if_neg (by omega)]
     · by_cases h3:v % (U:Int)=0
       · have e:v=v / (U:Int)*(U:Int):=by
          have:=Int.mul_ediv_add_emod v U
          rw [h3,Int.add_zero,Int.mul_comm] at this
          exact this.symm
         rw [e] at hn h1 h2
         have q1:-1048576<=v / (U:Int):=le_of_mulU (by omega)
         have q2:v / (U:Int)<=1048576:=le_of_mulU (by omega)
         exact .whole _ hn q1 q2 (partOf_whole hn q1 q2)
       · exact .broken v hn (by omega) (by omega) h3 (by rw [partOf_num hn,if_neg (by omega)])
 | infinity s =>
   have hl:D.read 13920626448202203136=.number true 4503599627370496 (-32):=by decide +kernel
   have hh:D.read 4697254411347427328=.number false 4503599627370496 (-32):=by decide +kernel
   have hp:partOf x=none:=by unfold partOf;rw [hr]
   have hxx:Go.FloatKind.f64.format.order x x=some Ordering.eq:=by
    show (D.read x).order (D.read x)=_
    rw [hr]
    cases s <;> rfl
   cases s
   · refine .high ?_ ?_ hxx hp
     · show (D.read x).order (D.read _)=_
       rw [hr,hl];rfl
     · show (D.read x).order (D.read _)=_
       rw [hr,hh];rfl
   · refine .low ?_ hxx hp
     show (D.read x).order (D.read _)=_
     rw [hr,hl];rfl
 | nan s t =>
   refine .nan (fun y=>?_) (by unfold partOf;rw [hr])
   show (D.read x).order (D.read y)=_
   rw [hr];rfl
theorem partOf_some {x:Nat}{n:Int}(h:partOf x=some n):Num x (n*U)/\-1048576<=n/\n<=1048576:=by
 cases cls_of x with
 | whole m hm h1 h2 hp=>rw [hp] at h;cases h;exact⟨hm,h1,h2⟩
 | broken _ _ _ _ _ hp=>rw [hp] at h;cases h
 | low _ _ hp=>rw [hp] at h;cases h
 | high _ _ _ hp=>rw [hp] at h;cases h
 | nan _ hp=>rw [hp] at h;cases h
theorem broken_cut {v:Int}(h1:-1048576*(U:Int)<=v)(h2:v<=1048576*(U:Int)):-1048576<=v.tdiv U/\v.tdiv U<=1048576:=by
 have hU:=Ui_pos
 have a1:=Int.mul_tdiv_add_tmod v U
 have a2:-(U:Int)<v.tmod U:=Int.lt_tmod_of_pos _ hU
 have a3:v.tmod U<(U:Int):=Int.tmod_lt_of_pos _ hU
 rw [Int.mul_comm] at a1
 constructor
 · have:-1048577*(U:Int)<v.tdiv U*(U:Int):=by omega
   have:=lt_of_mulU this
   omega
 · have:v.tdiv U*(U:Int)<1048577*(U:Int):=by omega
   have:=lt_of_mulU this
   omega
theorem broken_ne {v:Int}(n:Int)(h3:v % (U:Int)≠0):n*(U:Int)≠v:=by
 rintro rfl
 exact h3 (Int.mul_emod_left _ _)
theorem toInt_whole {x:Nat}{n:Int}(h:Num x (n*U))(h1:-1048576<=n)(h2:n<=1048576):Go.floatToIntVal .f64 x .i64=some n:=by
 have e:Go.FloatKind.f64.decode x=D.read x:=rfl
 unfold Go.floatToIntVal
 rw [e,toInt_num h,Int.mul_tdiv_cancel _ (by have:=Ui_pos;omega)]
 have:Go.IntKind.i64.min=-9223372036854775808:=rfl
 have:Go.IntKind.i64.max=9223372036854775807:=rfl
 dsimp only
 rw [if_pos (by omega)]
theorem toInt_broken {x:Nat}{v:Int}(h:Num x v)(h1:-1048576*(U:Int)<=v)(h2:v<=1048576*(U:Int)):Go.floatToIntVal .f64 x .i64=some (v.tdiv U):=by
 have e:Go.FloatKind.f64.decode x=D.read x:=rfl
 obtain⟨q1,q2⟩:=broken_cut h1 h2
 unfold Go.floatToIntVal
 rw [e,toInt_num h]
 have:Go.IntKind.i64.min=-9223372036854775808:=rfl
 have:Go.IntKind.i64.max=9223372036854775807:=rfl
 dsimp only
 rw [if_pos (by omega)]
end Kv
namespace Go.Proofs.Ytbphlkaihfbgeaa
open Go.RowKit Kv
def deBruijn64:List Int:=[0,1,56,2,57,49,28,3,61,58,42,50,38,29,17,4,62,47,59,36,45,43,51,22,53,39,33,30,24,18,12,5,63,55,48,27,60,41,37,16,46,35,44,21,52,32,23,11,54,26,40,15,34,20,31,10,25,14,19,9,13,8,7,6]
structure Tabs (w:World):Prop where
 pow10:Lib.TabIs Try.prog w "internal/strconv.uint64pow10" .u64 Lib.pow10Tab
 bruijn:Lib.TabIs Try.prog w "math/bits.deBruijn64tab" .u8 deBruijn64
theorem Tabs.ext {w w':World}(h:Tabs w)(hx:Ext w w'):Tabs w' :=
 ⟨Lib.tabBelow_of_tabIs h.pow10 _ hx,Lib.tabBelow_of_tabIs h.bruijn _ hx⟩
theorem whole_p (x:Nat)(w:World) :
  Calls Try.prog 198 #[.float .f64 x] w fun e w'=>(∃ n:Int,e=.returned (.tuple #[.int .i64 n,.bool (partOf x).isSome])/\∀ m,partOf x=some m->n=m)/\w=w':=by
 cases cls_of x with
 | whole n hn h1 h2 hp =>
   have c1:=geqB hn num_lo
   have c2:=leqB hn num_hi
   have c3:=eqB (num_F n (by omega) (by omega)) hn
   rw [decU_le,decide_eq_true h1] at c1
   rw [decU_le,decide_eq_true h2] at c2
   rw [decide_eq_true rfl] at c3
   have hcv:=fun W=>run_convert_float_int (P:=Try.prog) W 160 3 .f64 .i64 x n (by kernel_rfl) (by kernel_rfl) (toInt_whole hn h1 h2)
   rw [hp]
   clear hp hn h1 h2
   go_enter Try.func198,Try.ntmps198
   go_wp2_with fail
   go_ret2
   exact⟨⟨n,rfl,fun m hm=>by injection hm⟩,rfl⟩
 | broken v hv h1 h2 h3 hp =>
   have c1:=geqB hv num_lo
   have c2:=leqB hv num_hi
   obtain⟨q1,q2⟩:=broken_cut h1 h2
   have c3:=eqB (num_F (v.tdiv U) (by omega) (by omega)) hv
   rw [decide_eq_true h1] at c1
   rw [decide_eq_true h2] at c2
   rw [decide_eq_false (broken_ne _ h3)] at c3
   have hcv:=fun W=>run_convert_float_int (P:=Try.prog) W 160 3 .f64 .i64 x (v.tdiv U) (by kernel_rfl) (by kernel_rfl) (toInt_broken hv h1 h2)
   rw [hp]
   generalize v.tdiv U=n at *
   clear hp hv h1 h2 h3 q1 q2
   go_enter Try.func198,Try.ntmps198
   go_wp2_with fail
   go_ret2
   exact⟨⟨n,rfl,fun m hm=>by cases hm⟩,rfl⟩
 | low h h2 hp =>
   have c1:(FloatKind.f64.format.order x 13920626448202203136==some Ordering.gt||FloatKind.f64.format.order x 13920626448202203136==some Ordering.eq)=false:=by rw [h];rfl
   rw [hp]
   clear hp h h2
   go_enter Try.func198,Try.ntmps198
   go_wp2_with fail
   go_ret2
   exact⟨⟨0,rfl,fun m hm=>by cases hm⟩,rfl⟩
 | high h h1 h2 hp =>
   have c1:(FloatKind.f64.format.order x 13920626448202203136==some Ordering.gt||FloatKind.f64.format.order x 13920626448202203136==some Ordering.eq)=true:=by rw [h];rfl
   have c2:(FloatKind.f64.format.order x 4697254411347427328==some Ordering.lt||FloatKind.f64.format.order x 4697254411347427328==some Ordering.eq)=false:=by rw [h1];rfl
   rw [hp]
   clear hp h h1 h2
   go_enter Try.func198,Try.ntmps198
   go_wp2_with fail
   go_ret2
   exact⟨⟨0,rfl,fun m hm=>by cases hm⟩,rfl⟩
 | nan h hp =>
   have c1:(FloatKind.f64.format.order x 13920626448202203136==some Ordering.gt||FloatKind.f64.format.order x 13920626448202203136==some Ordering.eq)=false:=by rw [h];rfl
   rw [hp]
   clear hp h
   go_enter Try.func198,Try.ntmps198
   go_wp2_with fail
   go_ret2
   exact⟨⟨0,rfl,fun m hm=>by cases hm⟩,rfl⟩
def ptOf (a b:Nat):Option (Int × Int) :=
 match partOf a,partOf b with
 | some x,some y=>some (x,y)
 | _,_=>none
def ptX (p:Option (Int × Int)):Int:=match p with | some (x,_)=>x | none=>0
def ptY (p:Option (Int × Int)):Int:=match p with | some (_,y)=>y | none=>0
theorem parts_p (a b:Nat)(w:World) :
  Calls Try.prog 187 #[.complex .f64 a b] w fun e w'=>e=.returned (.tuple #[.int .i64 (ptX (ptOf a b)),.int .i64 (ptY (ptOf a b)),.bool (ptOf a b).isSome])/\w=w':=by
 have hA:=whole_p a
 have hB:=whole_p b
 unfold ptOf
 cases ha:partOf a with
 | none =>
   rw [ha] at hA
   cases hb:partOf b with
   | none =>
     rw [hb] at hB
     go_enter Try.func187,Try.ntmps187
     go_wp2_with fail
     refine (hA _).mono ?_
     rintro e w' ⟨⟨n,rfl,hn⟩,rfl⟩
     go_wp2_with fail
     refine (hB _).mono ?_
     rintro e w' ⟨⟨m,rfl,hm⟩,rfl⟩
     go_wp2_with fail
     go_ret3
     exact⟨rfl,rfl⟩
   | some y =>
     rw [hb] at hB
     go_enter Try.func187,Try.ntmps187
     go_wp2_with fail
     refine (hA _).mono ?_
     rintro e w' ⟨⟨n,rfl,hn⟩,rfl⟩
     go_wp2_with fail
     refine (hB _).mono ?_
     rintro e w' ⟨⟨m,rfl,hm⟩,rfl⟩
     go_wp2_with fail
     go_ret3
     exact⟨rfl,rfl⟩
 | some x =>
   rw [ha] at hA
   cases hb:partOf b with
   | none =>
     rw [hb] at hB
     go_enter Try.func187,Try.ntmps187
     go_wp2_with fail
     refine (hA _).mono ?_
     rintro e w' ⟨⟨n,rfl,hn⟩,rfl⟩
     go_wp2_with fail
     refine (hB _).mono ?_
     rintro e w' ⟨⟨m,rfl,hm⟩,rfl⟩
     go_wp2_with fail
     go_ret3
     exact⟨rfl,rfl⟩
   | some y =>
     rw [hb] at hB
     go_enter Try.func187,Try.ntmps187
     go_wp2_with fail
     refine (hA _).mono ?_
     rintro e w' ⟨⟨n,rfl,hn⟩,rfl⟩
     obtain rfl:=hn x rfl
     go_wp2_with fail
     refine (hB _).mono ?_
     rintro e w' ⟨⟨m,rfl,hm⟩,rfl⟩
     obtain rfl:=hm y rfl
     go_wp2_with fail
     go_ret3
     exact⟨rfl,rfl⟩
def clampR (x:Int):Int:=max (-1048576) (min x 1048576)
theorem at_p (x y:Int)(w:World) :
  Calls Try.prog 136 #[.int .i64 x,.int .i64 y] w fun e w'=>e=.returned (.complex .f64 (floatOfInt .f64 (clampR x)) (floatOfInt .f64 (clampR y)))/\w=w':=by
 go_enter Try.func136,Try.ntmps136
 go_wp2_with fail
 go_ret
 exact⟨rfl,rfl⟩
theorem pt_bd (a b:Nat):-1048576<=ptX (ptOf a b)/\ptX (ptOf a b)<=1048576/\-1048576<=ptY (ptOf a b)/\ptY (ptOf a b)<=1048576:=by
 unfold ptOf
 cases ha:partOf a with
 | none=>simp [ptX,ptY]
 | some x =>
   cases hb:partOf b with
   | none=>simp [ptX,ptY]
   | some y =>
     have h1:=partOf_some ha
     have h2:=partOf_some hb
     exact⟨h1.2.1,h1.2.2,h2.2.1,h2.2.2⟩
theorem w0:floatOfInt .f64 0=0:=by decide +kernel
theorem ptOf_some {a b:Nat}{x y:Int}(h:ptOf a b=some (x,y)):Num a (x*U)/\Num b (y*U):=by
 unfold ptOf at h
 cases ha:partOf a with
 | none=>rw [ha] at h;cases h
 | some x' =>
   cases hb:partOf b with
   | none=>rw [ha,hb] at h;cases h
   | some y' =>
     rw [ha,hb] at h
     cases h
     exact⟨(partOf_some ha).1,(partOf_some hb).1⟩
def bdP (p:Int × Int):Prop:=-1048576<=p.1/\p.1<=1048576/\-1048576<=p.2/\p.2<=1048576
theorem k4 (k:Int):(k.tmod 4+4).tmod 4=(((k % 4).toNat:Nat):Int)/\-4<k.tmod 4/\k.tmod 4<4:=by
 have h1:=Int.tmod_lt_of_pos k (show (0:Int)<4 from by omega)
 have h2:=Int.lt_tmod_of_pos k (show (0:Int)<4 from by omega)
 have h3:=Int.tmod_eq_emod_of_nonneg (a:=k.tmod 4+4) (b:=4) (by omega)
 have h4:=Int.mul_tdiv_add_tmod k 4
 refine⟨?_,h2,h1⟩
 rw [h3]
 omega
theorem ptOf_of {a b:Nat}{p:Int × Int}(ha:Num a (p.1*U))(hb:Num b (p.2*U))(h:bdP p):ptOf a b=some p:=by
 unfold ptOf
 rw [partOf_whole ha h.1 h.2.1,partOf_whole hb h.2.2.1 h.2.2.2]
end Go.Proofs.Ytbphlkaihfbgeaa
namespace Kv
def triN (d:Nat):Nat:=d*(d+1) / 2
theorem triN_succ (d:Nat):triN (d+1)=triN d+(d+1):=by
 unfold triN
 have:(d+1)*(d+1+1)=d*(d+1)+2*(d+1):=by grind
 rw [this]
 omega
theorem triN_mono {a b:Nat}(h:a<=b):triN a<=triN b:=by
 induction b with
 | zero=>rw [show a=0 from by omega];exact Nat.le_refl _
 | succ b ih =>
   by_cases hb:a=b+1
   · rw [hb];exact Nat.le_refl _
   · have:=ih (by omega)
     rw [triN_succ]
     omega
def triName (x y:Nat):Nat:=triN (x+y)+y
theorem triName_lt {x y N:Nat}(h:x+y<N):triName x y<triN N:=by
 have h1:=triN_mono (show x+y+1<=N from h)
 rw [triN_succ] at h1
 unfold triName
 omega
theorem triN_64 {d:Nat}(h:d<=64):triN d<=2080:=by
 have:=triN_mono h
 rw [show triN 64=2080 from by decide] at this
 exact this
end Kv
namespace Go.Proofs.Ytbphlkaihfbgeaa
open Go.RowKit Kv
theorem ptOf_bd {a b:Nat}{p:Int × Int}(h:ptOf a b=some p):bdP p:=by
 have:=pt_bd a b
 rw [h] at this
 exact this
theorem padd {a b c d:Nat}{p q:Int × Int}(hp:ptOf a b=some p)(hq:ptOf c d=some q)(h:bdP (p.1+q.1,p.2+q.2)) :
  ∃ re im,cSumBits .add .f64 a b c d=some (re,im)/\ptOf re im=some (p.1+q.1,p.2+q.2):=by
 obtain⟨n1,n2⟩:=ptOf_some (x:=p.1) (y:=p.2) hp
 obtain⟨n3,n4⟩:=ptOf_some (x:=q.1) (y:=q.2) hq
 obtain⟨a1,a2,a3,a4⟩:=ptOf_bd hp
 obtain⟨a5,a6,a7,a8⟩:=ptOf_bd hq
 obtain⟨r1,g1,m1⟩:=add_num n1 n3 (by omega) (by omega)
 obtain⟨r2,g2,m2⟩:=add_num n2 n4 (by omega) (by omega)
 have e1:floatBits .add .f64 a c=some r1:=g1
 have e2:floatBits .add .f64 b d=some r2:=g2
 refine⟨r1,r2,?_,?_⟩
 · unfold cSumBits
   rw [e1,e2]
   rfl
 · exact ptOf_of (p:=(p.1+q.1,p.2+q.2)) m1 m2 h
theorem pt_nat (x y:Nat)(h:x<=1000)(h':y<=1000):ptOf (floatOfInt .f64 x) (floatOfInt .f64 y)=some ((x:Int),(y:Int)) :=
 ptOf_of (p:=((x:Int),(y:Int))) (num_F x (by omega) (by omega)) (num_F y (by omega) (by omega)) ⟨by show -1048576<=(x:Int);omega,by show (x:Int)<=1048576;omega,by show -1048576<=(y:Int);omega,by show (y:Int)<=1048576;omega⟩
theorem gsize_p (d:Nat)(h:d<=64)(w:World):Calls Try.prog 135 #[.int .i64 d] w fun e w'=>e=.returned (.int .i64 (triN d))/\w=w':=by
 have hm:d*(d+1)<=64*65:=Nat.mul_le_mul h (by omega)
 have e1:max 0 (min (d:Int) 64)=d:=by omega
 have e2:=IntWalk.i64_in ((d:Int)+1) (by omega)
 have e3:IntKind.i64.wrap ((d:Int)*((d:Int)+1))=((d*(d+1):Nat):Int):=by
  rw [IntWalk.i64_in _ (by have:(d:Int)*((d:Int)+1)=((d*(d+1):Nat):Int):=by simp
                           rw [this];omega)]
  simp
 have e4:IntKind.i64.wrap ((((d*(d+1):Nat):Int)) / 2)=(triN d:Int):=by
  unfold triN
  rw [IntWalk.i64_in _ (by omega)]
  omega
 clear hm
 generalize triN d=t at *
 generalize d*(d+1)=s at *
 go_enter Try.func135,Try.ntmps135
 go_wp2_with fail
 go_ret
 exact⟨rfl,rfl⟩
theorem gdiag_p (a b x y:Nat)(h:ptOf a b=some ((x:Int),(y:Int)))(hs:x+y<64)(w:World):Calls Try.prog 186 #[.complex .f64 a b] w fun e w'=>e=.returned (.int .i64 ((x+y:Nat):Int))/\w=w':=by
 have hp:=parts_p a b
 rw [h] at hp
 simp only [ptX,ptY,Option.isSome_some] at hp
 have e1:=IntWalk.i64_in ((x:Int)+(y:Int)) (by omega)
 have e2:decide ((x:Int)<0)=false:=by rw [decide_eq_false_iff_not];omega
 have e3:decide ((y:Int)<0)=false:=by rw [decide_eq_false_iff_not];omega
 have e4:decide ((64:Int)<=(x:Int)+(y:Int))=false:=by rw [decide_eq_false_iff_not];omega
 clear h
 go_enter Try.func186,Try.ntmps186
 go_wp2_with fail
 refine (hp _).mono ?_
 rintro e w' ⟨rfl,rfl⟩
 go_wp2_with fail
 go_ret
 exact⟨by simp,rfl⟩
theorem gon_p (n a b x y:Nat)(h:ptOf a b=some ((x:Int),(y:Int)))(hs:x+y<64)(w:World):Calls Try.prog 137 #[.int .i64 n,.complex .f64 a b] w fun e w'=>e=.returned (.bool (decide (x+y<n)))/\w=w':=by
 have hp:=gdiag_p a b x y h hs
 generalize x+y=d at *
 have e2:decide ((0:Int)<=(d:Int))=true:=by rw [decide_eq_true_eq];omega
 have e3:decide ((d:Int)<(n:Int))=decide (d<n):=by simp
 clear h
 go_enter Try.func137,Try.ntmps137
 go_wp2_with fail
 refine (hp _).mono ?_
 rintro e w' ⟨rfl,rfl⟩
 go_wp2_with fail
 go_ret
 exact⟨by first | rfl | simp,rfl⟩
theorem gname_p (a b x y:Nat)(h:ptOf a b=some ((x:Int),(y:Int)))(hs:x+y<64)(w:World):Calls Try.prog 139 #[.complex .f64 a b] w fun e w'=>e=.returned (.int .i64 (triName x y))/\w=w':=by
 have hd:=gdiag_p a b x y h hs
 have hp:=parts_p a b
 rw [h] at hp
 simp only [ptX,ptY,Option.isSome_some] at hp
 have hz:=gsize_p (x+y) (by omega)
 have hb:=triN_64 (show x+y<=64 by omega)
 have hn:(triName x y:Int)=(triN (x+y):Int)+(y:Int):=by unfold triName;simp
 rw [hn]
 generalize triN (x+y)=t at *
 have e1:=IntWalk.i64_in ((t:Int)+(y:Int)) (by omega)
 have e2:decide (((x+y:Nat):Int)<0)=false:=by rw [decide_eq_false_iff_not];omega
 generalize x+y=d at *
 clear h hn
 go_enter Try.func139,Try.ntmps139
 go_wp2_with fail
 refine (hd _).mono ?_
 rintro e w' ⟨rfl,rfl⟩
 go_wp2_with fail
 refine (hp _).mono ?_
 rintro e w' ⟨rfl,rfl⟩
 go_wp2_with fail
 refine (hz _).mono ?_
 rintro e w' ⟨rfl,rfl⟩
 go_wp2_with fail
 go_ret
 exact⟨rfl,rfl⟩
set_option maxRecDepth 100000 in
set_option maxHeartbeats 2000000 in
theorem reg_write_p (B p:Nat)(S:TS)(r:Reg)(me v:Int)(w:World)(h:Plays B w p S)(hr:r.ok)(hm:0<=me/\me<r.n) :
  Calls Try.prog 42 #[.pointer (some ⟨p,0,none⟩),encR r,.int .i64 me,.int .i64 v] w (Post encU B p w ((regW r me v).run S)):=by
 generalize hR:Post encU B p w ((regW r me v).run S)=R
 have hO:Owes R encU B p w ((regW r me v).run S):=hR▸owes _ _ _ _ _
 clear hR
 obtain⟨hk,hb,hl,hn,hw⟩:=hr
 obtain⟨kind,base,loc,n,wr,rd,top⟩:=r
 simp only at hk hb hl hn hw hm hO
 unfold encR
 obtain⟨b1,hK,hP⟩:=h.entry (.cells #[.int .i64 kind,.int .i64 base,.int .i64 loc,.int .i64 n,.int .i64 wr,.int .i64 rd,.int .i64 top] 56)
 have c_b1:=b1.cells
 clear h
 unfold regW at hO
 simp only at hO
 rcases hk with rfl | rfl | rfl
 · simp at hO
   go_enter Try.func42,Try.ntmps42
   go_wp2_with fail
   refine tlast hO hK (write_p B p S _ _ _ hP) (fun _ h=>⟨rfl,h⟩) ?_
   clear hO hK hP c_b1
   intro u S w1 hr hP hk hK hO
   replace b1:=b1.keep hk
   have c_b1:=b1.cells
   clear hk hr
   go_wp2_with fail
   first | go_end0 | refine bodyPost_ret (results_none rfl _ _ _) rfl ?_
   exact hO.done hP hK
 · simp at hO
   obtain⟨hw1,hw2⟩:=hw rfl
   clear hw
   go_enter Try.func42,Try.ntmps42
   go_wp2_with fail
   refine tlast hO hK (table_write_p B p S ⟨6,base,loc,n,wr,rd,top⟩ me v _ hP hn.1 hn.2 hw1 hw2 hb.1 (by simp only;omega) hl.1 (by simp only;omega)) (fun _ h=>⟨rfl,h⟩) ?_
   clear hO hK hP c_b1
   intro u S w1 hr hP hk hK hO
   replace b1:=b1.keep hk
   have c_b1:=b1.cells
   clear hk hr
   go_wp2_with fail
   first | go_end0 | refine bodyPost_ret (results_none rfl _ _ _) rfl ?_
   exact hO.done hP hK
 · simp at hO
   go_enter Try.func42,Try.ntmps42
   go_wp2_with fail
   refine tlast hO hK (many_write_p B p S ⟨7,base,loc,n,wr,rd,top⟩ me v _ hP hn.1 hn.2 hm hb.1 (by simp only;omega) hl.1 (by simp only;omega)) (fun _ h=>⟨rfl,h⟩) ?_
   clear hO hK hP c_b1
   intro u S w1 hr hP hk hK hO
   replace b1:=b1.keep hk
   have c_b1:=b1.cells
   clear hk hr
   go_wp2_with fail
   first | go_end0 | refine bodyPost_ret (results_none rfl _ _ _) rfl ?_
   exact hO.done hP hK
set_option maxRecDepth 100000 in
set_option maxHeartbeats 2000000 in
theorem reg_read_p (B p:Nat)(S:TS)(r:Reg)(me:Int)(w:World)(h:Plays B w p S)(hr:r.ok)(hm:0<=me/\me<r.n) :
  Calls Try.prog 44 #[.pointer (some ⟨p,0,none⟩),encR r,.int .i64 me] w (Post encI B p w ((regR r me).run S)):=by
 generalize hR:Post encI B p w ((regR r me).run S)=R
 have hO:Owes R encI B p w ((regR r me).run S):=hR▸owes _ _ _ _ _
 clear hR
 obtain⟨hk,hb,hl,hn,hw⟩:=hr
 obtain⟨kind,base,loc,n,wr,rd,top⟩:=r
 simp only at hk hb hl hn hw hm hO
 unfold encR
 obtain⟨b1,hK,hP⟩:=h.entry (.cells #[.int .i64 kind,.int .i64 base,.int .i64 loc,.int .i64 n,.int .i64 wr,.int .i64 rd,.int .i64 top] 56)
 have c_b1:=b1.cells
 clear h
 unfold regR at hO
 simp only at hO
 rcases hk with rfl | rfl | rfl
 · simp at hO
   go_enter Try.func44,Try.ntmps44
   go_wp2_with fail
   refine tlast hO hK (read_p B p S _ _ hP) (fun _ h=>⟨rfl,h⟩) ?_
   clear hO hK hP c_b1
   intro x S w1 hr hP hk hK hO
   replace b1:=b1.keep hk
   have c_b1:=b1.cells
   clear hk hr
   go_wp2_with fail
   exact hO.done hP hK
 · simp at hO
   obtain⟨hw1,hw2⟩:=hw rfl
   clear hw
   go_enter Try.func44,Try.ntmps44
   go_wp2_with fail
   refine tlast hO hK (table_read_p B p S ⟨6,base,loc,n,wr,rd,top⟩ me _ hP hn.1 hn.2 hw1 hw2 hm hb.1 (by simp only;omega) hl.1 (by simp only;omega)) (fun _ h=>⟨rfl,h⟩) ?_
   clear hO hK hP c_b1
   intro x S w1 hr hP hk hK hO
   replace b1:=b1.keep hk
   have c_b1:=b1.cells
   clear hk hr
   go_wp2_with fail
   exact hO.done hP hK
 · simp at hO
   go_enter Try.func44,Try.ntmps44
   go_wp2_with fail
   refine tlast hO hK (many_read_p B p S ⟨7,base,loc,n,wr,rd,top⟩ me _ hP hn.1 hn.2 hm hb.1 (by simp only;omega) hl.1 (by simp only;omega)) (fun _ h=>⟨rfl,h⟩) ?_
   clear hO hK hP c_b1
   intro x S w1 hr hP hk hK hO
   replace b1:=b1.keep hk
   have c_b1:=b1.cells
   clear hk hr
   go_wp2_with fail
   exact hO.done hP hK
theorem RegsAt.ext {ix:List Nat}{p b:Nat}{w w':World}{l:List Reg}(h:RegsAt ix w p b l)(hx:Ext w w')(hp:p<w.heap.size):RegsAt ix w' p b l:=h.keep (B:=0) (Keep.of_ext hx hp (Nat.zero_le _))
theorem two_boxes {B p:Nat}{w:World}{S:TS}(h:Plays B w p S)(o1 o2:Obj) :
  HeldP ((w.alloc o1).alloc o2).drew p w.heap.size o1/\HeldP ((w.alloc o1).alloc o2).drew p (w.heap.size+1) o2/\Plays B ((w.alloc o1).alloc o2).drew p S/\KeepP B p w ((w.alloc o1).alloc o2).drew:=by
 have h2:=(h.alloc o1).held o2
 rw [World.size_alloc] at h2
 exact⟨((h.held o1).alloc o2 (h.alloc o1).lt).drew,h2.drew,((h.alloc o1).alloc o2).drew,((Keep.alloc o1 h.lt h.le).trans (Keep.alloc o2 (h.alloc o1).lt (h.alloc o1).le)).drew⟩
end Go.Proofs.Ytbphlkaihfbgeaa
namespace Kv
inductive Prog.Asks {α:Type}:Prog α->Prop
 | read (c:Int) (k:Int->Prog α):Asks (.read c k)
 | write (c v:Int) (k:Unit->Prog α):Asks (.write c v k)
 | get (i:Int) {k:Int->Prog α}:(∀ x,Asks (k x))->Asks (.get i k)
 | set (i v:Int) {k:Unit->Prog α}:Asks (k ())->Asks (.set i v k)
 | note (m:Int) {k:Unit->Prog α}:Asks (k ())->Asks (.note m k)
theorem Prog.Asks.bind {α β:Type}{p:Prog α}(h:p.Asks)(f:α->Prog β):(p.bind f).Asks:=by
 induction h with
 | read c k=>exact .read _ _
 | write c v k=>exact .write _ _ _
 | get i _ ih=>exact .get i fun x=>ih x
 | set i v _ ih=>exact .set i v ih
 | note m _ ih=>exact .note m ih
theorem Prog.Asks.then {α β:Type}{f:α->Prog β}(h:∀ a,(f a).Asks):∀ p:Prog α,(p.bind f).Asks
 | .ret a=>h a
 | .read _ _=>.read _ _
 | .write _ _ _=>.write _ _ _
 | .get i k=>.get i fun x=>Asks.then h (k x)
 | .set i v k=>.set i v (Asks.then h (k ()))
 | .note m k=>.note m (Asks.then h (k ()))
theorem Prog.run_len {α:Type}(p:Prog α)(S:TS):S.acc.length<=(p.run S).2.acc.length:=by
 obtain⟨l,h⟩:=Prog.run_acc p S
 rw [h];simp
theorem Prog.Asks.run {α:Type}{p:Prog α}(h:p.Asks):∀ S:TS,S.acc.length<(p.run S).2.acc.length:=by
 induction h with
 | read c k =>
   intro S
   simp only [Prog.run]
   cases S.next with
   | none=>simp [TS.put]
   | some v=>have:=Prog.run_len (k v) (S.put ⟨1,c,0⟩);simp [TS.put] at this ⊢;omega
 | write c v k =>
   intro S
   simp only [Prog.run]
   cases S.next with
   | none=>simp [TS.put]
   | some _=>have:=Prog.run_len (k ()) (S.put ⟨2,c,v⟩);simp [TS.put] at this ⊢;omega
 | get i _ ih=>intro S;exact ih _ _
 | set i v _ ih=>intro S;have:=ih (S.upd i v);rw [TS.upd_acc] at this;exact this
 | note m _ ih=>intro S;exact ih (S.noted m)
def TS.left (S:TS):Nat:=S.ans.length-S.acc.length
theorem Prog.Asks.left {α:Type}{p:Prog α}(h:p.Asks){S S1:TS}{a:α}(hr:p.run S=(some a,S1))(hl:S1.acc.length<=S1.ans.length):S1.left<S.left:=by
 have h1:=Prog.run_ans p S
 have h2:=h.run S
 rw [hr] at h1 h2
 simp only at h1 h2
 unfold TS.left
 rw [<- h1];omega
def Reg.told (r:Reg) (me:Int):Prop:=r.kind=1∨(r.kind=6/\me≠r.wr)∨(r.kind=7/\2<=r.n)
end Kv
namespace Go.Proofs.Ytbphlkaihfbgeaa
open Go.RowKit Kv
def Vals (w:World) (A:Option Addr) (vals:List Value):Prop:=vals≠[]->∃ b,A=some ⟨b,0,none⟩/\b<w.heap.size/\∀ i u,vals[i]?=some u->w.cell? ⟨b,i,none⟩=some u
theorem Vals.ext {w w':World}{A:Option Addr}{vals:List Value}(h:Vals w A vals)(hx:Ext w w'):Vals w' A vals:=by
 intro hne
 obtain⟨b,rfl,hb,hc⟩:=h hne
 exact⟨b,rfl,Nat.lt_of_lt_of_le hb hx.size,fun i u hu=>(hx.cell (p:=⟨b,i,none⟩) hb).trans (hc i u hu)⟩
theorem vals_row {w:World}{B e size n:Nat}{v:Value}{xs:List Value}(h:w.ownsRow B e size v n xs):∃ A c,v=.slice A n c/\n<=c/\c<=9223372036854775807/\Vals w A xs:=by
 have h':=h
 obtain⟨hl,h2⟩:=h
 rcases h2 with⟨rfl,h0⟩ | ⟨g,cap,cur,rfl,hg,hh,hn,hm,hs,ht⟩
 · subst h0
   refine⟨none,0,rfl,Nat.le_refl _,by omega,fun hne=>absurd ?_ hne⟩
   simpa using hl
 · refine⟨_,_,rfl,hn,by unfold maxLen at hm;exact hm,fun _=>⟨g,rfl,(Array.getElem?_eq_some_iff.1 hh).1,fun i u hi=>?_⟩⟩
   have hc:=World.ownsRow.cells h' (g:=g) rfl i u hi
   rw [Addr.add_lit,Nat.zero_add] at hc
   exact hc
theorem accVals_at:∀ (l:List Acc) (i:Nat) (a:Acc),l[i]?=some a->(accVals l)[3*i]?=some (.int .i64 a.kind)/\(accVals l)[3*i+1]?=some (.int .i64 a.cell)/\(accVals l)[3*i+2]?=some (.int .i64 a.val)
 | [],i,a,h=>by simp at h
 | x :: l,0,a,h=>by
   obtain rfl:x=a:=by simpa using h
   exact⟨rfl,rfl,rfl⟩
 | x :: l,i+1,a,h=>by
   have:=accVals_at l i a (by simpa using h)
   rw [show accVals (x :: l)=[.int .i64 x.kind,.int .i64 x.cell,.int .i64 x.val]++accVals l from rfl]
   refine⟨?_,?_,?_⟩
   · rw [List.getElem?_append_right (by simp;omega)];simpa [show 3*(i+1)-3=3*i by omega] using this.1
   · rw [List.getElem?_append_right (by simp;omega)];simpa [show 3*(i+1)+1-3=3*i+1 by omega] using this.2.1
   · rw [List.getElem?_append_right (by simp;omega)];simpa [show 3*(i+1)+2-3=3*i+2 by omega] using this.2.2
theorem ntVals_at:∀ (l:List Nt) (i:Nat) (a:Nt),l[i]?=some a->(ntVals l)[2*i]?=some (.int .i64 a.kind)/\(ntVals l)[2*i+1]?=some (.int .i64 a.pos)
 | [],i,a,h=>by simp at h
 | x :: l,0,a,h=>by
   obtain rfl:x=a:=by simpa using h
   exact⟨rfl,rfl⟩
 | x :: l,i+1,a,h=>by
   have:=ntVals_at l i a (by simpa using h)
   rw [show ntVals (x :: l)=[.int .i64 x.kind,.int .i64 x.pos]++ntVals l from rfl]
   refine⟨?_,?_⟩
   · rw [List.getElem?_append_right (by simp;omega)];simpa [show 2*(i+1)-2=2*i by omega] using this.1
   · rw [List.getElem?_append_right (by simp;omega)];simpa [show 2*(i+1)+1-2=2*i+1 by omega] using this.2
def AccAt (w:World) (A:Option Addr) (l:List Acc):Prop:=Vals w A (accVals l)
def NtAt (w:World) (A:Option Addr) (l:List Nt):Prop:=Vals w A (ntVals l)
theorem AccAt.at_ {w:World}{A:Option Addr}{l:List Acc}(h:AccAt w A l){i:Nat}{a:Acc}(hi:l[i]?=some a) :
  ∃ b,A=some ⟨b,0,none⟩/\b<w.heap.size/\w.cell? ⟨b,i*3,none⟩=some (.int .i64 a.kind)/\w.cell? ⟨b,i*3+1,none⟩=some (.int .i64 a.cell)/\w.cell? ⟨b,i*3+2,none⟩=some (.int .i64 a.val):=by
 obtain⟨h0,h1,h2⟩:=accVals_at l i a hi
 obtain⟨b,rfl,hb,hc⟩:=h (fun e=>by rw [e] at h0;simp at h0)
 rw [Nat.mul_comm i 3]
 exact⟨b,rfl,hb,hc _ _ h0,hc _ _ h1,hc _ _ h2⟩
theorem NtAt.at_ {w:World}{A:Option Addr}{l:List Nt}(h:NtAt w A l){i:Nat}{a:Nt}(hi:l[i]?=some a) :
  ∃ b,A=some ⟨b,0,none⟩/\b<w.heap.size/\w.cell? ⟨b,i*2,none⟩=some (.int .i64 a.kind)/\w.cell? ⟨b,i*2+1,none⟩=some (.int .i64 a.pos):=by
 obtain⟨h0,h1⟩:=ntVals_at l i a hi
 obtain⟨b,rfl,hb,hc⟩:=h (fun e=>by rw [e] at h0;simp at h0)
 rw [Nat.mul_comm i 2]
 exact⟨b,rfl,hb,hc _ _ h0,hc _ _ h1⟩
structure OutIs (w:World) (d:Bool) (S:TS) (A:Option Addr) (c:Nat) (A':Option Addr) (c':Nat) (vs:Value) (L:List Int):Prop where
 accs:AccAt w A S.acc
 nts:NtAt w A' S.nts
 locs:Ints w vs (shortL L)
 is:LocIs L S.loc
 len:L.length<=32768
 accc:S.acc.length<=c/\c<=9223372036854775807
 ntsc:S.nts.length<=c'/\c'<=9223372036854775807
def outV (d:Bool) (S:TS) (A:Option Addr) (c:Nat) (A':Option Addr) (c':Nat) (vs:Value):Value:=.agg #[.bool d,.slice A S.acc.length c,.slice A' S.nts.length c',vs]
theorem OutIs.ext {w w':World}{d:Bool}{S:TS}{A:Option Addr}{c:Nat}{A':Option Addr}{c':Nat}{vs:Value}{L:List Int}(h:OutIs w d S A c A' c' vs L)(hx:Ext w w'):OutIs w' d S A c A' c' vs L :=
 { h with accs:=Vals.ext h.accs hx,nts:=Vals.ext h.nts hx,locs:=h.locs.ext hx }
def Outs (w:World) (v:Value) (d:Bool) (S:TS):Prop:=∃ A c A' c' vs L,v=outV d S A c A' c' vs/\OutIs w d S A c A' c' vs L
theorem Outs.ext {w w':World}{v:Value}{d:Bool}{S:TS}(h:Outs w v d S)(hx:Ext w w'):Outs w' v d S:=by
 obtain⟨A,c,A',c',vs,L,rfl,h⟩:=h
 exact⟨A,c,A',c',vs,L,rfl,h.ext hx⟩
theorem outs_of {w:World}{B:Nat}{d:Bool}{S:TS}{vC vN vs:Value}{L:List Int}(h1:w.ownsRow B 54 3 vC S.acc.length (accVals S.acc))(h2:w.ownsRow B 123 2 vN S.nts.length (ntVals S.nts))(h3:Ints w vs (shortL L))(h4:LocIs L S.loc)(h5:L.length<=32768) :
  Outs w (.agg #[.bool d,vC,vN,vs]) d S:=by
 obtain⟨A,c,rfl,q1,q2,q3⟩:=vals_row h1
 obtain⟨A',c',rfl,r1,r2,r3⟩:=vals_row h2
 exact⟨A,c,A',c',vs,L,rfl,q3,r3,h3,h4,h5,⟨q1,q2⟩,⟨r1,r2⟩⟩
end Go.Proofs.Ytbphlkaihfbgeaa
namespace Kv
structure Want where
 wr:Int
 top:Int
def topM (t:Int):Int:=if clamp t 255=0 then 1 else clamp t 255
def kindM (mode w:Int):Int:=if mode=2 then (if 0<=w then 6 else 7) else 1
def regOf (n mode b l:Int) (q:Want):Reg:=⟨kindM mode q.wr,b,l,n,q.wr,-1,topM q.top⟩
def cellsM (r:Reg):Int:=if r.kind=1 then 1 else if r.kind=6 then 16*(r.n-1)*(r.n-1) else 16*(r.n-1)*(r.n-1)*r.n
def localsM (r:Reg):Int:=if r.kind=1 then 0 else if r.kind=6 then 2+18*(r.n-1)*(r.n-1) else r.n*(2+18*(r.n-1)*(r.n-1))
def fineM (r:Reg):Bool:=decide (r.base<=32768)&&decide (r.loc<=32768)&&decide (r.base+cellsM r<=32768)&&decide (r.loc+localsM r<=32768)
def layFrom (n mode:Int):List Want->Int->Int->Option (List Reg)
 | [],_,_=>some []
 | q :: l,b,c=>if fineM (regOf n mode b c q) then (layFrom n mode l (b+cellsM (regOf n mode b c q)) (c+localsM (regOf n mode b c q))).map (regOf n mode b c q :: ·) else none
def argsM (l:List Want) (n mode b c:Int):Bool:=decide (1<=mode/\mode<=2/\1<=n/\n<=8/\0<=b/\0<=c)&&l.all fun q=>decide (-1<=q.wr/\q.wr<n)
def layM (l:List Want) (n mode b c:Int):Option (List Reg):=if argsM l n mode b c then layFrom n mode l b c else none
theorem topM_bd (t:Int):1<=topM t/\topM t<=255:=by
 unfold topM clamp within
 split <;> omega
theorem cells_nat (r:Reg)(h:1<=r.n/\r.n<=8):0<=cellsM r/\cellsM r<=6272/\0<=localsM r/\localsM r<=7072:=by
 obtain⟨h1,h2⟩:=h
 have:r.n=1∨r.n=2∨r.n=3∨r.n=4∨r.n=5∨r.n=6∨r.n=7∨r.n=8:=by omega
 unfold cellsM localsM
 rcases this with h | h | h | h | h | h | h | h <;> rw [h] <;> (split <;> (try split) <;> omega)
structure Laid (n mode:Int) (q:Want) (r:Reg):Prop where
 is:∃ b c,r=regOf n mode b c q/\0<=b/\0<=c
 fine:fineM r=true
theorem Laid.ok {n mode:Int}{q:Want}{r:Reg}(h:Laid n mode q r)(hn:1<=n/\n<=8)(hw:-1<=q.wr/\q.wr<n):r.ok/\r.n=n/\r.wr=q.wr:=by
 obtain⟨⟨b,c,rfl,hb,hc⟩,hf⟩:=h
 have hf2:b<=32768/\c<=32768:=by
  unfold fineM regOf at hf
  simp only [Bool.and_eq_true,decide_eq_true_eq] at hf
  omega
 refine⟨⟨?_,⟨hb,hf2.1⟩,⟨hc,hf2.2⟩,hn,fun hk=>?_⟩,rfl,rfl⟩
 · show kindM mode q.wr=1∨kindM mode q.wr=6∨kindM mode q.wr=7
   unfold kindM
   split
   · split <;> omega
   · omega
 · show 0<=q.wr/\q.wr<n
   have hk:kindM mode q.wr=6:=hk
   unfold kindM at hk
   split at hk
   · split at hk <;> omega
   · omega
end Kv
namespace Go.Proofs.Ytbphlkaihfbgeaa
open Go.RowKit Kv
theorem eqIn_acc (a b c a' b' c':Int)(w:World):(Op.equalIn 10000 54 (.agg #[.int .i64 a,.int .i64 b,.int .i64 c]) (.agg #[.int .i64 a',.int .i64 b',.int .i64 c'])).run Try.prog w=.ok (decide (a=a'/\b=b'/\c=c')) w:=by
 rw [run_equalIn_struct w 9999 54 _ _ (by kernel_rfl) (by kernel_rfl)]
 have hu:Try.prog.underlying 3=some (.int .i64):=Try.underlying3
 simp only [Program.fieldsOf,Try.underlying54,Op.eqFields]
 simp [go_sem,run_equalIn_int,hu]
 by_cases h0:a=a' <;> by_cases h1:b=b' <;> by_cases h2:c=c' <;> simp [h0,h1,h2]
@[go_sem] theorem eql_acc (a b c a' b' c':Int) (w:World):(binOp .eql 54 (.agg #[.int .i64 a,.int .i64 b,.int .i64 c]) (.agg #[.int .i64 a',.int .i64 b',.int .i64 c'])).run Try.prog w=.ok (.bool (decide (a=a'/\b=b'/\c=c'))) w:=by
 rw [run_eql_struct,eqIn_acc];rfl
@[go_sem] theorem neq_acc (a b c a' b' c':Int) (w:World):(binOp .neq 54 (.agg #[.int .i64 a,.int .i64 b,.int .i64 c]) (.agg #[.int .i64 a',.int .i64 b',.int .i64 c'])).run Try.prog w=.ok (.bool (!decide (a=a'/\b=b'/\c=c'))) w:=by
 rw [run_neq_struct,eqIn_acc];rfl
theorem eqIn_nt (a b a' b':Int)(w:World):(Op.equalIn 10000 123 (.agg #[.int .i64 a,.int .i64 b]) (.agg #[.int .i64 a',.int .i64 b'])).run Try.prog w=.ok (decide (a=a'/\b=b')) w:=by
 rw [run_equalIn_struct w 9999 123 _ _ (by kernel_rfl) (by kernel_rfl)]
 have hu:Try.prog.underlying 3=some (.int .i64):=Try.underlying3
 simp only [Program.fieldsOf,Try.underlying123,Op.eqFields]
 simp [go_sem,run_equalIn_int,hu]
 by_cases h0:a=a' <;> by_cases h1:b=b' <;> simp [h0,h1]
@[go_sem] theorem eql_nt (a b a' b':Int) (w:World):(binOp .eql 123 (.agg #[.int .i64 a,.int .i64 b]) (.agg #[.int .i64 a',.int .i64 b'])).run Try.prog w=.ok (.bool (decide (a=a'/\b=b'))) w:=by
 rw [run_eql_struct,eqIn_nt];rfl
@[go_sem] theorem neq_nt (a b a' b':Int) (w:World):(binOp .neq 123 (.agg #[.int .i64 a,.int .i64 b]) (.agg #[.int .i64 a',.int .i64 b'])).run Try.prog w=.ok (.bool (!decide (a=a'/\b=b'))) w:=by
 rw [run_neq_struct,eqIn_nt];rfl
theorem eqIn_want (a b a' b':Int)(w:World):(Op.equalIn 10000 91 (.agg #[.int .i64 a,.int .i64 b]) (.agg #[.int .i64 a',.int .i64 b'])).run Try.prog w=.ok (decide (a=a'/\b=b')) w:=by
 rw [run_equalIn_struct w 9999 91 _ _ (by kernel_rfl) (by kernel_rfl)]
 have hu:Try.prog.underlying 3=some (.int .i64):=Try.underlying3
 simp only [Program.fieldsOf,Try.underlying91,Op.eqFields]
 simp [go_sem,run_equalIn_int,hu]
 by_cases h0:a=a' <;> by_cases h1:b=b' <;> simp [h0,h1]
@[go_sem] theorem eql_want (a b a' b':Int) (w:World):(binOp .eql 91 (.agg #[.int .i64 a,.int .i64 b]) (.agg #[.int .i64 a',.int .i64 b'])).run Try.prog w=.ok (.bool (decide (a=a'/\b=b'))) w:=by
 rw [run_eql_struct,eqIn_want];rfl
@[go_sem] theorem neq_want (a b a' b':Int) (w:World):(binOp .neq 91 (.agg #[.int .i64 a,.int .i64 b]) (.agg #[.int .i64 a',.int .i64 b'])).run Try.prog w=.ok (.bool (!decide (a=a'/\b=b'))) w:=by
 rw [run_neq_struct,eqIn_want];rfl
theorem flat_at {α:Type}(f:α->List Value)(k:Nat)(hf:∀ a,(f a).length=k):∀ (l:List α) (i j:Nat) (a:α),l[i]?=some a->j<k->(l.flatMap f)[k*i+j]?=(f a)[j]?
 | [],i,j,a,h,_=>by simp at h
 | x :: l,0,j,a,h,hj=>by
   obtain rfl:x=a:=by simpa using h
   rw [List.flatMap_cons,Nat.mul_zero,Nat.zero_add,List.getElem?_append_left (by rw [hf];exact hj)]
 | x :: l,i+1,j,a,h,hj=>by
   have:=flat_at f k hf l i j a (by simpa using h) hj
   rw [List.flatMap_cons,List.getElem?_append_right (by rw [hf,Nat.mul_add];omega),hf,show k*(i+1)+j-k=k*i+j by rw [Nat.mul_add];omega]
   exact this
theorem flat_len {α:Type}(f:α->List Value)(k:Nat)(hf:∀ a,(f a).length=k):∀ l:List α,(l.flatMap f).length=k*l.length
 | []=>rfl
 | x :: l=>by rw [List.flatMap_cons,List.length_append,hf,flat_len f k hf l,List.length_cons,Nat.mul_add];omega
def wantVals (q:Want):List Value:=[.int .i64 q.wr,.int .i64 q.top]
def Recs (w:World) (v:Value) (n:Nat) (vals:List Value):Prop:=∃ A c,v=.slice A n c/\n<=c/\c<=9223372036854775807/\Vals w A vals
theorem Recs.ext {w w':World}{v:Value}{n:Nat}{vals:List Value}(h:Recs w v n vals)(hx:Ext w w'):Recs w' v n vals:=by
 obtain⟨A,c,e,h1,h2,h3⟩:=h
 exact⟨A,c,e,h1,h2,h3.ext hx⟩
theorem Recs.of_row {w:World}{B e size n:Nat}{v:Value}{xs:List Value}(h:w.ownsRow B e size v n xs):Recs w v n xs:=vals_row h
def WantsAt (w:World) (v:Value) (l:List Want):Prop:=Recs w v l.length (l.flatMap wantVals)
theorem want_at {w:World}{A:Option Addr}{l:List Want}(h:Vals w A (l.flatMap wantVals)){i:Nat}{q:Want}(hi:l[i]?=some q) :
  ∃ b,A=some ⟨b,0,none⟩/\b<w.heap.size/\w.cell? ⟨b,i*2,none⟩=some (.int .i64 q.wr)/\w.cell? ⟨b,i*2+1,none⟩=some (.int .i64 q.top):=by
 have h0:=flat_at wantVals 2 (fun _=>rfl) l i 0 q hi (by omega)
 have h1:=flat_at wantVals 2 (fun _=>rfl) l i 1 q hi (by omega)
 obtain⟨b,rfl,hb,hc⟩:=h (fun e=>by rw [e] at h0;simp [wantVals] at h0)
 rw [Nat.mul_comm i 2]
 exact⟨b,rfl,hb,hc _ _ h0,hc _ _ h1⟩
structure RegCells (w:World) (b o:Nat) (r:Reg):Prop where
 kind:w.cell? ⟨b,o,none⟩=some (.int .i64 r.kind)
 base:w.cell? ⟨b,o+1,none⟩=some (.int .i64 r.base)
 loc:w.cell? ⟨b,o+2,none⟩=some (.int .i64 r.loc)
 n:w.cell? ⟨b,o+3,none⟩=some (.int .i64 r.n)
 wr:w.cell? ⟨b,o+4,none⟩=some (.int .i64 r.wr)
 rd:w.cell? ⟨b,o+5,none⟩=some (.int .i64 r.rd)
 top:w.cell? ⟨b,o+6,none⟩=some (.int .i64 r.top)
theorem reg_cells {w:World}{b:Nat}{l:List Reg}(hc:∀ (i:Nat) u,(l.flatMap regVals)[i]?=some u->w.cell? ⟨b,i,none⟩=some u){i:Nat}{r:Reg}(hi:l[i]?=some r):RegCells w b (i*7) r:=by
 have f:=fun j hj=>flat_at regVals 7 (fun _=>rfl) l i j r hi hj
 rw [Nat.mul_comm i 7]
 exact⟨hc _ _ (f 0 (by omega)),hc _ _ (f 1 (by omega)),hc _ _ (f 2 (by omega)),hc _ _ (f 3 (by omega)),hc _ _ (f 4 (by omega)),hc _ _ (f 5 (by omega)),hc _ _ (f 6 (by omega))⟩
theorem info_reg:(Try.prog.info? 56).map (fun i=>(i.zero,i.size,i.bytes))=some (some (.agg #[.int .i64 0,.int .i64 0,.int .i64 0,.int .i64 0,.int .i64 0,.int .i64 0,.int .i64 0]),7,56):=by kernel_rfl
theorem info_want:(Try.prog.info? 91).map (fun i=>(i.zero,i.size,i.bytes))=some (some (.agg #[.int .i64 0,.int .i64 0]),2,16):=by kernel_rfl
theorem append_rec {ops:Array Oper}{rest:List Oper}{o:Oper}{a:Act}{Q:Exit->Act->World->Prop}{w0 w:World}{e t:TypeId}{z:Value}{size bytes:Nat}
  (hinfo:(Try.prog.info? e).map (fun i=>(i.zero,i.size,i.bytes))=some (some z,size,bytes))(hund:Try.prog.underlying t=some (.slice e))(hzs:z.cells.size=size)(hsz:0<size)(hby:bytes<=100)
  (hgd:o.guard=none)(s x:Operand)(ho:o.op=.call { callee:=.builtin .append,args:=#[s,x],argTypes:=#[t,t] })
  (v:Value)(n:Nat)(xs news:List Value)(hX:Ext w0 w)(hown:w.ownsRow w0.heap.size e size v n xs)(hs:a.eval s=v)(hx:a.eval x=.slice (some ⟨w.heap.size,0,none⟩) 1 1)
  (hnl:news.length=size)(h1:∀ u∈news,u.oneCell'=true)(hlen:n<1000000000)
  (h:∀ v' w',w'.ownsRow w0.heap.size e size v' (n+1) (xs++news)->Ext w0 w'->(∀ k,k<w.heap.size->v.ownBlock≠some k->w'.heap[k]?=w.heap[k]?)->wpList Try.prog ops Q rest (a.put o.dst v') w') :
  wpList Try.prog ops Q (o :: rest) a (w.alloc (.cells news.toArray e)):=by
 obtain⟨i0,hi,hz0,hz1,hz2⟩:=info_parts hinfo
 refine wpList_append_own_at _ hgd s x t ho w0.heap.size e i0 z size bytes hund hi hz0 hz1 hz2 hzs hsz v n xs hs (World.ownsRow.alloc hown _) ⟨w.heap.size,0,none⟩ 1 1 news hx (by omega) ?_ h1 (by unfold maxLen;omega) ?_ (by have:=hX.size;simp;omega) fun v' w' h2 h3 _ _=>?_
 · intro j u hu
   rw [Addr.add_lit,Nat.zero_add]
   refine (cell_of_heap (w:=w.alloc (.cells news.toArray e)) (b:=w.heap.size) (cs:=news.toArray) (t:=e) (fz:=(0,0)) (heap_alloc_new w _) j).trans (by simpa using hu)
 · have:(n+1)*bytes<=(n+1)*100:=Nat.mul_le_mul_left _ hby
   omega
 · refine h v' w' h2 (Below.grown (Below.alloc hX hX.size _) h3 (by have:=hX.size;simp;omega) fun k hk=>?_) (fun k hk hv=>(h3.block k (by simp;omega) (fun e=>hv e.symm)).trans (Below.heap_alloc w _ k hk))
   rcases hown.2 with⟨rfl,_⟩ | ⟨g,cap,cur,rfl,hgb,_⟩
   · simp [Value.ownBlock] at hk
   · simp [Value.ownBlock] at hk
     omega
def lenOf:Option Value->Nat
 | some (.slice _ n _)=>n
 | _=>0
def leftW (i j:Nat) (w:World) (p:Nat):Nat:=lenOf (w.cell? ⟨p,i,none⟩)-lenOf (w.cell? ⟨p,j,none⟩)
theorem row_slice {w:World}{B e size n:Nat}{v:Value}{xs:List Value}(h:w.ownsRow B e size v n xs):∃ A c,v=.slice A n c:=by
 rcases h.2 with⟨rfl,h0⟩ | ⟨g,cap,cur,rfl,_⟩
 · exact⟨none,0,by rw [h0]⟩
 · exact⟨_,_,rfl⟩
theorem Plays.left {B p:Nat}{w:World}{S:TS}(h:Plays B w p S):leftW 1 3 w p=S.left:=by
 obtain⟨_,vA,vL,vC,vN,L,h⟩:=h
 obtain⟨A,c,rfl,_⟩:=h.ans.slice
 obtain⟨C,d,rfl⟩:=row_slice h.rowC
 unfold leftW TS.left
 rw [cell_of_heap h.heap,cell_of_heap h.heap]
 rfl
theorem RegsAt.extL {ix:List Nat}{p b:Nat}{w w':World}{l:List Reg}(h:RegsAt ix w p b l)(hx:Ext w w')(hp:p<w.heap.size):RegsAt ix w' p b l:=h.keep (B:=0) (Keep.of_ext hx hp (Nat.zero_le _))
theorem Plays.len {B p:Nat}{w:World}{S:TS}(h:Plays B w p S):S.acc.length<=S.ans.length:=h.1
theorem RegsAt.four {ix:List Nat}{p b:Nat}{w:World}{x y z u:Reg}(h:RegsAt ix w p b [x,y,z,u]) :
  RegCells w b 0 x/\RegCells w b 7 y/\RegCells w b 14 z/\RegCells w b 21 u :=
 ⟨⟨h.cells 0 _ rfl,h.cells 1 _ rfl,h.cells 2 _ rfl,h.cells 3 _ rfl,h.cells 4 _ rfl,h.cells 5 _ rfl,h.cells 6 _ rfl⟩,⟨h.cells 7 _ rfl,h.cells 8 _ rfl,h.cells 9 _ rfl,h.cells 10 _ rfl,h.cells 11 _ rfl,h.cells 12 _ rfl,h.cells 13 _ rfl⟩,
  ⟨h.cells 14 _ rfl,h.cells 15 _ rfl,h.cells 16 _ rfl,h.cells 17 _ rfl,h.cells 18 _ rfl,h.cells 19 _ rfl,h.cells 20 _ rfl⟩,⟨h.cells 21 _ rfl,h.cells 22 _ rfl,h.cells 23 _ rfl,h.cells 24 _ rfl,h.cells 25 _ rfl,h.cells 26 _ rfl,h.cells 27 _ rfl⟩⟩
end Go.Proofs.Ytbphlkaihfbgeaa
namespace Kv
theorem Prog.Notes.keep {α:Type}{p:Prog α}{n:Nat}(h:p.Notes 0){S S1:TS}{a:Option α}(hr:p.run S=(a,S1))(hn:S.nts.length<=n):S1.nts.length<=n:=by
 have:=h.run S
 rw [hr] at this
 simp only at this
 omega
end Kv
namespace Go.Proofs.Ytbphlkaihfbgeaa
open Go.RowKit Kv
theorem RegsAt.nth {ix:List Nat}{p b:Nat}{w:World}{l:List Reg}(h:RegsAt ix w p b l){i:Nat}{r:Reg}(hi:l[i]?=some r):RegCells w b (i*7) r:=reg_cells h.cells hi
theorem Plays.fresh {B p b:Nat}{w w':World}{S:TS}(h:Plays B w p S)(hx:Ext w w')(hb:w.heap.size<=b):¬ ownR [2,3,4] w' p b:=by
 obtain⟨_,_,_,_,_,_,h⟩:=h
 intro ho
 have:=(h.own ((ownR_same (Below.block hx p h.lt) b).1 ho)).2
 omega
theorem RegsAt.node2 {ix:List Nat}{p b k:Nat}{w:World}{rs:List Reg}{x y:Reg}(h:RegsAt ix w p b rs)(hi:rs[k]?=some x/\rs[k+1]?=some y) :
  RegCells w b (k*7) x/\RegCells w b (k*7+7) y:=by
 have h1:=h.nth hi.2
 rw [show (k+1)*7=k*7+7 from by omega] at h1
 exact⟨h.nth hi.1,h1⟩
set_option maxRecDepth 100000 in
set_option maxHeartbeats 4000000 in
theorem passn_p (B p:Nat)(S:TS)(x y:Reg)(me:Int)(b c k:Nat)(rs:List Reg)(w:World)(h:Plays B w p S)(hl:RegsAt [2,3,4] w p b rs)(hi:rs[k]?=some x/\rs[k+1]?=some y)(hx:x.ok)(hy:y.ok)(hm:0<=me)(hmx:me<x.n)(hmy:me<y.n) :
  Calls Try.prog 24 #[.pointer (some ⟨p,0,none⟩),.slice (some ⟨b,k*7,none⟩) 2 c,.int .i64 me] w (Post encI B p w ((passM x y me).run S)):=by
 generalize hR:Post encI B p w ((passM x y me).run S)=R
 have hO:Owes R encI B p w ((passM x y me).run S):=hR▸owes _ _ _ _ _
 clear hR
 replace hi:=Lib.hid hi
 have hmw:=IntWalk.i64_in (me+1) (by have:=hx.n;omega)
 obtain⟨⟨c0,c1,c2,c3,c4,c5,c6⟩,⟨c7,c8,c9,c10,c11,c12,c13⟩⟩:=hl.node2 hi.out
 have hn:=hx.n
 have hK:=Keep.refl [2,3,4] B p w
 have hP:=h
 clear h
 unfold passM at hO
 go_enter Try.func24,Try.ntmps24
 go_wp2_with fail
 go_region_held2 (fun w'=>(w'.cell? ⟨b,k*7,none⟩=some (.int .i64 x.kind)/\w'.cell? ⟨b,k*7+1,none⟩=some (.int .i64 x.base)/\w'.cell? ⟨b,k*7+2,none⟩=some (.int .i64 x.loc)/\w'.cell? ⟨b,k*7+3,none⟩=some (.int .i64 x.n)/\w'.cell? ⟨b,k*7+4,none⟩=some (.int .i64 x.wr)/\w'.cell? ⟨b,k*7+5,none⟩=some (.int .i64 x.rd)/\w'.cell? ⟨b,k*7+6,none⟩=some (.int .i64 x.top)) /\
   (w'.cell? ⟨b,k*7+7,none⟩=some (.int .i64 y.kind)/\w'.cell? ⟨b,k*7+7+1,none⟩=some (.int .i64 y.base)/\w'.cell? ⟨b,k*7+7+2,none⟩=some (.int .i64 y.loc)/\w'.cell? ⟨b,k*7+7+3,none⟩=some (.int .i64 y.n)/\w'.cell? ⟨b,k*7+7+4,none⟩=some (.int .i64 y.wr)/\w'.cell? ⟨b,k*7+7+5,none⟩=some (.int .i64 y.rd)/\w'.cell? ⟨b,k*7+7+6,none⟩=some (.int .i64 y.top))) (first | with_reducible exact hl.node2 hi.out | go_keep) (fail)
 · rename_i hh
   clear hh
   obtain⟨b1,b2,hP2,hK2⟩:=two_boxes hP (.cells #[.int .i64 x.kind,.int .i64 x.base,.int .i64 x.loc,.int .i64 x.n,.int .i64 x.wr,.int .i64 x.rd,.int .i64 x.top] 56) (.cells #[.int .i64 y.kind,.int .i64 y.base,.int .i64 y.loc,.int .i64 y.n,.int .i64 y.wr,.int .i64 y.rd,.int .i64 y.top] 56)
   clear hP hK hl
   have hP:=hP2
   have hK:=hK2
   clear hP2 hK2
   have c_b1:=b1.cells
   have c_b2:=b2.cells
   clear c0 c1 c2 c3 c4 c5 c6 c7 c8 c9 c10 c11 c12 c13
   go_wp2_with fail
   refine tstep hO hK (reg_write_p B p S x me (me+1) _ hP hx ⟨hm,hmx⟩) (fun _ h=>⟨rfl,h⟩) ?_
   clear hO hK hP c_b1 c_b2
   intro u S w1 hr hP hk hK hO
   replace b1:=b1.keep hk
   have c_b1:=b1.cells
   replace b2:=b2.keep hk
   have c_b2:=b2.cells
   clear hk hr
   go_wp2_with fail
   refine tstep hO hK (reg_read_p B p S y me _ hP hy ⟨hm,hmy⟩) (fun _ h=>⟨rfl,h⟩) ?_
   clear hO hK hP c_b1 c_b2
   intro v S w1 hr hP hk hK hO
   replace b1:=b1.keep hk
   have c_b1:=b1.cells
   replace b2:=b2.keep hk
   have c_b2:=b2.cells
   clear hk hr
   by_cases hv:v=0
   · rw [if_neg (by simpa using hv)] at hO
     have hv2:(v != 0)=false:=by simp [hv]
     clear hv
     go_wp2_with fail
     refine tstep hO hK (reg_write_p B p S y me 1 _ hP hy ⟨hm,hmy⟩) (fun _ h=>⟨rfl,h⟩) ?_
     clear hO hK hP c_b1 c_b2
     intro u S w1 hr hP hk hK hO
     replace b1:=b1.keep hk
     have c_b1:=b1.cells
     replace b2:=b2.keep hk
     have c_b2:=b2.cells
     clear hk hr
     go_wp2_with fail
     refine tstep hO hK (reg_read_p B p S x me _ hP hx ⟨hm,hmx⟩) (fun _ h=>⟨rfl,h⟩) ?_
     clear hO hK hP c_b1 c_b2
     intro z S w1 hr hP hk hK hO
     replace b1:=b1.keep hk
     have c_b1:=b1.cells
     replace b2:=b2.keep hk
     have c_b2:=b2.cells
     clear hk hr
     by_cases hz:z=me+1
     · rw [if_pos hz] at hO
       have hz2:(z==me+1)=true:=by simp [hz]
       clear hz
       have hf:R (.returned (.int .i64 0)) w1:=hO.done hP hK
       clear hO hP hK
       go_wp2_with fail
       exact hf
     · rw [if_neg hz] at hO
       have hz2:(z==me+1)=false:=by rw [beq_eq_false_iff_ne];exact hz
       clear hz
       have hf:R (.returned (.int .i64 2)) w1:=hO.done hP hK
       clear hO hP hK
       go_wp2_with fail
       exact hf
   · rw [if_pos hv] at hO
     have hv2:(v != 0)=true:=by rw [bne_iff_ne];exact hv
     have hf:R (.returned (.int .i64 1)) w1:=hO.done hP hK
     clear hO hP hK hv
     go_wp2_with fail
     exact hf
 · rename_i hh
   clear hh
   obtain⟨b2,b1,hP2,hK2⟩:=two_boxes hP (.cells #[.int .i64 y.kind,.int .i64 y.base,.int .i64 y.loc,.int .i64 y.n,.int .i64 y.wr,.int .i64 y.rd,.int .i64 y.top] 56) (.cells #[.int .i64 x.kind,.int .i64 x.base,.int .i64 x.loc,.int .i64 x.n,.int .i64 x.wr,.int .i64 x.rd,.int .i64 x.top] 56)
   clear hP hK hl
   have hP:=hP2
   have hK:=hK2
   clear hP2 hK2
   have c_b1:=b1.cells
   have c_b2:=b2.cells
   clear c0 c1 c2 c3 c4 c5 c6 c7 c8 c9 c10 c11 c12 c13
   go_wp2_with fail
   refine tstep hO hK (reg_write_p B p S x me (me+1) _ hP hx ⟨hm,hmx⟩) (fun _ h=>⟨rfl,h⟩) ?_
   clear hO hK hP c_b1 c_b2
   intro u S w1 hr hP hk hK hO
   replace b1:=b1.keep hk
   have c_b1:=b1.cells
   replace b2:=b2.keep hk
   have c_b2:=b2.cells
   clear hk hr
   go_wp2_with fail
   refine tstep hO hK (reg_read_p B p S y me _ hP hy ⟨hm,hmy⟩) (fun _ h=>⟨rfl,h⟩) ?_
   clear hO hK hP c_b1 c_b2
   intro v S w1 hr hP hk hK hO
   replace b1:=b1.keep hk
   have c_b1:=b1.cells
   replace b2:=b2.keep hk
   have c_b2:=b2.cells
   clear hk hr
   by_cases hv:v=0
   · rw [if_neg (by simpa using hv)] at hO
     have hv2:(v != 0)=false:=by simp [hv]
     clear hv
     go_wp2_with fail
     refine tstep hO hK (reg_write_p B p S y me 1 _ hP hy ⟨hm,hmy⟩) (fun _ h=>⟨rfl,h⟩) ?_
     clear hO hK hP c_b1 c_b2
     intro u S w1 hr hP hk hK hO
     replace b1:=b1.keep hk
     have c_b1:=b1.cells
     replace b2:=b2.keep hk
     have c_b2:=b2.cells
     clear hk hr
     go_wp2_with fail
     refine tstep hO hK (reg_read_p B p S x me _ hP hx ⟨hm,hmx⟩) (fun _ h=>⟨rfl,h⟩) ?_
     clear hO hK hP c_b1 c_b2
     intro z S w1 hr hP hk hK hO
     replace b1:=b1.keep hk
     have c_b1:=b1.cells
     replace b2:=b2.keep hk
     have c_b2:=b2.cells
     clear hk hr
     by_cases hz:z=me+1
     · rw [if_pos hz] at hO
       have hz2:(z==me+1)=true:=by simp [hz]
       clear hz
       have hf:R (.returned (.int .i64 0)) w1:=hO.done hP hK
       clear hO hP hK
       go_wp2_with fail
       exact hf
     · rw [if_neg hz] at hO
       have hz2:(z==me+1)=false:=by rw [beq_eq_false_iff_ne];exact hz
       clear hz
       have hf:R (.returned (.int .i64 2)) w1:=hO.done hP hK
       clear hO hP hK
       go_wp2_with fail
       exact hf
   · rw [if_pos hv] at hO
     have hv2:(v != 0)=true:=by rw [bne_iff_ne];exact hv
     have hf:R (.returned (.int .i64 1)) w1:=hO.done hP hK
     clear hO hP hK hv
     go_wp2_with fail
     exact hf
end Go.Proofs.Ytbphlkaihfbgeaa
namespace Kv
def regAt (l:List Reg) (i:Int):Reg:=l.getD i.toNat ⟨1,0,0,1,-1,-1,1⟩
theorem regAt_of {l:List Reg}{i:Int}{k:Nat}{r:Reg}(hi:i=k)(h:l[k]?=some r):regAt l i=r:=by
 unfold regAt
 rw [hi,Int.toNat_natCast,List.getD_eq_getElem?_getD,h];rfl
end Kv
namespace Kv
open Go
def Jumps (J:Nat->Act->World->Prop) (Q:Exit->Act->World->Prop):Exit->Act->World->Prop
 | .goto l,a,w=>J l a w
 | e,a,w=>Q e a w
section
variable {P:Program} {a:Act} {w:World} {J:Nat->Act->World->Prop} {Q:Exit->Act->World->Prop}
@[go_sem] theorem jumps_normal:Jumps J Q .normal a w=Q .normal a w:=rfl
@[go_sem] theorem jumps_exit (id:Nat):Jumps J Q (.exit id) a w=Q (.exit id) a w:=rfl
@[go_sem] theorem jumps_ret:Jumps J Q .ret a w=Q .ret a w:=rfl
@[go_sem] theorem jumps_panic (c:List PanicEntry):Jumps J Q (.panic c) a w=Q (.panic c) a w:=rfl
@[go_sem] theorem jumps_goto (l:Nat):Jumps J Q (.goto l) a w=J l a w:=rfl
end
end Kv
namespace Kv
open Go Go.RowKit
def nameM (l:List Reg) (N:Nat) (me:Int):Nat->Nat->Nat->Prog Int
 | 0,_,_=>.ret ((triN N:Int)-1)
 | f+1,x,y=>(passM (regAt l (2*(triName x y:Int))) (regAt l (2*(triName x y:Int)+1)) me).bind fun told =>
    if told=0 then .ret (triName x y:Int) else if told=1 then nameM l N me f (x+1) y else nameM l N me f x (y+1)
def getM (l:List Reg) (N:Nat) (own me:Int):Prog Int :=
 (gt own).bind fun had=>if had≠0 then .ret (wrap64 (had-1)) else (nameM l N me N 0 0).bind fun name=>(st own (name+1)).bind fun _=>.ret name
end Kv
namespace Go.Proofs.Ytbphlkaihfbgeaa
open Go.RowKit Kv
theorem rat_p (b len k d:Nat)(w:World)(h:2*k+2<=len)(_hc:len<=d+2*k+2)(hc2:d+2*k+2<=9223372036854775807)(_hl:len<=100000) :
  Calls Try.prog 138 #[.slice (some ⟨b,0,none⟩) len (d+2*k+2),.int .i64 k] w fun e w'=>(∃ c2,e=.returned (.slice (some ⟨b,2*k*7,none⟩) 2 c2))/\w=w':=by
 have e1:=IntWalk.i64_in (2*(k:Int)) (by omega)
 have e2:=IntWalk.i64_in (2*(k:Int)+2) (by omega)
 have e3:decide ((k:Int)<0)=false:=by rw [decide_eq_false_iff_not];omega
 have e4:decide ((len:Int)<2*(k:Int)+2)=false:=by rw [decide_eq_false_iff_not];omega
 have e5:(2*(k:Int)).toNat=2*k:=by omega
 have e6:(2*(k:Int)+2).toNat=2*k+2:=by omega
 have e7:2*(k:Int)+2<=((d+2*k+2:Nat):Int):=by omega
 have e8:0<=2*(k:Int):=by omega
 have e9:2*(k:Int)<=2*(k:Int)+2:=by omega
 go_enter Try.func138,Try.ntmps138
 go_wp2_with fail
 go_ret
 exact⟨⟨_,rfl⟩,rfl⟩
def zsum:Value->Nat
 | .complex _ a b=>match ptOf a b with
   | some p=>(p.1+p.2).toNat
   | none=>0
 | _=>0
theorem zsum_eq {a b x y:Nat}(h:ptOf a b=some ((x:Int),(y:Int))):zsum (.complex .f64 a b)=x+y:=by
 simp only [zsum,h]
 omega
set_option maxRecDepth 100000 in
set_option maxHeartbeats 2000000 in
theorem getname_p (B p N:Nat)(S:TS)(rs:List Reg)(own:Int)(m b d:Nat)(w:World)(h:Plays B w p S)(hreg:RegsAt [2,3,4] w p b rs)(hlen:rs.length=2*triN N)(hok:∀ r∈rs,r.ok/\r.n=N)(h1:1<=N)(h2:N<=8)(hm1:m<N)
  (hd:d<=9223372036854775807-2*triN N) :
  Calls Try.prog 57 #[.pointer (some ⟨p,0,none⟩),.slice (some ⟨b,0,none⟩) rs.length (d+rs.length),.int .i64 N,.int .i64 own,.int .i64 m] w (Post encI B p w ((getM rs N own m).run S)):=by
 generalize hR:Post encI B p w ((getM rs N own m).run S)=R
 have hO:Owes R encI B p w ((getM rs N own m).run S):=hR▸owes _ _ _ _ _
 clear hR
 have hK:=Keep.refl [2,3,4] B p w
 have hP:=h
 clear h
 unfold getM at hO
 rw [run_gt] at hO
 have hT36:triN N<=36:=by
  have:=triN_mono h2
  rw [show triN 8=36 from by decide] at this
  exact this
 have hT1:1<=triN N:=by
  have:=triN_mono h1
  rw [show triN 1=1 from by decide] at this
  exact this
 have hsz:=fun w=>gsize_p N (by omega) w
 have hat1:=fun w=>at_p 1 0 w
 have hat2:=fun w=>at_p 0 1 w
 have hat3:=fun w=>at_p 0 0 w
 rw [show clampR 1=1 from by decide,show clampR 0=0 from by decide] at hat1 hat2
 rw [show clampR 0=0 from by decide] at hat3
 have hpt1:ptOf (floatOfInt .f64 1) (floatOfInt .f64 0)=some (1,0):=pt_nat 1 0 (by omega) (by omega)
 have hpt2:ptOf (floatOfInt .f64 0) (floatOfInt .f64 1)=some (0,1):=pt_nat 0 1 (by omega) (by omega)
 have hpt3:ptOf (floatOfInt .f64 0) (floatOfInt .f64 0)=some (((0:Nat):Int),((0:Nat):Int)):=pt_nat 0 0 (by omega) (by omega)
 have hptsh:=Lib.hid (And.intro hpt1 (And.intro hpt2 hpt3))
 clear hpt1 hpt2 hpt3
 obtain⟨r1,hr1⟩:∃ x,floatOfInt .f64 1=x:=⟨_,rfl⟩
 obtain⟨r0,hr0⟩:∃ x,floatOfInt .f64 0=x:=⟨_,rfl⟩
 have hw1:=IntWalk.i64_in ((triN N:Int)-1) (by omega)
 have hoh:=Lib.hid hO
 have hlenh:=Lib.hid hlen
 have hokh:=Lib.hid hok
 clear hO hok
 go_enter Try.func57,Try.ntmps57
 go_wp2_with fail
 refine wp_scope_straight ?_
 go_wp2_with fail
 refine (get_p B p S own _ hP).mono ?_
 rintro e w' ⟨rfl,rfl⟩
 have hO:=hoh.out
 clear hoh
 generalize S.got own=x at hO ⊢
 by_cases hx:x=0
 · have dx:(x != 0)=false:=by simpa using hx
   rw [if_neg (by simpa using hx)] at hO
   have hOh:=Lib.hid hO
   clear hO hx
   go_wp2_with fail
   refine (hsz _).mono ?_
   rintro e w' ⟨rfl,rfl⟩
   go_wp2_with fail
   refine (hat1 _).mono ?_
   rintro e w' ⟨rfl,rfl⟩
   go_wp2_with fail
   refine (hat2 _).mono ?_
   rintro e w' ⟨rfl,rfl⟩
   go_wp2_with fail
   refine (hat3 _).mono ?_
   rintro e w' ⟨rfl,rfl⟩
   go_wp2_with fail
   apply wp_label
   rename_i hKK
   replace hKK:=Lib.hid hKK
   refine hKK.out _ _ ?_
   clear hKK
   obtain⟨G,hG⟩:∃ G:Int->Prog Int,G=fun name=>(st own (name+1)).bind fun _=>.ret name:=⟨_,rfl⟩
   replace hO:=hOh.out
   rw [<- hG] at hO
   have hOh2:=Lib.hid hO
   have hGh:=Lib.hid hG
   clear hO hOh hG hsz hat1 hat2 hat3
   go_wp2_with fail
   go_loopw [12,15] (fun u z wr=>∃ (f x y za zb:Nat) (S2:TS),z=.complex .f64 za zb/\Hid (ptOf za zb=some ((x:Int),(y:Int)))/\x+y+f=N/\u=.int .i64 ((triN N:Int)-1)/\Plays B wr p S2/\KeepP B p w wr/\RegsAt [2,3,4] wr p b rs/\Hid (Owes R encI B p w (((nameM rs N m f x y).bind G).run S2))) (fun _ z _=>N-zsum z)
   case atStart=>exact⟨N,0,0,r0,r0,S,rfl,Lib.hid (by rw [<- hr0];exact hptsh.out.2.2),by omega,rfl,hP,hK,hreg,hOh2⟩
   case round =>
    clear hP hK hreg hOh2
    obtain⟨f,x,y,za,zb,S2,rfl,hpt,hxy,rfl,hP,hK,hreg,hOh⟩:=hrel
    have hon:=fun w=>gon_p N za zb x y hpt.out (by omega) w
    cases f with
    | zero =>
      have d1:decide (x+y<N)=false:=by rw [decide_eq_false_iff_not];omega
      rw [d1] at hon
      replace hO:=hOh.out
      rw [show nameM rs N m 0 x y=.ret ((triN N:Int)-1) from rfl,Prog.bind_ret,show G ((triN N:Int)-1)=(st own (triN N:Int)).bind fun _=>.ret ((triN N:Int)-1) from by
       rw [hGh.out]
       show (st own ((triN N:Int)-1+1)).bind _=_
       rw [show (triN N:Int)-1+1=(triN N:Int) from by omega]] at hO
      clear hOh
      have hOh:=Lib.hid hO
      have hw2:IntKind.i64.wrap ((triN N:Int)-1+1)=(triN N:Int):=by rw [IntWalk.i64_in _ (by omega)];omega
      have hw3:IntKind.i64.wrap (triN N:Int)=(triN N:Int):=IntWalk.i64_in _ (by omega)
      clear hO hpt hxy
      go_wp2_with fail
      refine (hon _).mono ?_
      rintro e w' ⟨rfl,rfl⟩
      go_wp2_with fail
      refine tstep hOh.out hK (setO hP) (fun _ h=>⟨rfl,h⟩) ?_
      clear hOh hK hP
      intro u9 S9 w9 _ hP hk hK hO
      have hf:=hO.done (v:=(triN N:Int)-1) hP hK
      clear hO hP hK hk
      go_wp2_with fail
      first | exact hf | (go_ret;exact hf)
    | succ f =>
      have d1:decide (x+y<N)=true:=by rw [decide_eq_true_eq];omega
      rw [d1] at hon
      have hkl:=triName_lt (x:=x) (y:=y) (N:=N) (by omega)
      have hnm:=fun w=>gname_p za zb x y hpt.out (by omega) w
      obtain⟨k,hk⟩:∃ k,triName x y=k:=⟨_,rfl⟩
      rw [hk] at hkl hnm
      obtain⟨q0,hq0⟩:∃ r,rs[2*k]?=some r:=⟨_,List.getElem?_eq_getElem (by omega)⟩
      obtain⟨q1,hq1⟩:∃ r,rs[2*k+1]?=some r:=⟨_,List.getElem?_eq_getElem (by omega)⟩
      have hok0:=hokh.out _ (List.mem_of_getElem? hq0)
      have hok1:=hokh.out _ (List.mem_of_getElem? hq1)
      have hra:=fun w=>rat_p b (2*triN N) k (d+2*triN N-(2*k+2)) w (by omega) (by omega) (by omega) (by omega)
      rw [show d+2*triN N-(2*k+2)+2*k+2=d+2*triN N from by omega] at hra
      replace hO:=hOh.out
      rw [show nameM rs N m (f+1) x y=((passM (regAt rs (2*(triName x y:Int))) (regAt rs (2*(triName x y:Int)+1)) m).bind fun told =>
       if told=0 then .ret (triName x y:Int) else if told=1 then nameM rs N m f (x+1) y else nameM rs N m f x (y+1)) from rfl,hk,regAt_of (show 2*(k:Int)=((2*k:Nat):Int) from by omega) hq0,regAt_of (show 2*(k:Int)+1=((2*k+1:Nat):Int) from by omega) hq1,Prog.bind_assoc] at hO
      clear hOh
      have hOh:=Lib.hid hO
      have hqq:=Lib.hid (And.intro hq0 hq1)
      have hzs:=Lib.hid (zsum_eq hpt.out)
      have hxyh:=Lib.hid hxy
      have hkh:=Lib.hid hk
      clear hO hq0 hq1 hxy hk
      go_wp2_with fail
      refine (hon _).mono ?_
      rintro e w' ⟨rfl,rfl⟩
      go_wp2_with fail
      refine (hnm _).mono ?_
      rintro e w' ⟨rfl,rfl⟩
      go_wp2_with fail
      refine (hra _).mono ?_
      rintro e w' ⟨⟨cc,rfl⟩,rfl⟩
      go_wp2_with fail
      refine tstep hOh.out hK (passn_p B p S2 q0 q1 m b cc (2*k) rs _ hP hreg hqq.out hok0.1 hok1.1 (by omega) (by rw [hok0.2];omega) (by rw [hok1.2];omega)) (fun _ h=>⟨rfl,h⟩) ?_
      clear hOh hK hP
      intro told S3 w3 hrun hP hk1 hK hO
      replace hreg:=hreg.keep hk1
      clear hk1 hrun hqq hok0 hok1 hra hon
      by_cases ht0:told=0
      · have dt:(told==0)=true:=by rw [beq_iff_eq];exact ht0
        rw [if_pos ht0,Prog.bind_ret,show G (k:Int)=(st own ((k:Int)+1)).bind fun _=>.ret (k:Int) from by rw [hGh.out]] at hO
        have hOh:=Lib.hid hO
        have hw2:IntKind.i64.wrap ((k:Int)+1)=(k:Int)+1:=IntWalk.i64_in _ (by omega)
        clear hO ht0 hzs hpt
        go_wp2_with fail
        refine (hnm _).mono ?_
        rintro e w' ⟨rfl,rfl⟩
        go_wp2_with fail
        refine tstep hOh.out hK (setO hP) (fun _ h=>⟨rfl,h⟩) ?_
        clear hOh hK hP
        intro u9 S9 w9 _ hP hk hK hO
        have hf:=hO.done (v:=(k:Int)) hP hK
        clear hO hP hK hk
        go_wp2_with fail
        first | exact hf | (go_ret;exact hf)
      · have dt:(told==0)=false:=by rw [beq_eq_false_iff_ne];exact ht0
        rw [if_neg ht0] at hO
        clear hnm ht0
        by_cases ht1:told=1
        · have dt1:(told==1)=true:=by rw [beq_iff_eq];exact ht1
          rw [if_pos ht1] at hO
          have hOh:=Lib.hid hO
          obtain⟨re,im,hsum,hp2⟩:=padd hpt.out hptsh.out.1 (by have:=hxyh.out;exact⟨by simp only;omega,by simp only;omega,by simp only;omega,by simp only;omega⟩)
          rw [hr1,hr0] at hsum
          have hadd:=fun W=>run_complex_sum (P:=Try.prog) W .add (.inl rfl) 117 .f64 za zb r1 r0 re im hsum
          have hp3:ptOf re im=some (((x+1:Nat):Int),((y:Nat):Int)):=by rw [hp2];simp
          have hp3h:=Lib.hid hp3
          clear hO ht1 hpt hsum hp2 hp3
          go_wp2_with fail
          refine⟨⟨f,x+1,y,re,im,S3,rfl,hp3h,by have:=hxyh.out;omega,rfl,hP,hK,hreg,hOh⟩,?_⟩
          rw [hzs.out,zsum_eq hp3h.out]
          have:=hxyh.out
          omega
        · have dt1:(told==1)=false:=by rw [beq_eq_false_iff_ne];exact ht1
          rw [if_neg ht1] at hO
          have hOh:=Lib.hid hO
          obtain⟨re,im,hsum,hp2⟩:=padd hpt.out hptsh.out.2.1 (by have:=hxyh.out;exact⟨by simp only;omega,by simp only;omega,by simp only;omega,by simp only;omega⟩)
          rw [hr1,hr0] at hsum
          have hadd:=fun W=>run_complex_sum (P:=Try.prog) W .add (.inl rfl) 117 .f64 za zb r0 r1 re im hsum
          have hp3:ptOf re im=some (((x:Nat):Int),((y+1:Nat):Int)):=by rw [hp2];simp
          have hp3h:=Lib.hid hp3
          clear hO ht1 hpt hsum hp2 hp3
          go_wp2_with fail
          refine⟨⟨f,x,y+1,re,im,S3,rfl,hp3h,by have:=hxyh.out;omega,rfl,hP,hK,hreg,hOh⟩,?_⟩
          rw [hzs.out,zsum_eq hp3h.out]
          have:=hxyh.out
          omega
 · have dx:(x != 0)=true:=by simpa using hx
   rw [if_pos (by simpa using hx)] at hO
   have hf:=hO.done hP hK
   clear hO hx
   go_wp2_with fail
   first | exact hf | (go_ret;exact hf)
end Go.Proofs.Ytbphlkaihfbgeaa
