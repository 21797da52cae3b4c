/-
  BoundTellsSaid: part 0 of its proof.
-/
import Derived.Lib.ItoaNum
import Derived.Lib.BitFns
import Derived.Test.YtponihangpiooaaGreatProg
import Derived.WalkKit
import Derived.WalkLawsBesides
import Derived.WalkSpells
import Derived.Lib.MinMax
import Derived.Lib.Hide
import Derived.Deep.QuietTactic
import Derived.BigQuiet
import Derived.RegionTactic
import Derived.Deep.RegionWith
import Derived.Deep.LoopGhost
import Derived.ShutString
import Derived.WalkSmall
import Derived.Lib.AppendIntMem
import Derived.OrdersHeld
import Derived.Maps.AppendAt
import Derived.OneCell
import Derived.Deep.RegionLaw
import Derived.Deep.AppendLies
import Derived.Laws.AppendOwn
import Derived.OwnWalk
import Derived.WalkMore
import Derived.ScopeJumps
import Derived.Deep.RegionHeld2
import Derived.RowKit
import Derived.RangeFuncBox
import Derived.RangeFuncFrom
import Derived.RangeFuncNested
import Derived.OwnWalkIn
import Derived.TacticsInMore
import Derived.LoopNIn
import Derived.LoopIn
import Derived.RangeFuncCalls
import Derived.OrdersIn
import Derived.Shelf.Abstract
import Derived.Laws.StructEq
namespace Kv
def within (n lo hi:Int):Int:=if n<lo then lo else if hi<n then hi else n
def clamp (n top:Int):Int:=within n 0 (within top 0 1099511627776)
def room (top:Int):Int:=within top 0 1048576
def levelsFrom (n:Nat):Nat->Nat->Nat
 | 0,_=>0
 | f+1,p=>if p<n then levelsFrom n f (2*p)+1 else 0
def levels (n:Int):Nat:=levelsFrom n.toNat 64 1
theorem levelsFrom_scale:∀ (f n p:Nat),levelsFrom (n+1) f (2*p)=levelsFrom (n / 2+1) f p
 | 0,_,_=>rfl
 | f+1,n,p=>by
   simp only [levelsFrom]
   have h:(2*p<n+1)=(p<n / 2+1):=by apply propext;omega
   have ih:=levelsFrom_scale f n (2*p)
   by_cases hp:p<n / 2+1
   · rw [if_pos hp,if_pos (by rw [h];exact hp),ih]
   · rw [if_neg hp,if_neg (by rw [h];exact hp)]
theorem levelsFrom_bitLen:∀ (f n:Nat),levelsFrom (n+1) f 1=Go.Lib.bitLenAux f n
 | 0,_=>rfl
 | f+1,n=>by
   simp only [levelsFrom,Go.Lib.bitLenAux]
   by_cases h:n=0
   · subst h;simp
   · rw [if_pos (by omega),if_neg h]
     have h2:=levelsFrom_scale f n 1
     rw [h2,levelsFrom_bitLen f (n / 2),Nat.add_comm]
theorem levels_bitLen (n:Int)(h:1<n):(levels n)=Go.Lib.bitLen (n-1).toNat:=by
 unfold levels Go.Lib.bitLen
 have:=levelsFrom_bitLen 64 (n-1).toNat
 rw [<- this]
 congr 1
 omega
theorem levels_small (n:Int)(h:n<=1):levels n=0:=by
 show (if 1<n.toNat then _ else 0)=0
 rw [if_neg (by omega)]
theorem levelsFrom_le:∀ f n p,levelsFrom n f p<=f
 | 0,_,_=>Nat.le_refl _
 | f+1,n,p=>by
   simp only [levelsFrom]
   have:=levelsFrom_le f n (2*p)
   split <;> omega
theorem levels_le (n:Int):levels n<=64:=levelsFrom_le _ _ _
theorem levelsFrom_step (n f p:Nat)(h:p<n):levelsFrom n (f+1) p=levelsFrom n f (2*p)+1:=by simp [levelsFrom,h]
end Kv
namespace Go.Proofs.YtponihangpiooaaGreat
open Go.RowKit Kv
@[go_sem high] theorem run_min_ints3 {P:Program} (w:World) (ts:Array TypeId) (t:TypeId) (k k' k'':IntKind) (x y z:Int) :
  (Builtin.min_ ts t #[.int k x,.int k' y,.int k'' z]).run P w=.ok (.int k (min (min x y) z)) w:=by
 have e:∀ a b:Int,(if b<a then b else a)=min a b:=by intro a b;rw [Int.min_def];split <;> split <;> omega
 simp [Builtin.min_,Builtin.min2,e]
theorem ret_int {k:IntKind}{a b:Int}(h:a=b):Ending.returned (.int k a)=.returned (.int k b):=by rw [h]
theorem ret_bool {a b:Bool}(h:a=b):Ending.returned (.bool a)=.returned (.bool b):=by rw [h]
def Drew (w w':World):Prop:=∃ n,w'=w.drewN n
theorem Drew.trans {a b c:World}(h:Drew a b)(k:Drew b c):Drew a c:=by
 obtain⟨n,rfl⟩:=h
 obtain⟨m,rfl⟩:=k
 exact⟨n+m,by simp⟩
theorem Drew.below {w w':World}(B:Nat)(h:Drew w w'):Below B w w':=by
 obtain⟨n,rfl⟩:=h
 exact⟨rfl,rfl,rfl,Nat.le_refl _,fun _ _=>rfl⟩
def Ext (w w':World):Prop:=Below w.heap.size w w'
theorem Ext.refl (w:World):Ext w w:=Below.refl _ _
theorem Ext.size {w w':World}(h:Ext w w'):w.heap.size<=w'.heap.size:=Below.size h
theorem Ext.trans {a b c:World}(h:Ext a b)(k:Ext b c):Ext a c:=Below.trans h (Below.mono k (Ext.size h))
theorem Ext.drewN {a b:World}(h:Ext a b)(n:Nat):Ext a (b.drewN n):=Below.trans h ⟨rfl,rfl,rfl,Nat.le_refl _,fun _ _=>rfl⟩
theorem Ext.drew {a b:World}(h:Ext a b):Ext a b.drew:=Below.drew h
theorem Ext.alloc {a b:World}(h:Ext a b)(o:Obj):Ext a (b.alloc o):=Below.alloc h (Ext.size h) o
theorem Ext.setCell {a b:World}(h:Ext a b){p:Addr}(hp:a.heap.size<=p.block)(u:Value):Ext a (b.setCell p u):=Below.setCell h hp u
theorem Drew.ext {w w':World}(h:Drew w w'):Ext w w':=Drew.below _ h
theorem Ext.cell {w w':World}(h:Ext w w'){p:Addr}(hp:p.block<w.heap.size):w'.cell? p=w.cell? p:=Below.cell h hp
end Go.Proofs.YtponihangpiooaaGreat
namespace Go.Proofs.YtponihangpiooaaGreat
open Go.RowKit
theorem tk {P:Program}{ops:Array Oper}{Q:Exit->Act->World->Prop}{md:Region.Mode}{S:World->Prop}(i:Nat){oi:Oper}{v:Value}{fuel:Nat}{listed:Array Bool}{a:Act}{w:World}(hi:ops[i]?=some oi)
  (hc:(Region.noSelect ops&&Region.free md ops listed i&&(Region.ready md ops listed).contains i&&Region.wanted oi (yielded ops a.tmps))=true)
  (hQ:∀ c a w,Q (.panic c) (a.put oi.dst v) w->Q (.panic c) a w)(hS:S w)(hy:∀ w,S w->(execOp a.eval oi).run P w=.ok (.value v) w)
  (h:wpAnyH P md ops Q S fuel (listed.setIfInBounds i true) (a.put oi.dst v) w):wpAnyH P md ops Q S (fuel+1) listed a w:=by
 simp only [Bool.and_eq_true] at hc
 exact wpAnyH_take hi hc.1.1.1 hc.1.1.2 hc.1.2 hQ (Or.inl ⟨hc.2,hy⟩) hS h
def AnyN (_:Nat) (p:Prop):Prop:=p
theorem tkb {p:Prop}(i:Nat)(h:AnyN i p):p:=h
theorem tke {p:Prop}{i:Nat}(h:p):AnyN i p:=h
theorem tkn {P:Program}{ops:Array Oper}{Q:Exit->Act->World->Prop}{md:Region.Mode}{S:World->Prop}{i:Nat}{oi:Oper}{v:Value}{fuel:Nat}{listed:Array Bool}{a:Act}{w:World}(hi:ops[i]?=some oi)
  (hc:(Region.noSelect ops&&Region.free md ops listed i&&(Region.ready md ops listed).contains i&&Region.wanted oi (yielded ops a.tmps))=true)
  (hQ:∀ c a w,Q (.panic c) (a.put oi.dst v) w->Q (.panic c) a w)(hS:S w)(hy:∀ w,S w->(execOp a.eval oi).run P w=.ok (.value v) w)
  (h:AnyN (i+1) (wpAnyH P md ops Q S fuel (listed.setIfInBounds i true) (a.put oi.dst v) w)):AnyN i (wpAnyH P md ops Q S (fuel+1) listed a w):=tk i hi hc hQ hS hy h
theorem sk {P:Program}{ops:Array Oper}{Q:Exit->Act->World->Prop}{md:Region.Mode}{S:World->Prop}(i:Nat){oi:Oper}{fuel:Nat}{listed:Array Bool}{a:Act}{w:World}(hi:ops[i]?=some oi)
  (hc:(Region.noSelect ops&&Region.free md ops listed i&&(Region.ready md ops listed).contains i&&!Region.wanted oi (yielded ops a.tmps))=true)
  (hQ:∀ c a w,Q (.panic c) (a.put oi.dst undef) w->Q (.panic c) a w)(hS:S w)
  (h:wpAnyH P md ops Q S fuel (listed.setIfInBounds i true) (a.put oi.dst undef) w):wpAnyH P md ops Q S (fuel+1) listed a w:=by
 simp only [Bool.and_eq_true,Bool.not_eq_true'] at hc
 exact wpAnyH_take hi hc.1.1.1 hc.1.1.2 hc.1.2 hQ (Or.inr ⟨hc.2,rfl⟩) hS h
end Go.Proofs.YtponihangpiooaaGreat
namespace Kv
structure Acc where
 kind:Int
 cell:Int
 val:Int
structure Nt where
 kind:Int
 pos:Int
structure TS where
 ans:List Int
 acc:List Acc
 nts:List Nt
 loc:Nat->Int
inductive Prog (α:Type):Type where
 | ret (a:α):Prog α
 | read (c:Int) (k:Int->Prog α):Prog α
 | write (c v:Int) (k:Unit->Prog α):Prog α
 | get (i:Int) (k:Int->Prog α):Prog α
 | set (i v:Int) (k:Unit->Prog α):Prog α
 | note (n:Int) (k:Unit->Prog α):Prog α
namespace Prog
def bind {α β:Type}:Prog α->(α->Prog β)->Prog β
 | ret a,f=>f a
 | read c k,f=>read c fun x=>(k x).bind f
 | write c v k,f=>write c v fun x=>(k x).bind f
 | get i k,f=>get i fun x=>(k x).bind f
 | set i v k,f=>set i v fun x=>(k x).bind f
 | note n k,f=>note n fun x=>(k x).bind f
end Prog
def rd (c:Int):Prog Int:=.read c .ret
def wr (c v:Int):Prog Unit:=.write c v .ret
def st (i v:Int):Prog Unit:=.set i v .ret
def TS.put (S:TS) (a:Acc):TS:={ S with acc:=S.acc++[a] }
def TS.noted (S:TS) (n:Int):TS:={ S with nts:=S.nts++[⟨n,(S.acc.length:Int)⟩] }
def TS.next (S:TS):Option Int:=S.ans[S.acc.length]?
def TS.got (S:TS) (i:Int):Int:=if i<0 then 0 else S.loc i.toNat
def TS.upd (S:TS) (i v:Int):TS :=
 if 0<=i/\i<32768 then { S with loc:=fun j=>if j=i.toNat then v else S.loc j } else S
def Prog.run {α:Type}:Prog α->TS->Option α × TS
 | .ret a,S=>(some a,S)
 | .read c k,S=>match S.next with
   | some v=>(k v).run (S.put ⟨1,c,0⟩)
   | none=>(none,S.put ⟨1,c,0⟩)
 | .write c v k,S=>match S.next with
   | some _=>(k ()).run (S.put ⟨2,c,v⟩)
   | none=>(none,S.put ⟨2,c,v⟩)
 | .get i k,S=>(k (S.got i)).run S
 | .set i v k,S=>(k ()).run (S.upd i v)
 | .note n k,S=>(k ()).run (S.noted n)
def thenR {α β:Type} (r:Option α × TS) (f:α->Prog β):Option β × TS :=
 match r with
 | (some a,S1)=>(f a).run S1
 | (none,S1)=>(none,S1)
theorem Prog.run_bind {α β:Type}(f:α->Prog β):∀ (p:Prog α) (S:TS),(p.bind f).run S=thenR (p.run S) f
 | .ret a,S=>rfl
 | .read c k,S=>by
   simp only [Prog.bind,Prog.run]
   cases S.next with
   | none=>rfl
   | some v=>exact run_bind f (k v) _
 | .write c v k,S=>by
   simp only [Prog.bind,Prog.run]
   cases S.next with
   | none=>rfl
   | some _=>exact run_bind f (k ()) _
 | .get i k,S=>run_bind f (k _) _
 | .set i v k,S=>run_bind f (k ()) _
 | .note n k,S=>run_bind f (k ()) _
theorem Prog.run_bind_some {α β:Type}{p:Prog α}{f:α->Prog β}{S S1:TS}{a:α}(h:p.run S=(some a,S1)):(p.bind f).run S=(f a).run S1:=by
 rw [run_bind,h];rfl
theorem Prog.run_bind_none {α β:Type}{p:Prog α}{f:α->Prog β}{S S1:TS}(h:p.run S=(none,S1)):(p.bind f).run S=(none,S1):=by
 rw [run_bind,h];rfl
theorem TS.upd_ans (S:TS)(i v:Int):(S.upd i v).ans=S.ans:=by unfold TS.upd;split <;> rfl
theorem TS.upd_acc (S:TS)(i v:Int):(S.upd i v).acc=S.acc:=by unfold TS.upd;split <;> rfl
theorem TS.upd_nts (S:TS)(i v:Int):(S.upd i v).nts=S.nts:=by unfold TS.upd;split <;> rfl
theorem Prog.run_ans {α:Type}:∀ (p:Prog α) (S:TS),(p.run S).2.ans=S.ans
 | .ret a,S=>rfl
 | .read c k,S=>by
   simp only [Prog.run]
   cases S.next with
   | none=>rfl
   | some v=>exact run_ans (k v) _
 | .write c v k,S=>by
   simp only [Prog.run]
   cases S.next with
   | none=>rfl
   | some _=>exact run_ans (k ()) _
 | .get i k,S=>run_ans (k _) _
 | .set i v k,S=>(run_ans (k ()) _).trans (TS.upd_ans S i v)
 | .note n k,S=>run_ans (k ()) _
theorem Prog.run_acc {α:Type}:∀ (p:Prog α) (S:TS),∃ l,(p.run S).2.acc=S.acc++l
 | .ret a,S=>⟨[],by simp [Prog.run]⟩
 | .read c k,S=>by
   simp only [Prog.run]
   cases S.next with
   | none=>exact⟨_,rfl⟩
   | some v =>
     obtain⟨l,h⟩:=run_acc (k v) (S.put ⟨1,c,0⟩)
     exact⟨⟨1,c,0⟩ :: l,by rw [h];simp [TS.put]⟩
 | .write c v k,S=>by
   simp only [Prog.run]
   cases S.next with
   | none=>exact⟨_,rfl⟩
   | some _ =>
     obtain⟨l,h⟩:=run_acc (k ()) (S.put ⟨2,c,v⟩)
     exact⟨⟨2,c,v⟩ :: l,by rw [h];simp [TS.put]⟩
 | .get i k,S=>run_acc (k _) _
 | .set i v k,S=>by
   obtain⟨l,h⟩:=run_acc (k ()) (S.upd i v)
   exact⟨l,by rw [<- TS.upd_acc S i v];exact h⟩
 | .note n k,S=>run_acc (k ()) (S.noted n)
inductive Prog.Notes {α:Type}:Prog α->Nat->Prop
 | ret (a:α) (n:Nat):Notes (.ret a) n
 | read (c:Int) {k:Int->Prog α} {n:Nat}:(∀ x,Notes (k x) n)->Notes (.read c k) n
 | write (c v:Int) {k:Unit->Prog α} {n:Nat}:Notes (k ()) n->Notes (.write c v k) n
 | get (i:Int) {k:Int->Prog α} {n:Nat}:(∀ x,Notes (k x) n)->Notes (.get i k) n
 | set (i v:Int) {k:Unit->Prog α} {n:Nat}:Notes (k ()) n->Notes (.set i v k) n
 | note (m:Int) {k:Unit->Prog α} {n:Nat}:Notes (k ()) n->Notes (.note m k) (n+1)
theorem Prog.Notes.mono {α:Type}{p:Prog α}{n:Nat}(h:p.Notes n):∀ {m},n<=m->p.Notes m:=by
 induction h with
 | ret a n=>intro m _;exact .ret a m
 | read c _ ih=>intro m hm;exact .read c fun x=>ih x hm
 | write c v _ ih=>intro m hm;exact .write c v (ih hm)
 | get c _ ih=>intro m hm;exact .get c fun x=>ih x hm
 | set c v _ ih=>intro m hm;exact .set c v (ih hm)
 | note k _ ih =>
   intro m hm
   cases m with
   | zero=>omega
   | succ m=>exact .note k (ih (by omega))
theorem Prog.Notes.bind {α β:Type}{p:Prog α}{f:α->Prog β}{n m:Nat}(h:p.Notes n)(hf:∀ a,(f a).Notes m):(p.bind f).Notes (n+m):=by
 induction h with
 | ret a n=>exact (hf a).mono (by omega)
 | read c _ ih=>exact .read c fun x=>ih x
 | write c v _ ih=>exact .write c v ih
 | get c _ ih=>exact .get c fun x=>ih x
 | set c v _ ih=>exact .set c v ih
 | @note k _ n _ ih=>rw [show n+1+m=(n+m)+1 from by omega];exact .note k ih
theorem Prog.Notes.run {α:Type}{p:Prog α}{n:Nat}(h:p.Notes n):∀ S:TS,(p.run S).2.nts.length<=S.nts.length+n:=by
 induction h with
 | ret a n=>intro S;simp [Prog.run]
 | read c _ ih =>
   intro S
   simp only [Prog.run]
   cases S.next with
   | none=>simp [TS.put]
   | some v=>exact ih v _
 | write c v _ ih =>
   intro S
   simp only [Prog.run]
   cases S.next with
   | none=>simp [TS.put]
   | some _=>exact ih _
 | get i _ ih=>intro S;exact ih _ _
 | set i v _ ih=>intro S;have:=ih (S.upd i v);rw [TS.upd_nts] at this;exact this
 | note k _ ih =>
   intro S
   have h1:=ih (S.noted k)
   have h2:(S.noted k).nts.length=S.nts.length+1:=by simp [TS.noted]
   simp only [Prog.run]
   omega
inductive Ref {α:Type} (p:Prog α):Bool->TS->α->Bool->TS->Prop
 | over (S:TS) (a:α):Ref p true S a true S
 | done {S S1:TS} {a:α}:p.run S=(some a,S1)->Ref p false S a false S1
 | stop {S S1:TS} (a:α):p.run S=(none,S1)->Ref p false S a true S1
theorem Ref.bind {α β:Type}{p:Prog α}{f:α->Prog β}{o o1 o2:Bool}{S S1 S2:TS}{a:α}{b:β}
  (h:Ref p o S a o1 S1)(k:Ref (f a) o1 S1 b o2 S2):Ref (p.bind f) o S b o2 S2:=by
 cases h with
 | over=>cases k;exact .over _ _
 | done h =>
   cases k with
   | done k=>exact .done ((Prog.run_bind_some h).trans k)
   | stop _ k=>exact .stop _ ((Prog.run_bind_some h).trans k)
 | stop _ h=>cases k;exact .stop _ (Prog.run_bind_none h)
theorem Ref.ret {α:Type}(a:α)(o:Bool)(S:TS):Ref (.ret a) o S a o S:=by
 cases o with
 | true=>exact .over _ _
 | false=>exact .done rfl
theorem Ref.any {α β:Type}{p:Prog α}{S S':TS}{a:α}{o:Bool}(h:Ref p true S a o S')(q:Prog β)(b:β):Ref q true S b o S':=by
 cases h;exact .over _ _
end Kv
namespace Go.Proofs.YtponihangpiooaaGreat
open Go.RowKit Kv
def Ints (w:World) (v:Value) (l:List Int):Prop :=
 ∃ A c,v=.slice A l.length c/\l.length<=c/\c<=9223372036854775807/\(l≠[]->∃ b off,A=some ⟨b,off,none⟩/\b<w.heap.size/\∀ i x,l[i]?=some x->w.cell? ⟨b,off+i,none⟩=some (.int .i64 x))
theorem Ints.ext {w w':World}{v:Value}{l:List Int}(h:Ints w v l)(hx:Ext w w'):Ints w' v l:=by
 obtain⟨A,c,rfl,h1,h2,h3⟩:=h
 refine⟨A,c,rfl,h1,h2,fun hl=>?_⟩
 obtain⟨b,off,rfl,hb,hc⟩:=h3 hl
 exact⟨b,off,rfl,Nat.lt_of_lt_of_le hb (Ext.size hx),fun i x hi=>(Ext.cell hx (p:=⟨b,off+i,none⟩) hb).trans (hc i x hi)⟩
theorem Ints.nil (w:World):Ints w (.slice none 0 0) []:=⟨none,0,rfl,by simp,by omega,fun h=>absurd rfl h⟩
theorem Ints.slice {w:World}{v:Value}{l:List Int}(h:Ints w v l):∃ A c,v=.slice A l.length c/\l.length<=c/\c<=9223372036854775807:=by
 obtain⟨A,c,rfl,h1,h2,_⟩:=h
 exact⟨A,c,rfl,h1,h2⟩
def IntRow (w:World) (base:Nat) (v:Value) (l:List Int):Prop:=w.ownsRow base 3 1 v l.length (l.map (Value.int .i64))
theorem IntRow.nil (w:World)(base:Nat):IntRow w base (.slice none 0 0) []:=World.ownsRow_nil _ _ _ _
theorem IntRow.ints {w:World}{base:Nat}{v:Value}{l:List Int}(h:IntRow w base v l):Ints w v l:=by
 have h':=h
 obtain⟨hl,h2⟩:=h
 rcases h2 with⟨rfl,h0⟩ | ⟨g,cap,cur,rfl,hg,hh,hn,hm,hs,ht⟩
 · obtain rfl:l=[]:=List.eq_nil_of_length_eq_zero h0
   exact Ints.nil w
 · refine⟨_,_,rfl,hn,by unfold maxLen at hm;exact hm,fun _=>⟨g,0,rfl,?_,fun i x hi=>?_⟩⟩
   · rcases Nat.lt_or_ge g w.heap.size with hlt | hge
     · exact hlt
     · rw [Array.getElem?_eq_none hge] at hh;cases hh
   · have hc:=World.ownsRow.cells h' (g:=g) rfl i (.int .i64 x) (by rw [List.getElem?_map,hi];rfl)
     rw [Addr.add_lit] at hc
     exact hc
theorem Ext.appended {w wr w':World}{v:Value}{l:List Int}{o:Obj}(h:Ext w wr)(hown:IntRow wr w.heap.size v l)(hg:(wr.alloc o).grownBy w' v.ownBlock):Ext w w':=by
 refine Below.grown (Below.alloc h h.size o) hg (by have:=h.size;simp;omega) fun k hk=>?_
 obtain⟨_,h2⟩:=hown
 rcases h2 with⟨rfl,_⟩ | ⟨g,cap,cur,rfl,hgb,_⟩
 · simp [Value.ownBlock] at hk
 · simp [Value.ownBlock] at hk
   omega
theorem cell_of_heap {w:World}{b:Nat}{cs:Array Value}{t:TypeId}{fz:Nat × Nat}(h:w.heap[b]?=some (.cells cs t fz))(i:Nat):w.cell? ⟨b,i,none⟩=cs[i]?:=by
 simp [World.cell?,h]
def ownR (ix:List Nat) (w:World) (p b:Nat):Prop:=b=p∨∃ i∈ix,∃ v,w.cell? ⟨p,i,none⟩=some v/\v.ownBlock=some b
theorem ownR_same {ix:List Nat}{w w':World}{p:Nat}(h:w'.heap[p]?=w.heap[p]?)(b:Nat):ownR ix w' p b↔ownR ix w p b:=by
 unfold ownR
 have e:∀ i,w'.cell? ⟨p,i,none⟩=w.cell? ⟨p,i,none⟩:=fun i=>World.cell?_of_block (w:=w) (a:=⟨p,i,none⟩) h
 simp only [e]
structure Keep (ix:List Nat) (B p:Nat) (w w':World):Prop where
 below:Below B w w'
 rest:∀ b,b<w.heap.size->¬ ownR ix w p b->w'.heap[b]?=w.heap[b]?/\¬ ownR ix w' p b
section
variable {ix:List Nat} {B p:Nat} {w w' w'':World}
theorem Keep.refl (ix:List Nat)(B p:Nat)(w:World):Keep ix B p w w:=⟨Below.refl _ _,fun _ _ h=>⟨rfl,h⟩⟩
theorem Keep.size (h:Keep ix B p w w'):w.heap.size<=w'.heap.size:=h.below.size
theorem Keep.trans (h:Keep ix B p w w')(k:Keep ix B p w' w''):Keep ix B p w w'' :=
 ⟨h.below.trans k.below,fun b hb ho=>by
  obtain⟨h1,h2⟩:=h.rest b hb ho
  obtain⟨h3,h4⟩:=k.rest b (Nat.lt_of_lt_of_le hb h.size) h2
  exact⟨h3.trans h1,h4⟩⟩
theorem Keep.of_ext (h:Ext w w')(hp:p<w.heap.size)(hB:B<=w.heap.size):Keep ix B p w w' :=
 ⟨Below.mono h hB,fun b hb ho=>⟨Below.block h b hb,fun h'=>ho ((ownR_same (Below.block h p hp) b).1 h')⟩⟩
theorem Keep.alloc (o:Obj)(hp:p<w.heap.size)(hB:B<=w.heap.size):Keep ix B p w (w.alloc o):=Keep.of_ext ((Ext.refl w).alloc o) hp hB
theorem Keep.drewN (n:Nat)(h:Keep ix B p w w'):Keep ix B p w (w'.drewN n):=⟨⟨h.below.os,h.below.tape,h.below.output,h.below.size,h.below.block⟩,h.rest⟩
def Held (ix:List Nat) (w:World) (p b:Nat) (o:Obj):Prop:=w.heap[b]?=some o/\¬ ownR ix w p b
theorem Held.lt {b:Nat}{o:Obj}(h:Held ix w p b o):b<w.heap.size:=(Array.getElem?_eq_some_iff.1 h.1).1
theorem Held.keep {b:Nat}{o:Obj}(h:Held ix w p b o)(k:Keep ix B p w w'):Held ix w' p b o:=by
 obtain⟨h1,h2⟩:=k.rest b h.lt h.2
 exact⟨h1.trans h.1,h2⟩
theorem Held.ext {b:Nat}{o:Obj}(h:Held ix w p b o)(k:Ext w w')(hp:p<w.heap.size):Held ix w' p b o :=
 h.keep (B:=0) (Keep.of_ext k hp (Nat.zero_le _))
theorem Held.alloc {b:Nat}{o:Obj}(h:Held ix w p b o)(o':Obj)(hp:p<w.heap.size):Held ix (w.alloc o') p b o:=h.ext ((Ext.refl w).alloc o') hp
theorem Held.cells {b:Nat}{cs:Array Value}{t:TypeId}{fz:Nat × Nat}(h:Held ix w p b (.cells cs t fz))(i:Nat):w.cell? ⟨b,i,none⟩=cs[i]?:=cell_of_heap h.1 i
end
theorem row_ext {w w':World}{base e size n:Nat}{v:Value}{xs:List Value}(h:w.ownsRow base e size v n xs)(hx:Ext w w'):w'.ownsRow base e size v n xs :=
 h.kept (row:=none) ⟨hx.os,hx.tape,hx.output,hx.size,fun k hk _=>hx.block k hk⟩ (by cases v.ownBlock <;> simp)
theorem rows_apart {w:World}{B B' e e' s s' n n':Nat}{v v':Value}{xs xs':List Value}(h:w.ownsRow B e s v n xs)(h':w.ownsRow B' e' s' v' n' xs')(he:e≠e') :
  v.ownBlock=none∨v.ownBlock≠v'.ownBlock:=by
 rcases h.2 with⟨rfl,_⟩ | ⟨g,cap,cur,rfl,_,hg,_⟩
 · exact .inl rfl
 · refine .inr fun hb=>?_
   rcases h'.2 with⟨rfl,_⟩ | ⟨g',cap',cur',rfl,_,hg',_⟩
   · simp [Value.ownBlock] at hb
   · simp only [Value.ownBlock,Option.some.injEq] at hb
     subst hb
     rw [hg] at hg'
     injection hg' with hg'
     injection hg' with _ e2
     exact he e2
theorem row_not {w:World}{B e s n:Nat}{v:Value}{xs:List Value}(h:w.ownsRow B e s v n xs){b:Nat}{cs:Array Value}{t:TypeId}{fz:Nat × Nat}(hb:w.heap[b]?=some (.cells cs t fz))(he:e≠t) :
  v.ownBlock≠some b:=by
 intro hv
 rcases h.2 with⟨rfl,_⟩ | ⟨g,cap,cur,rfl,_,hg,_⟩
 · simp [Value.ownBlock] at hv
 · simp only [Value.ownBlock,Option.some.injEq] at hv
   subst hv
   rw [hg] at hb
   injection hb with hb
   injection hb with _ e2
   exact he e2
def accVals (l:List Acc):List Value:=l.flatMap fun a=>[.int .i64 a.kind,.int .i64 a.cell,.int .i64 a.val]
def ntVals (l:List Nt):List Value:=l.flatMap fun a=>[.int .i64 a.kind,.int .i64 a.pos]
def LocIs (L:List Int) (f:Nat->Int):Prop:=∀ i,f i=L.getD i 0
def maxAns:Nat:=1000000000
structure PMem (B:Nat) (w:World) (p:Nat) (S:TS) (st:Int) (vA vL vC vN:Value) (L:List Int):Prop where
 ge:B<=p
 heap:w.heap[p]?=some (.cells #[.int .i64 st,vA,vL,vC,vN] 149 (0,0))
 ans:Ints w vA S.ans
 ansB:∀ b,vA.ownBlock=some b->b<B
 rowL:w.ownsRow B 3 1 vL L.length (L.map (Value.int .i64))
 rowC:w.ownsRow B 87 3 vC S.acc.length (accVals S.acc)
 rowN:w.ownsRow B 222 2 vN S.nts.length (ntVals S.nts)
 loc:LocIs L S.loc
 locN:L.length<=32768
 accN:S.acc.length<=S.ans.length+1
 ansN:S.ans.length<=maxAns
 ntsN:S.nts.length<=maxAns
def Plays (B:Nat) (w:World) (p:Nat) (S:TS):Prop:=S.acc.length<=S.ans.length/\∃ vA vL vC vN L,PMem B w p S 1 vA vL vC vN L
def Stops (B:Nat) (w:World) (p:Nat) (S:TS):Prop:=∃ vA vL vC vN L,PMem B w p S 2 vA vL vC vN L
abbrev KeepP (B p:Nat) (w w':World):Prop:=Keep [2,3,4] B p w w'
abbrev HeldP (w:World) (p b:Nat) (o:Obj):Prop:=Held [2,3,4] w p b o
section
variable {B p:Nat} {w w':World} {S:TS} {st:Int} {vA vL vC vN:Value} {L:List Int}
theorem PMem.lt (h:PMem B w p S st vA vL vC vN L):p<w.heap.size:=(Array.getElem?_eq_some_iff.1 h.heap).1
theorem PMem.own (h:PMem B w p S st vA vL vC vN L){b:Nat}(hb:ownR [2,3,4] w p b):B<=b/\b<w.heap.size:=by
 rcases hb with rfl | ⟨i,hi,v,hv,hvb⟩
 · exact⟨h.ge,h.lt⟩
 · have e:=cell_of_heap h.heap i
   simp only [List.mem_cons,List.not_mem_nil,or_false] at hi
   rcases hi with rfl | rfl | rfl
   · obtain rfl:vL=v:=by rw [e] at hv;simpa using hv
     exact h.rowL.lt b hvb
   · obtain rfl:vC=v:=by rw [e] at hv;simpa using hv
     exact h.rowC.lt b hvb
   · obtain rfl:vN=v:=by rw [e] at hv;simpa using hv
     exact h.rowN.lt b hvb
theorem PMem.ext (h:PMem B w p S st vA vL vC vN L)(hx:Ext w w'):PMem B w' p S st vA vL vC vN L :=
 { h with heap:=(Below.block hx p h.lt).trans h.heap,ans:=h.ans.ext hx,rowL:=row_ext h.rowL hx,rowC:=row_ext h.rowC hx,rowN:=row_ext h.rowN hx }
theorem Plays.ext (h:Plays B w p S)(hx:Ext w w'):Plays B w' p S:=by
 obtain⟨h0,vA,vL,vC,vN,L,h⟩:=h
 exact⟨h0,vA,vL,vC,vN,L,h.ext hx⟩
theorem Plays.alloc (h:Plays B w p S)(o:Obj):Plays B (w.alloc o) p S:=h.ext ((Ext.refl w).alloc o)
theorem Plays.lt (h:Plays B w p S):p<w.heap.size:=by obtain⟨_,_,_,_,_,_,h⟩:=h;exact h.lt
theorem Plays.held (h:Plays B w p S)(o:Obj):HeldP (w.alloc o) p w.heap.size o:=by
 refine⟨heap_alloc_new w o,fun ho=>?_⟩
 obtain⟨_,_,_,_,_,_,h⟩:=h
 have h1:=(ownR_same (w:=w) (Below.heap_alloc w o p h.lt) _).1 ho
 have:=(h.own h1).2
 omega
end
theorem heap_setCell {w:World}{b i:Nat}{cs:Array Value}{t:TypeId}{fz:Nat × Nat}(h:w.heap[b]?=some (.cells cs t fz))(v:Value) :
  (w.setCell ⟨b,i,none⟩ v).heap[b]?=some (.cells (cs.setIfInBounds i v) t fz):=by
 simp [World.setCell,Array.getElem?_modify,h]
theorem heap_setCell_ne (w:World){b i k:Nat}(v:Value)(h:k≠b):(w.setCell ⟨b,i,none⟩ v).heap[k]?=w.heap[k]?:=Below.heap_setCell _ _ _ _ h
theorem frozen_of_heap {w:World}{b:Nat}{cs:Array Value}{t:TypeId}(h:w.heap[b]?=some (.cells cs t (0,0)))(i:Nat):w.frozen? ⟨b,i,none⟩=false:=by
 simp [World.frozen?,h]
theorem grown_heap {w w1:World}{b:Nat}{o:Obj}{row:Option Nat}(h:w.heap[b]?=some o)(hv:row≠some b)(hg:w.grownBy w1 row):w1.heap[b]?=some o:=by
 have hb:=(Array.getElem?_eq_some_iff.1 h).1
 rw [hg.block b hb (fun e=>hv e.symm),h]
theorem ints_set {w:World}{v:Value}{l:List Int}(h:Ints w v l)(a:Addr)(u:Value)(hv:∀ b,v.ownBlock=some b->b≠a.block):Ints (w.setCell a u) v l:=by
 obtain⟨A,c,rfl,h1,h2,h3⟩:=h
 refine⟨A,c,rfl,h1,h2,fun hl=>?_⟩
 obtain⟨b,off,rfl,hb,hc⟩:=h3 hl
 refine⟨b,off,rfl,by simpa using hb,fun i x hi=>?_⟩
 rw [<- hc i x hi]
 exact World.cell?_of_block (w:=w) (Below.heap_setCell _ _ _ _ (hv b rfl))
section
variable {B p:Nat} {w w1:World} {S:TS} {st:Int} {vA vL vC vN:Value} {L:List Int}
theorem PMem.cNe (h:PMem B w p S st vA vL vC vN L):vL.ownBlock≠some p/\vC.ownBlock≠some p/\vN.ownBlock≠some p :=
 ⟨row_not h.rowL h.heap (by decide),row_not h.rowC h.heap (by decide),row_not h.rowN h.heap (by decide)⟩
theorem keep_field {B p:Nat}{w w1:World}{cs cs':Array Value}{t:TypeId}{ix:List Nat}{row:Option Nat}{u:Value}{i:Nat}(hB:B<=p)(hp:w.heap[p]?=some (.cells cs t (0,0)))(hg:w.grownBy w1 row)(hr:∀ b,row=some b->B<=b/\ownR ix w p b)
  (hne:row≠some p)(_:cs'=cs.setIfInBounds i u)(hu:∀ b,u.ownBlock=some b->ownR ix w p b∨w.heap.size<=b):Keep ix B p w (w1.setCell ⟨p,i,none⟩ u):=by
 have hp1:=grown_heap hp hne hg
 have hp2:=heap_setCell (i:=i) hp1 u
 refine⟨⟨hg.os,hg.tape,hg.output,by have:=hg.size;simpa using this,fun k hk=>?_⟩,fun b hb ho=>⟨?_,fun h'=>?_⟩⟩
 · rw [heap_setCell_ne _ _ (by omega),hg.block k (by have:=(Array.getElem?_eq_some_iff.1 hp).1;omega) (fun e=>by have:=(hr k e.symm).1;omega)]
 · rw [heap_setCell_ne _ _ (fun e=>ho (.inl e)),hg.block b hb (fun e=>ho (hr b e.symm).2)]
 · rcases h' with rfl | ⟨j,hj,v,hv,hvb⟩
   · exact ho (.inl rfl)
   · rw [cell_of_heap hp2] at hv
     by_cases e:i=j
     · subst e
       rw [Array.getElem?_setIfInBounds] at hv
       split at hv
       · split at hv
         · injection hv with hv
           subst hv
           rcases hu b hvb with h1 | h1
           · exact ho h1
           · omega
         · cases hv
       · rename_i e;exact e rfl
     · rw [Array.getElem?_setIfInBounds_ne e] at hv
       exact ho (.inr ⟨j,hj,v,(cell_of_heap hp j).trans hv,hvb⟩)
theorem row_set {B e s n p i:Nat}{v u:Value}{xs:List Value}(h:w1.ownsRow B e s v n xs)(hne:v.ownBlock≠some p):(w1.setCell ⟨p,i,none⟩ u).ownsRow B e s v n xs :=
 ownsRow_setCell_other h (a:=⟨p,i,none⟩) hne u
theorem ownR_at {cs:Array Value}{t:TypeId}{ix:List Nat}{i:Nat}{v:Value}(hp:w.heap[p]?=some (.cells cs t (0,0)))(hi:i∈ix)(hv:cs[i]?=some v){b:Nat}(hb:v.ownBlock=some b):ownR ix w p b :=
 .inr ⟨i,hi,v,(cell_of_heap hp i).trans hv,hb⟩
theorem PMem.state (h:PMem B w p S st vA vL vC vN L)(st':Int):PMem B (w.setCell ⟨p,0,none⟩ (.int .i64 st')) p S st' vA vL vC vN L/\KeepP B p w (w.setCell ⟨p,0,none⟩ (.int .i64 st')):=by
 obtain⟨nL,nC,nN⟩:=h.cNe
 refine⟨{ h with heap:=heap_setCell h.heap _,ans:=ints_set h.ans _ _ ?_,rowL:=row_set h.rowL nL,rowC:=row_set h.rowC nC,rowN:=row_set h.rowN nN },?_⟩
 · intro b hb
   have:=h.ansB b hb
   have:=h.ge
   show b≠p
   omega
 · exact keep_field (row:=none) h.ge h.heap (World.grownBy.refl _ _) (fun b hb=>by cases hb) (by simp) rfl (fun b hb=>by simp [Value.ownBlock] at hb)
end
section
variable {B p:Nat} {w w1:World} {S:TS} {st:Int} {vA vL vC vN:Value} {L:List Int}
theorem LocIs.set {L:List Int}{f:Nat->Int}(h:LocIs L f)(i:Nat)(hi:i<L.length)(v:Int):LocIs (L.set i v) (fun j=>if j=i then v else f j):=by
 intro j
 by_cases e:j=i
 · subst e;simp [List.getD,hi]
 · simp [List.getD,e,Ne.symm e,h j]
theorem TS.upd_in {S:TS}{i:Nat}(h:i<32768)(v:Int):S.upd i v={ S with loc:=fun j=>if j=i then v else S.loc j }:=by
 unfold TS.upd
 rw [if_pos (by omega),Int.toNat_natCast]
theorem PMem.stored {g cap:Nat}(h:PMem B w p S st vA (.slice (some ⟨g,0,none⟩) L.length cap) vC vN L)(i:Nat)(hi:i<L.length)(v:Int) :
  PMem B (w.setCell ⟨g,i,none⟩ (.int .i64 v)) p (S.upd i v) st vA (.slice (some ⟨g,0,none⟩) L.length cap) vC vN (L.set i v)/\KeepP B p w (w.setCell ⟨g,i,none⟩ (.int .i64 v)):=by
 obtain⟨nL,nC,nN⟩:=h.cNe
 have hgp:g≠p:=fun e=>nL (by rw [e];rfl)
 obtain⟨hs1,hs2⟩:=h.rowL.stored i (.int .i64 v)
 have hlt:=h.locN
 have hu:=TS.upd_in (S:=S) (show i<32768 by omega) v
 have hgB:=(h.rowL.lt g rfl).1
 refine⟨{ ge:=h.ge,heap:=?_,ans:=?_,ansB:=h.ansB,rowL:=?_,rowC:=?_,rowN:=?_,loc:=?_,locN:=by simpa using h.locN,accN:=?_,ansN:=?_,ntsN:=?_ },?_⟩
 · rw [heap_setCell_ne _ _ (Ne.symm hgp)];exact h.heap
 · rw [hu]
   exact ints_set h.ans _ _ (fun b hb=>by have:=h.ansB b hb;show b≠g;omega)
 · rw [List.map_set,List.length_set];exact hs1
 · rw [hu]
   exact row_set h.rowC (fun e=>by
    have:=rows_apart h.rowC h.rowL (by decide)
    rw [e] at this
    simp [Value.ownBlock] at this)
 · rw [hu]
   exact row_set h.rowN (fun e=>by
    have:=rows_apart h.rowN h.rowL (by decide)
    rw [e] at this
    simp [Value.ownBlock] at this)
 · rw [hu];exact h.loc.set i hi v
 · rw [hu];exact h.accN
 · rw [hu];exact h.ansN
 · rw [hu];exact h.ntsN
 · have ho:ownR [2,3,4] w p g:=ownR_at h.heap (by simp) (i:=2) rfl rfl
   refine⟨⟨rfl,rfl,rfl,by simp,fun k hk=>heap_setCell_ne _ _ (by omega)⟩,fun b hb hn=>⟨heap_setCell_ne _ _ (fun e=>hn (e▸ho)),fun h'=>hn ?_⟩⟩
   exact (ownR_same (heap_setCell_ne _ _ (Ne.symm hgp)) b).1 h'
end
abbrev KeepR (B p:Nat) (w w':World):Prop:=Keep [3,4,5] B p w w'
section
variable {B p:Nat} {w w' w1:World} {S:TS} {n:Nat} {o:Bool} {vA vL vC vN:Value} {L:List Int}
end
theorem Plays.drew {B p:Nat}{w:World}{S:TS}(h:Plays B w p S):Plays B w.drew p S:=h.ext (Ext.refl w).drew
theorem Keep.drew {ix:List Nat}{B p:Nat}{w w':World}(h:Keep ix B p w w'):Keep ix B p w w'.drew:=⟨⟨h.below.os,h.below.tape,h.below.output,h.below.size,h.below.block⟩,h.rest⟩
theorem Held.drew {ix:List Nat}{p b:Nat}{w:World}{o:Obj}(h:Held ix w p b o):Held ix w.drew p b o:=h
def stopE (p:Nat):Ending:=.panicked [{ v:=.iface 152 (.agg #[.pointer (some ⟨p,0,none⟩)]),recovered:=false }]
def Post {α:Type} (enc:α->Value) (B p:Nat) (w0:World) (r:Option α × TS) (e:Ending) (w':World):Prop :=
 match r.1 with
 | some v=>e=.returned (enc v)/\Plays B w' p r.2/\KeepP B p w0 w'
 | none=>e=stopE p/\Stops B w' p r.2/\KeepP B p w0 w'
def Owes {α:Type} (R:Ending->World->Prop) (enc:α->Value) (B p:Nat) (w0:World) (r:Option α × TS):Prop:=∀ e w',Post enc B p w0 r e w'->R e w'
def encI (x:Int):Value:=.int .i64 x
def encU (_:Unit):Value:=.tuple #[]
def encB (b:Bool):Value:=.bool b
@[go_sem] theorem encI_eq (x:Int):encI x=.int .i64 x:=rfl
@[go_sem] theorem encU_eq (x:Unit):encU x=.tuple #[]:=rfl
@[go_sem] theorem encB_eq (x:Bool):encB x=.bool x:=rfl
section
variable {α β:Type} {B p:Nat} {w0 w:World} {S:TS} {R:Ending->World->Prop}
theorem Owes.done {enc:α->Value}{v:α}{w':World}(h:Owes R enc B p w0 (some v,S))(h1:Plays B w' p S)(h2:KeepP B p w0 w'):R (.returned (enc v)) w':=h _ _ ⟨rfl,h1,h2⟩
theorem Owes.stop {enc:α->Value}{w':World}(h:Owes R enc B p w0 (none,S))(h1:Stops B w' p S)(h2:KeepP B p w0 w'):R (stopE p) w':=h _ _ ⟨rfl,h1,h2⟩
end
theorem within_any (n lo hi:Int)(w:World) :
  Calls Tryz.prog 95 #[.int .i64 n,.int .i64 lo,.int .i64 hi] w fun e w'=>e=.returned (.int .i64 (within n lo hi))/\w=w':=by
 unfold within
 go_enter Tryz.func95,Tryz.ntmps95
 go_wp2
 all_goals go_ret
 all_goals simp [*]
theorem clamp_p (n top:Int)(w:World) :
  Calls Tryz.prog 209 #[.int .i64 n,.int .i64 top] w fun e w'=>e=.returned (.int .i64 (clamp n top))/\w=w':=by
 go_enter Tryz.func209,Tryz.ntmps209
 go_wp2
 all_goals go_ret
 all_goals exact⟨ret_int (by unfold clamp within;omega),rfl⟩
theorem clamp_r (n top:Int)(w:World) :
  Calls Tryz.prog 178 #[.int .i64 n,.int .i64 top] w fun e w'=>e=.returned (.int .i64 (clamp n top))/\w=w':=by
 go_enter Tryz.func178,Tryz.ntmps178
 go_wp2_with (go_at_call 95;refine (within_any _ _ _ _).mono ?_;rintro e w' ⟨rfl,rfl⟩)
 go_ret
 exact⟨rfl,rfl⟩
theorem levels_r (n:Int)(hn:n<=9223372036854775807)(w:World) :
  Calls Tryz.prog 143 #[.int .i64 n] w fun e w'=>e=.returned (.int .i64 (levels n))/\w=w':=by
 go_enter Tryz.func143,Tryz.ntmps143
 go_wp2
 go_loop [3,4] (fun k p=>∃ j q:Nat,k=.int .i64 j/\p=.int .u64 q/\j<=63/\1<=q/\Hid (q=2 ^ j/\levels n=j+levelsFrom n.toNat (64-j) q)) (fun k _=>64-(intOf k).toNat)
 case atStart=>exact⟨0,1,rfl,rfl,by omega,by omega,by unfold Hid;exact⟨rfl,by unfold levels;simp⟩⟩
 case round =>
  obtain⟨j,q,rfl,rfl,hj,hq,H⟩:=hrel
  have hp:q<=2 ^ 63:=by rw [H.out.1];exact Nat.pow_le_pow_right (by omega) hj
  by_cases hpos:0<n
  · by_cases hlt:(q:Int)<n
    · have hj2:j<63:=by
       rcases Nat.lt_or_ge j 63 with h | h
       · exact h
       · have:j=63:=by omega
         have h2:=H.out.1
         rw [this] at h2
         omega
      have hs:=levelsFrom_step n.toNat (64-(j+1)) q (by omega)
      have H2:Hid (2*q=2 ^ (j+1)/\levels n=(j+1:Nat)+levelsFrom n.toNat (64-(j+1)) (2*q)):=by
       refine⟨by rw [H.out.1,Nat.pow_succ];omega,?_⟩
       rw [H.out.2,show 64-j=(64-(j+1))+1 from by omega,hs]
       omega
      clear hs
      go_wp2
      go_round
      case rel=>exact⟨j+1,2*q,by go_num,by go_num,by omega,by omega,H2⟩
      case measure=>simp [intOf];omega
    · have H2:Hid ((levels n:Int)=j):=by
       have:levelsFrom n.toNat (64-j) q=0:=by
        rw [show 64-j=(63-j)+1 from by omega]
        simp only [levelsFrom]
        rw [if_neg (by omega)]
       unfold Hid
       rw [H.out.2,this]
       omega
      go_wp2
      go_ret
      exact⟨ret_int (by rw [H2.out]),rfl⟩
  · have H2:Hid ((levels n:Int)=j):=by
     have hl:=levels_small n (by omega)
     have h2:=H.out.2
     rw [hl] at h2
     unfold Hid
     omega
    go_wp2
    go_ret
    exact⟨ret_int (by rw [H2.out]),rfl⟩
end Go.Proofs.YtponihangpiooaaGreat
namespace Kv
def shortN (L:List Int):Nat->Nat
 | 0=>0
 | n+1=>if L.getD n 0=0 then shortN L n else n+1
def shortL (L:List Int):List Int:=L.take (shortN L L.length)
end Kv
namespace Go.Proofs.YtponihangpiooaaGreat
open Go.RowKit Kv
theorem Ints.take {w:World}{A:Option Addr}{c:Nat}{L:List Int}(h:Ints w (.slice A L.length c) L)(m:Nat)(hm:m<=L.length):Ints w (.slice A m c) (L.take m):=by
 obtain⟨A',c',he,h1,h2,h3⟩:=h
 injection he with e1 e2 e3
 subst e1 e3
 have hl:(L.take m).length=m:=by rw [List.length_take];omega
 refine⟨A,c,by rw [hl],by omega,h2,fun hne=>?_⟩
 obtain⟨b,off,rfl,hb,hc⟩:=h3 (fun e=>hne (by rw [e];simp))
 refine⟨b,off,rfl,hb,fun i x hi=>hc i x ?_⟩
 rw [List.getElem?_take] at hi
 split at hi
 · exact hi
 · cases hi
end Go.Proofs.YtponihangpiooaaGreat
namespace Kv
open Go Go.RowKit
structure Reg where
 kind:Int
 base:Int
 loc:Int
 n:Int
 wr:Int
 rd:Int
 top:Int
structure Reg.ok (r:Reg):Prop where
 kind:r.kind=1∨r.kind=6∨r.kind=7
 base:0<=r.base/\r.base<=32768
 loc:0<=r.loc/\r.loc<=32768
 n:1<=r.n/\r.n<=8
 wr:r.kind=6->0<=r.wr/\r.wr<r.n
end Kv
namespace Go.Proofs.YtponihangpiooaaGreat
open Go.RowKit Kv
def encR (r:Reg):Value:=.agg #[.int .i64 r.kind,.int .i64 r.base,.int .i64 r.loc,.int .i64 r.n,.int .i64 r.wr,.int .i64 r.rd,.int .i64 r.top]
end Go.Proofs.YtponihangpiooaaGreat
namespace Kv
end Kv
namespace Go.Proofs.YtponihangpiooaaGreat
open Go.RowKit Kv
def Blk (w:World) (b:Nat) (o:Obj):Prop:=w.heap[b]?=some o
theorem Blk.lt {w:World}{b:Nat}{o:Obj}(h:Blk w b o):b<w.heap.size:=(Array.getElem?_eq_some_iff.1 h).1
theorem Blk.new (w:World)(o:Obj):Blk (w.alloc o) w.heap.size o:=heap_alloc_new w o
theorem Blk.ext {w w':World}{b:Nat}{o:Obj}(h:Blk w b o)(hx:Ext w w'):Blk w' b o:=(Below.block hx b (Array.getElem?_eq_some_iff.1 h).1).trans h
theorem Blk.alloc {w:World}{b:Nat}{o:Obj}(h:Blk w b o)(o':Obj):Blk (w.alloc o') b o:=h.ext ((Ext.refl w).alloc o')
theorem Blk.drew {w:World}{b:Nat}{o:Obj}(h:Blk w b o):Blk w.drew b o:=h
theorem Blk.cells {w:World}{b:Nat}{cs:Array Value}{t:TypeId}{fz:Nat × Nat}(h:Blk w b (.cells cs t fz))(i:Nat):w.cell? ⟨b,i,none⟩=cs[i]?:=cell_of_heap h i
theorem rn_r (r:Reg)(w:World)(h1:1<=r.n)(h2:r.n<=8):Calls Tryz.prog 205 #[encR r] w fun e w'=>e=.returned (.int .i64 r.n)/\Ext w w':=by
 obtain⟨kind,base,loc,n,wr,rd,top⟩:=r
 simp only at h1 h2
 have hc:clamp n 8=n:=by unfold clamp within;omega
 have hx:=Lib.hid ((Ext.refl w).alloc (.cells #[.int .i64 kind,.int .i64 base,.int .i64 loc,.int .i64 n,.int .i64 wr,.int .i64 rd,.int .i64 top] 59))
 unfold encR
 go_enter Tryz.func205,Tryz.ntmps205
 go_wp2_with fail
 refine (clamp_r _ _ _).mono ?_
 rintro e w' ⟨rfl,rfl⟩
 rw [hc]
 go_wp2_with fail
 go_ret
 exact⟨rfl,hx.out⟩
def Vals (w:World) (A:Option Addr) (vals:List Value):Prop:=vals≠[]->∃ b,A=some ⟨b,0,none⟩/\b<w.heap.size/\∀ i u,vals[i]?=some u->w.cell? ⟨b,i,none⟩=some u
theorem Vals.ext {w w':World}{A:Option Addr}{vals:List Value}(h:Vals w A vals)(hx:Ext w w'):Vals w' A vals:=by
 intro hne
 obtain⟨b,rfl,hb,hc⟩:=h hne
 exact⟨b,rfl,Nat.lt_of_lt_of_le hb hx.size,fun i u hu=>(hx.cell (p:=⟨b,i,none⟩) hb).trans (hc i u hu)⟩
theorem vals_row {w:World}{B e size n:Nat}{v:Value}{xs:List Value}(h:w.ownsRow B e size v n xs):∃ A c,v=.slice A n c/\n<=c/\c<=9223372036854775807/\Vals w A xs:=by
 have h':=h
 obtain⟨hl,h2⟩:=h
 rcases h2 with⟨rfl,h0⟩ | ⟨g,cap,cur,rfl,hg,hh,hn,hm,hs,ht⟩
 · subst h0
   refine⟨none,0,rfl,Nat.le_refl _,by omega,fun hne=>absurd ?_ hne⟩
   simpa using hl
 · refine⟨_,_,rfl,hn,by unfold maxLen at hm;exact hm,fun _=>⟨g,rfl,(Array.getElem?_eq_some_iff.1 hh).1,fun i u hi=>?_⟩⟩
   have hc:=World.ownsRow.cells h' (g:=g) rfl i u hi
   rw [Addr.add_lit,Nat.zero_add] at hc
   exact hc
def AccAt (w:World) (A:Option Addr) (l:List Acc):Prop:=Vals w A (accVals l)
def NtAt (w:World) (A:Option Addr) (l:List Nt):Prop:=Vals w A (ntVals l)
structure OutIs (w:World) (d:Bool) (S:TS) (A:Option Addr) (c:Nat) (A':Option Addr) (c':Nat) (vs:Value) (L:List Int):Prop where
 accs:AccAt w A S.acc
 nts:NtAt w A' S.nts
 locs:Ints w vs (shortL L)
 is:LocIs L S.loc
 len:L.length<=32768
 accc:S.acc.length<=c/\c<=9223372036854775807
 ntsc:S.nts.length<=c'/\c'<=9223372036854775807
 accn:A=none->c=0
def outV (d:Bool) (S:TS) (A:Option Addr) (c:Nat) (A':Option Addr) (c':Nat) (vs:Value):Value:=.agg #[.bool d,.slice A S.acc.length c,.slice A' S.nts.length c',vs]
theorem OutIs.ext {w w':World}{d:Bool}{S:TS}{A:Option Addr}{c:Nat}{A':Option Addr}{c':Nat}{vs:Value}{L:List Int}(h:OutIs w d S A c A' c' vs L)(hx:Ext w w'):OutIs w' d S A c A' c' vs L :=
 { h with accs:=Vals.ext h.accs hx,nts:=Vals.ext h.nts hx,locs:=h.locs.ext hx }
def Outs (w:World) (v:Value) (d:Bool) (S:TS):Prop:=∃ A c A' c' vs L,v=outV d S A c A' c' vs/\OutIs w d S A c A' c' vs L
theorem Outs.ext {w w':World}{v:Value}{d:Bool}{S:TS}(h:Outs w v d S)(hx:Ext w w'):Outs w' v d S:=by
 obtain⟨A,c,A',c',vs,L,rfl,h⟩:=h
 exact⟨A,c,A',c',vs,L,rfl,h.ext hx⟩
end Go.Proofs.YtponihangpiooaaGreat
namespace Kv
inductive Prog.Asks {α:Type}:Prog α->Prop
 | read (c:Int) (k:Int->Prog α):Asks (.read c k)
 | write (c v:Int) (k:Unit->Prog α):Asks (.write c v k)
 | get (i:Int) {k:Int->Prog α}:(∀ x,Asks (k x))->Asks (.get i k)
 | set (i v:Int) {k:Unit->Prog α}:Asks (k ())->Asks (.set i v k)
 | note (m:Int) {k:Unit->Prog α}:Asks (k ())->Asks (.note m k)
theorem Prog.Asks.bind {α β:Type}{p:Prog α}(h:p.Asks)(f:α->Prog β):(p.bind f).Asks:=by
 induction h with
 | read c k=>exact .read _ _
 | write c v k=>exact .write _ _ _
 | get i _ ih=>exact .get i fun x=>ih x
 | set i v _ ih=>exact .set i v ih
 | note m _ ih=>exact .note m ih
theorem Prog.Asks.then {α β:Type}{f:α->Prog β}(h:∀ a,(f a).Asks):∀ p:Prog α,(p.bind f).Asks
 | .ret a=>h a
 | .read _ _=>.read _ _
 | .write _ _ _=>.write _ _ _
 | .get i k=>.get i fun x=>Asks.then h (k x)
 | .set i v k=>.set i v (Asks.then h (k ()))
 | .note m k=>.note m (Asks.then h (k ()))
theorem Prog.run_len {α:Type}(p:Prog α)(S:TS):S.acc.length<=(p.run S).2.acc.length:=by
 obtain⟨l,h⟩:=Prog.run_acc p S
 rw [h];simp
theorem Prog.Asks.run {α:Type}{p:Prog α}(h:p.Asks):∀ S:TS,S.acc.length<(p.run S).2.acc.length:=by
 induction h with
 | read c k =>
   intro S
   simp only [Prog.run]
   cases S.next with
   | none=>simp [TS.put]
   | some v=>have:=Prog.run_len (k v) (S.put ⟨1,c,0⟩);simp [TS.put] at this ⊢;omega
 | write c v k =>
   intro S
   simp only [Prog.run]
   cases S.next with
   | none=>simp [TS.put]
   | some _=>have:=Prog.run_len (k ()) (S.put ⟨2,c,v⟩);simp [TS.put] at this ⊢;omega
 | get i _ ih=>intro S;exact ih _ _
 | set i v _ ih=>intro S;have:=ih (S.upd i v);rw [TS.upd_acc] at this;exact this
 | note m _ ih=>intro S;exact ih (S.noted m)
def TS.left (S:TS):Nat:=S.ans.length-S.acc.length
theorem Prog.Asks.left {α:Type}{p:Prog α}(h:p.Asks){S S1:TS}{a:α}(hr:p.run S=(some a,S1))(hl:S1.acc.length<=S1.ans.length):S1.left<S.left:=by
 have h1:=Prog.run_ans p S
 have h2:=h.run S
 rw [hr] at h1 h2
 simp only at h1 h2
 unfold TS.left
 rw [<- h1];omega
def Reg.told (r:Reg) (me:Int):Prop:=r.kind=1∨(r.kind=6/\me≠r.wr)∨(r.kind=7/\2<=r.n)
structure Want where
 wr:Int
 top:Int
def topM (t:Int):Int:=if clamp t 255=0 then 1 else clamp t 255
def kindM (mode w:Int):Int:=if mode=2 then (if 0<=w then 6 else 7) else 1
def regOf (n mode b l:Int) (q:Want):Reg:=⟨kindM mode q.wr,b,l,n,q.wr,-1,topM q.top⟩
def cellsM (r:Reg):Int:=if r.kind=1 then 1 else if r.kind=6 then 16*(r.n-1)*(r.n-1) else 16*(r.n-1)*(r.n-1)*r.n
def localsM (r:Reg):Int:=if r.kind=1 then 0 else if r.kind=6 then 2+18*(r.n-1)*(r.n-1) else r.n*(2+18*(r.n-1)*(r.n-1))
def fineM (r:Reg):Bool:=decide (r.base<=32768)&&decide (r.loc<=32768)&&decide (r.base+cellsM r<=32768)&&decide (r.loc+localsM r<=32768)
def layFrom (n mode:Int):List Want->Int->Int->Option (List Reg)
 | [],_,_=>some []
 | q :: l,b,c=>if fineM (regOf n mode b c q) then (layFrom n mode l (b+cellsM (regOf n mode b c q)) (c+localsM (regOf n mode b c q))).map (regOf n mode b c q :: ·) else none
def argsM (l:List Want) (n mode b c:Int):Bool:=decide (1<=mode/\mode<=2/\1<=n/\n<=8/\0<=b/\0<=c)&&l.all fun q=>decide (-1<=q.wr/\q.wr<n)
def layM (l:List Want) (n mode b c:Int):Option (List Reg):=if argsM l n mode b c then layFrom n mode l b c else none
theorem topM_bd (t:Int):1<=topM t/\topM t<=255:=by
 unfold topM clamp within
 split <;> omega
theorem cells_nat (r:Reg)(h:1<=r.n/\r.n<=8):0<=cellsM r/\cellsM r<=6272/\0<=localsM r/\localsM r<=7072:=by
 obtain⟨h1,h2⟩:=h
 have:r.n=1∨r.n=2∨r.n=3∨r.n=4∨r.n=5∨r.n=6∨r.n=7∨r.n=8:=by omega
 unfold cellsM localsM
 rcases this with h | h | h | h | h | h | h | h <;> rw [h] <;> (split <;> (try split) <;> omega)
structure Laid (n mode:Int) (q:Want) (r:Reg):Prop where
 is:∃ b c,r=regOf n mode b c q/\0<=b/\0<=c
 fine:fineM r=true
theorem layFrom_laid (n mode:Int)(hn:1<=n/\n<=8):∀ (l:List Want) (b c:Int) (rs:List Reg),0<=b->0<=c->layFrom n mode l b c=some rs ->
  rs.length=l.length/\∀ (i:Nat) q,l[i]?=some q->∃ r,rs[i]?=some r/\Laid n mode q r
 | [],b,c,rs,_,_,h=>by
   obtain rfl:[]=rs:=by simpa [layFrom] using h
   exact⟨rfl,fun i q hq=>by simp at hq⟩
 | q :: l,b,c,rs,hb,hc,h=>by
   unfold layFrom at h
   split at h
   · rename_i hf
     have hz:=cells_nat (regOf n mode b c q) hn
     cases hr:layFrom n mode l (b+cellsM (regOf n mode b c q)) (c+localsM (regOf n mode b c q)) with
     | none=>rw [hr] at h;cases h
     | some rs' =>
       rw [hr] at h
       obtain rfl:regOf n mode b c q :: rs'=rs:=by simpa using h
       obtain⟨e,g⟩:=layFrom_laid n mode hn l _ _ rs' (by omega) (by omega) hr
       refine⟨by simp [e],fun i q' hq=>?_⟩
       cases i with
       | zero =>
         obtain rfl:q=q':=by simpa using hq
         exact⟨_,rfl,⟨b,c,rfl,hb,hc⟩,hf⟩
       | succ i=>exact g i q' (by simpa using hq)
   · cases h
theorem layM_args {l:List Want}{n mode b c:Int}{rs:List Reg}(h:layM l n mode b c=some rs):(1<=mode/\mode<=2/\1<=n/\n<=8/\0<=b/\0<=c)/\(∀ q∈l,-1<=q.wr/\q.wr<n)/\layFrom n mode l b c=some rs:=by
 unfold layM at h
 split at h
 · rename_i ha
   unfold argsM at ha
   rw [Bool.and_eq_true,decide_eq_true_eq,List.all_eq_true] at ha
   exact⟨ha.1,fun q hq=>by simpa using ha.2 q hq,h⟩
 · cases h
theorem layM_len {l:List Want}{n mode b c:Int}{rs:List Reg}(h:layM l n mode b c=some rs):rs.length=l.length:=by
 obtain⟨⟨_,_,hn1,hn2,hb,hc⟩,_,hf⟩:=layM_args h
 exact (layFrom_laid n mode ⟨hn1,hn2⟩ l b c rs hb hc hf).1
theorem layM_at {l:List Want}{n mode b c:Int}{rs:List Reg}(h:layM l n mode b c=some rs){i:Nat}{q:Want}(hq:l[i]?=some q):∃ r,rs[i]?=some r/\Laid n mode q r:=by
 obtain⟨⟨_,_,hn1,hn2,hb,hc⟩,_,hf⟩:=layM_args h
 exact (layFrom_laid n mode ⟨hn1,hn2⟩ l b c rs hb hc hf).2 i q hq
theorem Laid.ok {n mode:Int}{q:Want}{r:Reg}(h:Laid n mode q r)(hn:1<=n/\n<=8)(hw:-1<=q.wr/\q.wr<n):r.ok/\r.n=n/\r.wr=q.wr:=by
 obtain⟨⟨b,c,rfl,hb,hc⟩,hf⟩:=h
 have hf2:b<=32768/\c<=32768:=by
  unfold fineM regOf at hf
  simp only [Bool.and_eq_true,decide_eq_true_eq] at hf
  omega
 refine⟨⟨?_,⟨hb,hf2.1⟩,⟨hc,hf2.2⟩,hn,fun hk=>?_⟩,rfl,rfl⟩
 · show kindM mode q.wr=1∨kindM mode q.wr=6∨kindM mode q.wr=7
   unfold kindM
   split
   · split <;> omega
   · omega
 · show 0<=q.wr/\q.wr<n
   have hk:kindM mode q.wr=6:=hk
   unfold kindM at hk
   split at hk
   · split at hk <;> omega
   · omega
end Kv
namespace Go.Proofs.YtponihangpiooaaGreat
theorem put_pack:(∀ (a:Act) (d:Nat) (v:Value),a.put (some d) v={ a with tmps:=a.tmps.setIfInBounds d v })/\(∀ (a:Act) (v:Value),a.put none v=a)/\(∀ (l:List Value) (i:Nat) (v:Value),l.toArray.setIfInBounds i v=(l.set i v).toArray) /\
  (∀ (l:List Value) (x v:Value),(x :: l).set 0 v=v :: l)/\(∀ (l:List Value) (i:Nat) (x v:Value),(x :: l).set (i+1) v=x :: l.set i v) :=
 ⟨fun _ _ _=>rfl,fun _ _=>rfl,fun _ _ _=>List.setIfInBounds_toArray ..,fun _ _ _=>rfl,fun _ _ _ _=>rfl⟩
end Go.Proofs.YtponihangpiooaaGreat
namespace Go.Proofs.YtponihangpiooaaGreat
open Go.RowKit Kv
theorem threads_p (n:Int)(w:World)(h1:1<=n)(h2:n<=8):Calls Tryz.prog 294 #[.int .i64 n] w fun e w'=>e=.returned (.int .i64 n)/\w=w':=by
 go_enter Tryz.func294,Tryz.ntmps294
 go_wp2_with fail
 go_ret
 exact⟨ret_int (by show _=_;omega),rfl⟩
structure KeepX (X:Nat->Prop) (ix:List Nat) (B p:Nat) (w w':World):Prop where
 below:Below B w w'
 rest:∀ b,b<w.heap.size->¬ ownR ix w p b->¬ X b->w'.heap[b]?=w.heap[b]?/\¬ ownR ix w' p b
section
variable {X:Nat->Prop} {ix:List Nat} {B p:Nat} {w w' w'':World}
theorem Keep.x (h:Keep ix B p w w')(X:Nat->Prop):KeepX X ix B p w w':=⟨h.below,fun b h1 h2 _=>h.rest b h1 h2⟩
theorem KeepX.trans (h:KeepX X ix B p w w')(k:KeepX X ix B p w' w''):KeepX X ix B p w w'' :=
 ⟨h.below.trans k.below,fun b hb ho hx=>by
  obtain⟨h1,h2⟩:=h.rest b hb ho hx
  obtain⟨h3,h4⟩:=k.rest b (Nat.lt_of_lt_of_le hb h.below.size) h2 hx
  exact⟨h3.trans h1,h4⟩⟩
theorem KeepX.held {b:Nat}{o:Obj}(h:Held ix w p b o)(k:KeepX X ix B p w w')(hx:¬ X b):Held ix w' p b o:=by
 obtain⟨h1,h2⟩:=k.rest b h.lt h.2 hx
 exact⟨h1.trans h.1,h2⟩
theorem KeepX.put {l:Nat}{o:Obj}(h:KeepX X ix B p w w')(hl:w.heap.size<=l)(hn:¬ ownR ix w' p l)(hB:B<=w.heap.size):KeepX X ix B p w (w'.putObj l o):=by
 have hp:(w'.putObj l o).heap[p]?=w'.heap[p]?:=World.putObj_heap_other (fun e=>hn (.inl e.symm))
 refine⟨⟨h.below.os,h.below.tape,h.below.output,by have:=h.below.size;simpa using this,fun k hk=>(World.putObj_heap_other (by omega)).trans (h.below.block k hk)⟩,fun b hb ho hx=>?_⟩
 obtain⟨h1,h2⟩:=h.rest b hb ho hx
 exact⟨(World.putObj_heap_other (by omega)).trans h1,fun h'=>h2 ((ownR_same hp b).1 h')⟩
theorem Keep.put {l:Nat}{o:Obj}(h:Keep ix B p w w')(hl:w.heap.size<=l)(hn:¬ ownR ix w' p l)(hB:B<=w.heap.size):Keep ix B p w (w'.putObj l o):=by
 have hp:(w'.putObj l o).heap[p]?=w'.heap[p]?:=World.putObj_heap_other (fun e=>hn (.inl e.symm))
 refine⟨⟨h.below.os,h.below.tape,h.below.output,by have:=h.below.size;simpa using this,fun k hk=>(World.putObj_heap_other (by omega)).trans (h.below.block k hk)⟩,fun b hb ho=>?_⟩
 obtain⟨h1,h2⟩:=h.rest b hb ho
 exact⟨(World.putObj_heap_other (by omega)).trans h1,fun h'=>h2 ((ownR_same hp b).1 h')⟩
theorem Held.put {b l:Nat}{o o':Obj}(h:Held ix w p b o)(hb:b≠l)(hn:¬ ownR ix w p l):Held ix (w.putObj l o') p b o :=
 ⟨(World.putObj_heap_other hb).trans h.1,fun h'=>h.2 ((ownR_same (World.putObj_heap_other (fun e=>hn (.inl e.symm))) b).1 h')⟩
end
theorem row_put {w:World}{B e s n l:Nat}{v:Value}{xs:List Value}{o:Obj}(h:w.ownsRow B e s v n xs)(hl:v.ownBlock≠some l):(w.putObj l o).ownsRow B e s v n xs:=by
 refine⟨h.1,?_⟩
 rcases h.2 with h2 | ⟨g,cap,cur,rfl,hb,hg,r⟩
 · exact .inl h2
 · exact .inr ⟨g,cap,cur,rfl,hb,(World.putObj_heap_other (fun e=>hl (by rw [<- e];rfl))).trans hg,r⟩
section
variable {B p:Nat} {w:World} {S:TS}
theorem PMem.put {st:Int}{vA vL vC vN:Value}{L:List Int}{l:Nat}(h:PMem B w p S st vA vL vC vN L)(o:Obj)(hn:¬ ownR [2,3,4] w p l)(hB:B<=l):PMem B (w.putObj l o) p S st vA vL vC vN L :=
 { h with
  heap:=(World.putObj_heap_other (fun e=>hn (.inl e.symm))).trans h.heap
  ans:=by
   obtain⟨A,c,rfl,h1,h2,h3⟩:=h.ans
   refine⟨A,c,rfl,h1,h2,fun hl=>?_⟩
   obtain⟨b,off,rfl,hb,hc⟩:=h3 hl
   have hbB:=h.ansB b rfl
   refine⟨b,off,rfl,by simpa using hb,fun i x hi=>?_⟩
   rw [<- hc i x hi]
   exact World.cell?_of_block (w:=w) (World.putObj_heap_other (show b≠l by omega))
  rowL:=row_put h.rowL (fun e=>hn (ownR_at h.heap (by simp) (i:=2) rfl e))
  rowC:=row_put h.rowC (fun e=>hn (ownR_at h.heap (by simp) (i:=3) rfl e))
  rowN:=row_put h.rowN (fun e=>hn (ownR_at h.heap (by simp) (i:=4) rfl e)) }
theorem Plays.put {l:Nat}(h:Plays B w p S)(o:Obj)(hn:¬ ownR [2,3,4] w p l)(hB:B<=l):Plays B (w.putObj l o) p S:=by
 obtain⟨h0,vA,vL,vC,vN,L,h⟩:=h
 exact⟨h0,vA,vL,vC,vN,L,h.put o hn hB⟩
theorem Stops.put {l:Nat}(h:Stops B w p S)(o:Obj)(hn:¬ ownR [2,3,4] w p l)(hB:B<=l):Stops B (w.putObj l o) p S:=by
 obtain⟨vA,vL,vC,vN,L,h⟩:=h
 exact⟨vA,vL,vC,vN,L,h.put o hn hB⟩
end
attribute [local go_sem] Oper.semAt_some
structure OneB (l:Nat) (w w':World):Prop where
 os:w'.os=w.os
 tape:w'.tape=w.tape
 output:w'.output=w.output
 size:w'.heap.size=w.heap.size
 block:∀ k,k≠l->w'.heap[k]?=w.heap[k]?
theorem OneB.setCell (w:World)(b i:Nat)(v:Value):OneB b w (w.setCell ⟨b,i,none⟩ v):=⟨rfl,rfl,rfl,by simp,fun k hk=>heap_setCell_ne w v hk⟩
section
variable {X:Nat->Prop} {ix:List Nat} {B p l:Nat} {w w' w'':World} {S:TS}
theorem Keep.one (h:Keep ix B p w w')(o:OneB l w' w'')(hl:w.heap.size<=l)(hn:¬ ownR ix w' p l)(hB:B<=w.heap.size):Keep ix B p w w'':=by
 have hp:w''.heap[p]?=w'.heap[p]?:=o.block p (fun e=>hn (.inl e.symm))
 refine⟨⟨o.os.trans h.below.os,o.tape.trans h.below.tape,o.output.trans h.below.output,by rw [o.size];exact h.below.size,fun k hk=>(o.block k (by omega)).trans (h.below.block k hk)⟩,fun b hb ho=>?_⟩
 obtain⟨h1,h2⟩:=h.rest b hb ho
 exact⟨(o.block b (by omega)).trans h1,fun h'=>h2 ((ownR_same hp b).1 h')⟩
theorem Held.one {b:Nat}{ob:Obj}(h:Held ix w p b ob)(o:OneB l w w')(hb:b≠l)(hn:¬ ownR ix w p l):Held ix w' p b ob :=
 ⟨(o.block b hb).trans h.1,fun h'=>h.2 ((ownR_same (o.block p (fun e=>hn (.inl e.symm))) b).1 h')⟩
theorem PMem.one {st:Int}{vA vL vC vN:Value}{L:List Int}(h:PMem B w p S st vA vL vC vN L)(o:OneB l w w')(hn:¬ ownR [2,3,4] w p l)(hB:B<=l):PMem B w' p S st vA vL vC vN L :=
 { h with
  heap:=(o.block p (fun e=>hn (.inl e.symm))).trans h.heap
  ans:=by
   obtain⟨A,c,rfl,h1,h2,h3⟩:=h.ans
   refine⟨A,c,rfl,h1,h2,fun hl=>?_⟩
   obtain⟨b,off,rfl,hb,hc⟩:=h3 hl
   have hbB:=h.ansB b rfl
   refine⟨b,off,rfl,by rw [o.size];exact hb,fun i x hi=>?_⟩
   rw [<- hc i x hi]
   exact World.cell?_of_block (w:=w) (o.block b (show b≠l by omega))
  rowL:=h.rowL.kept (row:=some l) ⟨o.os,o.tape,o.output,by rw [o.size];exact Nat.le_refl _,fun k _ hk=>o.block k (fun e=>hk (by rw [e]))⟩ (.inr (fun e=>hn (ownR_at h.heap (by simp) (i:=2) rfl e)))
  rowC:=h.rowC.kept (row:=some l) ⟨o.os,o.tape,o.output,by rw [o.size];exact Nat.le_refl _,fun k _ hk=>o.block k (fun e=>hk (by rw [e]))⟩ (.inr (fun e=>hn (ownR_at h.heap (by simp) (i:=3) rfl e)))
  rowN:=h.rowN.kept (row:=some l) ⟨o.os,o.tape,o.output,by rw [o.size];exact Nat.le_refl _,fun k _ hk=>o.block k (fun e=>hk (by rw [e]))⟩ (.inr (fun e=>hn (ownR_at h.heap (by simp) (i:=4) rfl e))) }
theorem Plays.one (h:Plays B w p S)(o:OneB l w w')(hn:¬ ownR [2,3,4] w p l)(hB:B<=l):Plays B w' p S:=by
 obtain⟨h0,vA,vL,vC,vN,L,h⟩:=h
 exact⟨h0,vA,vL,vC,vN,L,h.one o hn hB⟩
end
end Go.Proofs.YtponihangpiooaaGreat
namespace Go.Proofs.YtponihangpiooaaGreat
open Go.RowKit Kv
theorem mthreads_p (n:Int)(w:World)(h1:1<=n)(h2:n<=8):Calls Tryz.prog 295 #[.int .i64 n] w fun e w'=>e=.returned (.int .i64 n)/\w=w':=by
 go_enter Tryz.func295,Tryz.ntmps295
 go_wp2_with fail
 go_ret
 exact⟨ret_int (by show _=_;omega),rfl⟩
theorem trlocals_p (w:World):Calls Tryz.prog 228 #[] w fun e w'=>e=.returned (.int .i64 4)/\w=w':=by
 go_enter Tryz.func228,Tryz.ntmps228
 go_wp2_with fail
 go_ret
 exact⟨rfl,rfl⟩
theorem slocals_p (w:World):Calls Tryz.prog 229 #[] w fun e w'=>e=.returned (.int .i64 18)/\w=w':=by
 go_enter Tryz.func229,Tryz.ntmps229
 go_wp2_with fail
 refine (trlocals_p _).mono ?_
 rintro e w' ⟨rfl,rfl⟩
 go_wp2_with fail
 go_ret
 exact⟨rfl,rfl⟩
theorem sq_bd (n:Int)(h1:1<=n)(h2:n<=8):0<=18*(n-1)/\18*(n-1)<=126/\0<=18*(n-1)*(n-1)/\18*(n-1)*(n-1)<=882:=by
 have h4:0<=18*(n-1)*(n-1):=Int.mul_nonneg (by omega) (by omega)
 have h5:18*(n-1)*(n-1)<=126*7:=Int.mul_le_mul (by omega) (by omega) (by omega) (by omega)
 omega
theorem tlocals_p (n:Int)(w:World)(h1:1<=n)(h2:n<=8):Calls Tryz.prog 230 #[.int .i64 n] w fun e w'=>e=.returned (.int .i64 (2+18*(n-1)*(n-1)))/\w=w':=by
 have hs:=sq_bd n h1 h2
 go_enter Tryz.func230,Tryz.ntmps230
 go_wp2_with fail
 refine (threads_p n _ h1 h2).mono ?_
 rintro e w' ⟨rfl,rfl⟩
 go_wp2_with fail
 refine (slocals_p _).mono ?_
 rintro e w' ⟨rfl,rfl⟩
 go_wp2_with fail
 go_ret
 exact⟨rfl,rfl⟩
def RowX (n0 p:Nat) (w:World) (v:Value) (l:List Int):Prop:=w.ownsRow n0 3 1 v l.length (l.map (Value.int .i64))/\∀ g,v.ownBlock=some g->¬ ownR [3,4,5] w p g
section
variable {n0 B p:Nat} {w w' w1 w0:World} {o:Bool} {S:TS} {v:Value} {l:List Int}
theorem RowX.nil (n0 p:Nat)(w:World):RowX n0 p w (.slice none 0 0) []:=⟨World.ownsRow_nil _ _ _ _,fun g h=>by simp [Value.ownBlock] at h⟩
theorem RowX.keep (h:RowX n0 p w v l)(k:KeepR B p w w'):RowX n0 p w' v l:=by
 obtain⟨⟨h1,h2⟩,h3⟩:=h
 rcases h2 with h2 | ⟨g,cap,cur,rfl,hg,hh,r1,r2,r3,r4⟩
 · exact⟨⟨h1,.inl h2⟩,fun g e=>by rw [h2.1] at e;simp [Value.ownBlock] at e⟩
 · obtain⟨k1,k2⟩:=k.rest g (Array.getElem?_eq_some_iff.1 hh).1 (h3 g rfl)
   exact⟨⟨h1,.inr ⟨g,cap,cur,rfl,hg,k1.trans hh,r1,r2,r3,r4⟩⟩,fun b e=>by simp only [Value.ownBlock,Option.some.injEq] at e;subst e;exact k2⟩
end
def encP (q:Int × Int):Value:=.agg #[.int .i64 q.1,.int .i64 q.2]
@[go_sem] theorem encP_eq (q:Int × Int):encP q=.agg #[.int .i64 q.1,.int .i64 q.2]:=rfl
theorem Held.set2 {ix:List Nat}{w:World}{p b:Nat}{u v:Value}{t:TypeId}(h:Held ix w p b (.cells #[u,v] t (0,0)))(u' v':Value):Held ix ((w.setCell ⟨b,0,none⟩ u').setCell ⟨b,1,none⟩ v') p b (.cells #[u',v'] t (0,0)):=by
 have h1:Held ix (w.setCell ⟨b,0,none⟩ u') p b (.cells #[u',v] t (0,0)):=⟨heap_setCell h.1 u',fun h'=>h.2 ((ownR_same ((OneB.setCell w b 0 u').block p (fun e=>h.2 (.inl e.symm))) b).1 h')⟩
 exact⟨heap_setCell h1.1 v',fun h'=>h1.2 ((ownR_same ((OneB.setCell _ b 1 v').block p (fun e=>h1.2 (.inl e.symm))) b).1 h')⟩
theorem OneB.set2 (w:World)(b:Nat)(u v:Value):OneB b w ((w.setCell ⟨b,0,none⟩ u).setCell ⟨b,1,none⟩ v) :=
 ⟨rfl,rfl,rfl,by simp,fun k hk=>(heap_setCell_ne _ v hk).trans (heap_setCell_ne w u hk)⟩
end Go.Proofs.YtponihangpiooaaGreat
namespace Kv
open Go Go.RowKit
end Kv
namespace Go.Proofs.YtponihangpiooaaGreat
open Go.RowKit Kv
def regVals (r:Reg):List Value:=[.int .i64 r.kind,.int .i64 r.base,.int .i64 r.loc,.int .i64 r.n,.int .i64 r.wr,.int .i64 r.rd,.int .i64 r.top]
structure RegsAt (ix:List Nat) (w:World) (p b:Nat) (l:List Reg):Prop where
 lt:b<w.heap.size
 own:¬ ownR ix w p b
 cells:∀ j u,(l.flatMap regVals)[j]?=some u->w.cell? ⟨b,j,none⟩=some u
theorem RegsAt.keep {ix:List Nat}{B p b:Nat}{w w':World}{l:List Reg}(h:RegsAt ix w p b l)(k:Keep ix B p w w'):RegsAt ix w' p b l:=by
 obtain⟨h1,h2⟩:=k.rest b h.lt h.own
 exact⟨Nat.lt_of_lt_of_le h.lt k.size,h2,fun j u hu=>(World.cell?_of_block (w:=w) (a:=⟨b,j,none⟩) h1).trans (h.cells j u hu)⟩
theorem RegsAt.two {ix:List Nat}{p b:Nat}{w:World}{x y:Reg}(h:RegsAt ix w p b [x,y]) :
  (w.cell? ⟨b,0,none⟩=some (.int .i64 x.kind)/\w.cell? ⟨b,1,none⟩=some (.int .i64 x.base)/\w.cell? ⟨b,2,none⟩=some (.int .i64 x.loc)/\w.cell? ⟨b,3,none⟩=some (.int .i64 x.n)/\w.cell? ⟨b,4,none⟩=some (.int .i64 x.wr)/\w.cell? ⟨b,5,none⟩=some (.int .i64 x.rd)/\w.cell? ⟨b,6,none⟩=some (.int .i64 x.top)) /\
    (w.cell? ⟨b,7,none⟩=some (.int .i64 y.kind)/\w.cell? ⟨b,8,none⟩=some (.int .i64 y.base)/\w.cell? ⟨b,9,none⟩=some (.int .i64 y.loc)/\w.cell? ⟨b,10,none⟩=some (.int .i64 y.n)/\w.cell? ⟨b,11,none⟩=some (.int .i64 y.wr)/\w.cell? ⟨b,12,none⟩=some (.int .i64 y.rd)/\w.cell? ⟨b,13,none⟩=some (.int .i64 y.top)) :=
 ⟨⟨h.cells 0 _ rfl,h.cells 1 _ rfl,h.cells 2 _ rfl,h.cells 3 _ rfl,h.cells 4 _ rfl,h.cells 5 _ rfl,h.cells 6 _ rfl⟩,⟨h.cells 7 _ rfl,h.cells 8 _ rfl,h.cells 9 _ rfl,h.cells 10 _ rfl,h.cells 11 _ rfl,h.cells 12 _ rfl,h.cells 13 _ rfl⟩⟩
theorem eqIn_acc (a b c a' b' c':Int)(w:World):(Op.equalIn 10000 87 (.agg #[.int .i64 a,.int .i64 b,.int .i64 c]) (.agg #[.int .i64 a',.int .i64 b',.int .i64 c'])).run Tryz.prog w=.ok (decide (a=a'/\b=b'/\c=c')) w:=by
 rw [run_equalIn_struct w 9999 87 _ _ (by kernel_rfl) (by kernel_rfl)]
 have hu:Tryz.prog.underlying 3=some (.int .i64):=Tryz.underlying3
 simp only [Program.fieldsOf,Tryz.underlying87,Op.eqFields]
 simp [go_sem,run_equalIn_int,hu]
 by_cases h0:a=a' <;> by_cases h1:b=b' <;> by_cases h2:c=c' <;> simp [h0,h1,h2]
@[go_sem] theorem eql_acc (a b c a' b' c':Int) (w:World):(binOp .eql 87 (.agg #[.int .i64 a,.int .i64 b,.int .i64 c]) (.agg #[.int .i64 a',.int .i64 b',.int .i64 c'])).run Tryz.prog w=.ok (.bool (decide (a=a'/\b=b'/\c=c'))) w:=by
 rw [run_eql_struct,eqIn_acc];rfl
@[go_sem] theorem neq_acc (a b c a' b' c':Int) (w:World):(binOp .neq 87 (.agg #[.int .i64 a,.int .i64 b,.int .i64 c]) (.agg #[.int .i64 a',.int .i64 b',.int .i64 c'])).run Tryz.prog w=.ok (.bool (!decide (a=a'/\b=b'/\c=c'))) w:=by
 rw [run_neq_struct,eqIn_acc];rfl
theorem eqIn_nt (a b a' b':Int)(w:World):(Op.equalIn 10000 222 (.agg #[.int .i64 a,.int .i64 b]) (.agg #[.int .i64 a',.int .i64 b'])).run Tryz.prog w=.ok (decide (a=a'/\b=b')) w:=by
 rw [run_equalIn_struct w 9999 222 _ _ (by kernel_rfl) (by kernel_rfl)]
 have hu:Tryz.prog.underlying 3=some (.int .i64):=Tryz.underlying3
 simp only [Program.fieldsOf,Tryz.underlying222,Op.eqFields]
 simp [go_sem,run_equalIn_int,hu]
 by_cases h0:a=a' <;> by_cases h1:b=b' <;> simp [h0,h1]
@[go_sem] theorem eql_nt (a b a' b':Int) (w:World):(binOp .eql 222 (.agg #[.int .i64 a,.int .i64 b]) (.agg #[.int .i64 a',.int .i64 b'])).run Tryz.prog w=.ok (.bool (decide (a=a'/\b=b'))) w:=by
 rw [run_eql_struct,eqIn_nt];rfl
@[go_sem] theorem neq_nt (a b a' b':Int) (w:World):(binOp .neq 222 (.agg #[.int .i64 a,.int .i64 b]) (.agg #[.int .i64 a',.int .i64 b'])).run Tryz.prog w=.ok (.bool (!decide (a=a'/\b=b'))) w:=by
 rw [run_neq_struct,eqIn_nt];rfl
theorem eqIn_want (a b a' b':Int)(w:World):(Op.equalIn 10000 228 (.agg #[.int .i64 a,.int .i64 b]) (.agg #[.int .i64 a',.int .i64 b'])).run Tryz.prog w=.ok (decide (a=a'/\b=b')) w:=by
 rw [run_equalIn_struct w 9999 228 _ _ (by kernel_rfl) (by kernel_rfl)]
 have hu:Tryz.prog.underlying 3=some (.int .i64):=Tryz.underlying3
 simp only [Program.fieldsOf,Tryz.underlying228,Op.eqFields]
 simp [go_sem,run_equalIn_int,hu]
 by_cases h0:a=a' <;> by_cases h1:b=b' <;> simp [h0,h1]
@[go_sem] theorem eql_want (a b a' b':Int) (w:World):(binOp .eql 228 (.agg #[.int .i64 a,.int .i64 b]) (.agg #[.int .i64 a',.int .i64 b'])).run Tryz.prog w=.ok (.bool (decide (a=a'/\b=b'))) w:=by
 rw [run_eql_struct,eqIn_want];rfl
@[go_sem] theorem neq_want (a b a' b':Int) (w:World):(binOp .neq 228 (.agg #[.int .i64 a,.int .i64 b]) (.agg #[.int .i64 a',.int .i64 b'])).run Tryz.prog w=.ok (.bool (!decide (a=a'/\b=b'))) w:=by
 rw [run_neq_struct,eqIn_want];rfl
theorem flat_at {α:Type}(f:α->List Value)(k:Nat)(hf:∀ a,(f a).length=k):∀ (l:List α) (i j:Nat) (a:α),l[i]?=some a->j<k->(l.flatMap f)[k*i+j]?=(f a)[j]?
 | [],i,j,a,h,_=>by simp at h
 | x :: l,0,j,a,h,hj=>by
   obtain rfl:x=a:=by simpa using h
   rw [List.flatMap_cons,Nat.mul_zero,Nat.zero_add,List.getElem?_append_left (by rw [hf];exact hj)]
 | x :: l,i+1,j,a,h,hj=>by
   have:=flat_at f k hf l i j a (by simpa using h) hj
   rw [List.flatMap_cons,List.getElem?_append_right (by rw [hf,Nat.mul_add];omega),hf,show k*(i+1)+j-k=k*i+j by rw [Nat.mul_add];omega]
   exact this
theorem flat_len {α:Type}(f:α->List Value)(k:Nat)(hf:∀ a,(f a).length=k):∀ l:List α,(l.flatMap f).length=k*l.length
 | []=>rfl
 | x :: l=>by rw [List.flatMap_cons,List.length_append,hf,flat_len f k hf l,List.length_cons,Nat.mul_add];omega
def wantVals (q:Want):List Value:=[.int .i64 q.wr,.int .i64 q.top]
def Recs (w:World) (v:Value) (n:Nat) (vals:List Value):Prop:=∃ A c,v=.slice A n c/\n<=c/\c<=9223372036854775807/\Vals w A vals
theorem Recs.ext {w w':World}{v:Value}{n:Nat}{vals:List Value}(h:Recs w v n vals)(hx:Ext w w'):Recs w' v n vals:=by
 obtain⟨A,c,e,h1,h2,h3⟩:=h
 exact⟨A,c,e,h1,h2,h3.ext hx⟩
theorem Recs.of_row {w:World}{B e size n:Nat}{v:Value}{xs:List Value}(h:w.ownsRow B e size v n xs):Recs w v n xs:=vals_row h
def WantsAt (w:World) (v:Value) (l:List Want):Prop:=Recs w v l.length (l.flatMap wantVals)
def RegsV (w:World) (v:Value) (l:List Reg):Prop:=Recs w v l.length (l.flatMap regVals)
theorem want_at {w:World}{A:Option Addr}{l:List Want}(h:Vals w A (l.flatMap wantVals)){i:Nat}{q:Want}(hi:l[i]?=some q) :
  ∃ b,A=some ⟨b,0,none⟩/\b<w.heap.size/\w.cell? ⟨b,i*2,none⟩=some (.int .i64 q.wr)/\w.cell? ⟨b,i*2+1,none⟩=some (.int .i64 q.top):=by
 have h0:=flat_at wantVals 2 (fun _=>rfl) l i 0 q hi (by omega)
 have h1:=flat_at wantVals 2 (fun _=>rfl) l i 1 q hi (by omega)
 obtain⟨b,rfl,hb,hc⟩:=h (fun e=>by rw [e] at h0;simp [wantVals] at h0)
 rw [Nat.mul_comm i 2]
 exact⟨b,rfl,hb,hc _ _ h0,hc _ _ h1⟩
structure RegCells (w:World) (b o:Nat) (r:Reg):Prop where
 kind:w.cell? ⟨b,o,none⟩=some (.int .i64 r.kind)
 base:w.cell? ⟨b,o+1,none⟩=some (.int .i64 r.base)
 loc:w.cell? ⟨b,o+2,none⟩=some (.int .i64 r.loc)
 n:w.cell? ⟨b,o+3,none⟩=some (.int .i64 r.n)
 wr:w.cell? ⟨b,o+4,none⟩=some (.int .i64 r.wr)
 rd:w.cell? ⟨b,o+5,none⟩=some (.int .i64 r.rd)
 top:w.cell? ⟨b,o+6,none⟩=some (.int .i64 r.top)
theorem reg_cells {w:World}{b:Nat}{l:List Reg}(hc:∀ (i:Nat) u,(l.flatMap regVals)[i]?=some u->w.cell? ⟨b,i,none⟩=some u){i:Nat}{r:Reg}(hi:l[i]?=some r):RegCells w b (i*7) r:=by
 have f:=fun j hj=>flat_at regVals 7 (fun _=>rfl) l i j r hi hj
 rw [Nat.mul_comm i 7]
 exact⟨hc _ _ (f 0 (by omega)),hc _ _ (f 1 (by omega)),hc _ _ (f 2 (by omega)),hc _ _ (f 3 (by omega)),hc _ _ (f 4 (by omega)),hc _ _ (f 5 (by omega)),hc _ _ (f 6 (by omega))⟩
theorem reg_at {w:World}{A:Option Addr}{l:List Reg}(h:Vals w A (l.flatMap regVals)){i:Nat}{r:Reg}(hi:l[i]?=some r):∃ b,A=some ⟨b,0,none⟩/\b<w.heap.size/\RegCells w b (i*7) r:=by
 have h0:=flat_at regVals 7 (fun _=>rfl) l i 0 r hi (by omega)
 obtain⟨b,rfl,hb,hc⟩:=h (fun e=>by rw [e] at h0;simp [regVals] at h0)
 exact⟨b,rfl,hb,reg_cells hc hi⟩
theorem info_reg:(Tryz.prog.info? 59).map (fun i=>(i.zero,i.size,i.bytes))=some (some (.agg #[.int .i64 0,.int .i64 0,.int .i64 0,.int .i64 0,.int .i64 0,.int .i64 0,.int .i64 0]),7,56):=by kernel_rfl
theorem info_want:(Tryz.prog.info? 228).map (fun i=>(i.zero,i.size,i.bytes))=some (some (.agg #[.int .i64 0,.int .i64 0]),2,16):=by kernel_rfl
theorem append_rec {ops:Array Oper}{rest:List Oper}{o:Oper}{a:Act}{Q:Exit->Act->World->Prop}{w0 w:World}{e t:TypeId}{z:Value}{size bytes:Nat}
  (hinfo:(Tryz.prog.info? e).map (fun i=>(i.zero,i.size,i.bytes))=some (some z,size,bytes))(hund:Tryz.prog.underlying t=some (.slice e))(hzs:z.cells.size=size)(hsz:0<size)(hby:bytes<=100)
  (hgd:o.guard=none)(s x:Operand)(ho:o.op=.call { callee:=.builtin .append,args:=#[s,x],argTypes:=#[t,t] })
  (v:Value)(n:Nat)(xs news:List Value)(hX:Ext w0 w)(hown:w.ownsRow w0.heap.size e size v n xs)(hs:a.eval s=v)(hx:a.eval x=.slice (some ⟨w.heap.size,0,none⟩) 1 1)
  (hnl:news.length=size)(h1:∀ u∈news,u.oneCell'=true)(hlen:n<1000000000)
  (h:∀ v' w',w'.ownsRow w0.heap.size e size v' (n+1) (xs++news)->Ext w0 w'->(∀ k,k<w.heap.size->v.ownBlock≠some k->w'.heap[k]?=w.heap[k]?)->wpList Tryz.prog ops Q rest (a.put o.dst v') w') :
  wpList Tryz.prog ops Q (o :: rest) a (w.alloc (.cells news.toArray e)):=by
 obtain⟨i0,hi,hz0,hz1,hz2⟩:=info_parts hinfo
 refine wpList_append_own_at _ hgd s x t ho w0.heap.size e i0 z size bytes hund hi hz0 hz1 hz2 hzs hsz v n xs hs (World.ownsRow.alloc hown _) ⟨w.heap.size,0,none⟩ 1 1 news hx (by omega) ?_ h1 (by unfold maxLen;omega) ?_ (by have:=hX.size;simp;omega) fun v' w' h2 h3 _ _=>?_
 · intro j u hu
   rw [Addr.add_lit,Nat.zero_add]
   refine (cell_of_heap (w:=w.alloc (.cells news.toArray e)) (b:=w.heap.size) (cs:=news.toArray) (t:=e) (fz:=(0,0)) (heap_alloc_new w _) j).trans (by simpa using hu)
 · have:(n+1)*bytes<=(n+1)*100:=Nat.mul_le_mul_left _ hby
   omega
 · refine h v' w' h2 (Below.grown (Below.alloc hX hX.size _) h3 (by have:=hX.size;simp;omega) fun k hk=>?_) (fun k hk hv=>(h3.block k (by simp;omega) (fun e=>hv e.symm)).trans (Below.heap_alloc w _ k hk))
   rcases hown.2 with⟨rfl,_⟩ | ⟨g,cap,cur,rfl,hgb,_⟩
   · simp [Value.ownBlock] at hk
   · simp [Value.ownBlock] at hk
     omega
theorem info_strip:(Tryz.prog.info? 85).map (fun i=>(i.zero,i.size,i.bytes))=some (some (.agg #[.int .i64 0,.int .i64 0,.int .i64 0]),3,24):=by kernel_rfl
theorem append_recs {ops:Array Oper}{rest:List Oper}{o:Oper}{a:Act}{Q:Exit->Act->World->Prop}{w0 w:World}{e t:TypeId}{z:Value}{size bytes:Nat}
  (hinfo:(Tryz.prog.info? e).map (fun i=>(i.zero,i.size,i.bytes))=some (some z,size,bytes))(hund:Tryz.prog.underlying t=some (.slice e))(hzs:z.cells.size=size)(hsz:0<size)(hby:bytes<=100)
  (hgd:o.guard=none)(s x:Operand)(ho:o.op=.call { callee:=.builtin .append,args:=#[s,x],argTypes:=#[t,t] })
  (v:Value)(n:Nat)(xs news:List Value)(ad:Addr)(m c:Nat)(hX:Ext w0 w)(hown:w.ownsRow w0.heap.size e size v n xs)(hs:a.eval s=v)(hx:a.eval x=.slice (some ad) m c)
  (hnl:news.length=m*size)(hnews:∀ j u,news[j]?=some u->w.cell? (ad.add j)=some u)(h1:∀ u∈news,u.oneCell'=true)(hlen:n<1000000000)(hm:m<1000000000)
  (h:∀ v' w',w'.ownsRow w0.heap.size e size v' (n+m) (xs++news)->Ext w0 w'->wpList Tryz.prog ops Q rest (a.put o.dst v') w') :
  wpList Tryz.prog ops Q (o :: rest) a w:=by
 obtain⟨i0,hi,hz0,hz1,hz2⟩:=info_parts hinfo
 refine wpList_append_own_at _ hgd s x t ho w0.heap.size e i0 z size bytes hund hi hz0 hz1 hz2 hzs hsz v n xs hs hown ad m c news hx hnl hnews h1 (by unfold maxLen;omega) ?_ hX.size fun v' w' h2 h3 _ _=>?_
 · have:(n+m)*bytes<=(n+m)*100:=Nat.mul_le_mul_left _ hby
   omega
 · refine h v' w' h2 (Below.grown hX h3 hX.size fun k hk=>?_)
   rcases hown.2 with⟨rfl,_⟩ | ⟨g,cap,cur,rfl,hgb,_⟩
   · simp [Value.ownBlock] at hk
   · simp [Value.ownBlock] at hk
     omega
theorem row_new (w:World)(xs:List Value)(e size n:Nat)(h:xs.length=n*size)(hn:n<=1000000):(w.alloc (.cells xs.toArray e)).ownsRow w.heap.size e size (.slice (some ⟨w.heap.size,0,none⟩) n n) n xs :=
 ⟨h,.inr ⟨w.heap.size,n,xs.toArray,rfl,Nat.le_refl _,heap_alloc_new _ _,Nat.le_refl _,by unfold maxLen;omega,by simpa using h,by simp [<- h]⟩⟩
@[go_sem] theorem build_strip (a b c:Int) (w:World):(Instr.build 85 #[(0,.int .i64 a),(1,.int .i64 b),(2,.int .i64 c)]).run Tryz.prog w=.ok (.agg #[.int .i64 a,.int .i64 b,.int .i64 c]) w:=run_build w 85 _ _ (by kernel_rfl)
theorem trstrips_p (w:World):Calls Tryz.prog 212 #[] w fun e w'=>e=.returned (.slice (some ⟨w.heap.size,0,none⟩) 1 1)/\w.alloc (.cells #[.int .i64 3,.int .i64 1,.int .i64 1] 85)=w':=by
 go_enter Tryz.func212,Tryz.ntmps212
 go_wp2_with fail
 go_ret
 exact⟨rfl,rfl⟩
def sixVals:List Value:=[.int .i64 4,.int .i64 1,.int .i64 1099511627776,.int .i64 12,.int .i64 1,.int .i64 1]
def pairVals (m:Nat):List Value:=(List.replicate m ()).flatMap fun _=>sixVals
theorem pairVals_succ (m:Nat):pairVals (m+1)=pairVals m++sixVals:=by unfold pairVals;rw [List.replicate_succ',List.flatMap_append];rfl
theorem pairVals_add (m k:Nat):pairVals (m+k)=pairVals m++pairVals k:=by unfold pairVals;rw [<- List.flatMap_append,List.replicate_append_replicate]
theorem pairVals_len (m:Nat):(pairVals m).length=6*m:=by unfold pairVals;rw [flat_len _ 6 (fun _=>rfl),List.length_replicate]
theorem pairVals_one (m:Nat):∀ u∈pairVals m,u.oneCell'=true:=by
 intro u hu
 unfold pairVals at hu
 simp only [List.mem_flatMap,sixVals,List.mem_cons,List.not_mem_nil,or_false] at hu
 obtain⟨_,_,h⟩:=hu
 rcases h with rfl | rfl | rfl | rfl | rfl | rfl <;> rfl
theorem pair_at (m i:Nat)(h:i<2*m):(pairVals m)[i*3]?=some (.int .i64 (if i % 2=0 then 4 else 12))/\(∃ x,(pairVals m)[i*3+1]?=some (.int .i64 x))/\∃ x,(pairVals m)[i*3+2]?=some (.int .i64 x):=by
 have f:=fun j hj=>flat_at (fun _:Unit=>sixVals) 6 (fun _=>rfl) (List.replicate m ()) (i / 2) j () (by rw [List.getElem?_replicate,if_pos (by omega)]) hj
 rcases Nat.mod_two_eq_zero_or_one i with e | e
 · rw [if_pos e]
   have e0:i*3=6*(i / 2)+0:=by omega
   rw [e0]
   exact⟨f 0 (by omega),⟨_,f 1 (by omega)⟩,⟨_,f 2 (by omega)⟩⟩
 · rw [if_neg (by omega)]
   have e0:i*3=6*(i / 2)+3:=by omega
   rw [e0]
   exact⟨f 3 (by omega),⟨_,f 4 (by omega)⟩,⟨_,f 5 (by omega)⟩⟩
set_option maxRecDepth 100000 in
theorem sstrips_p (w:World):Calls Tryz.prog 213 #[] w fun e w'=>∃ v,e=.returned v/\w'.ownsRow w.heap.size 85 3 v 2 sixVals/\Ext w w':=by
 have hr:=row_new w [.int .i64 4,.int .i64 1,.int .i64 1099511627776] 85 3 1 rfl (by omega)
 have hX:=(Ext.refl w).alloc (.cells [.int .i64 4,.int .i64 1,.int .i64 1099511627776].toArray 85)
 go_enter Tryz.func213,Tryz.ntmps213
 go_wp2_with fail
 generalize w.alloc _=W at *
 refine (trstrips_p _).mono ?_
 rintro e w' ⟨rfl,rfl⟩
 have g1:=Blk.new W (.cells #[.int .i64 3,.int .i64 1,.int .i64 1] 85)
 have x1:=(Ext.refl W).alloc (.cells #[.int .i64 3,.int .i64 1,.int .i64 1] 85)
 replace hr:=row_ext hr x1
 replace hX:=hX.trans x1
 generalize W.alloc _=W1 at *
 go_wp2_with fail
 go_loopw [1,8] (fun v i wr=>∃ j:Nat,i=.int .i64 j/\j<=1/\(j=0->Blk wr W.heap.size (.cells #[.int .i64 3,.int .i64 1,.int .i64 1] 85))/\Ext w wr/\wr.ownsRow w.heap.size 85 3 v (1+j) (sixVals.take (3+3*j))) (fun _ i _=>1-(intOf i).toNat)
 case atStart=>exact⟨0,rfl,by omega,fun _=>g1,hX,hr⟩
 case round =>
  obtain⟨j,rfl,hj,hx,hX2,hown⟩:=hrel
  clear hr hX
  by_cases hl:j<1
  · obtain rfl:j=0:=by omega
    have g2:=hx rfl
    clear hx
    have c_g:=g2.cells
    have g3:=Blk.new wr (.cells #[.int .i64 3,.int .i64 1,.int .i64 1] 85)
    have h12:Ext w ((wr.alloc (.cells #[.int .i64 12,.int .i64 1,.int .i64 1] 85))):=hX2.alloc _
    have ho12:((wr.alloc (.cells #[.int .i64 12,.int .i64 1,.int .i64 1] 85))).ownsRow w.heap.size 85 3 u1 1 [.int .i64 4,.int .i64 1,.int .i64 1099511627776]:=World.ownsRow.alloc hown _
    clear hown
    go_wp2_with (at_builtin;refine append_rec info_strip Tryz.underlying82 rfl (by decide) (by decide) rfl _ _ rfl _ 1 _ [.int .i64 12,.int .i64 1,.int .i64 1] h12 ho12 rfl (by simp [Act.eval,World.size_alloc]) rfl (by simp [Value.oneCell']) (by omega) ?_)
    intro v' w' ho hx' _
    have hoh:=Lib.hid ho
    clear ho ho12 h12 c_g g2 g3
    go_wp2_with fail
    refine⟨⟨1,by go_num,by omega,fun h=>by omega,hx',hoh.out⟩,?_⟩
    simp [intOf]
  · obtain rfl:j=1:=by omega
    have hownh:=Lib.hid hown
    clear hown
    go_wp2_with fail
    go_ret
    exact⟨_,rfl,hownh.out,hX2⟩
set_option maxRecDepth 100000 in
theorem tstrips_p (n:Int)(w:World)(h1:1<=n)(h2:n<=8):Calls Tryz.prog 214 #[.int .i64 n] w fun e w'=>∃ v,e=.returned v/\w'.ownsRow w.heap.size 85 3 v (2*((n-1).toNat*(n-1).toNat)) (pairVals ((n-1).toNat*(n-1).toNat))/\Ext w w':=by
 obtain⟨k,rfl⟩:∃ k:Nat,n=(k:Int)+1:=⟨(n-1).toNat,by omega⟩
 have hk:k*k<=49:=Nat.mul_le_mul (show k<=7 by omega) (show k<=7 by omega)
 have hkk:(k:Int)*(k:Int)=((k*k:Nat):Int):=by simp
 rw [show ((k:Int)+1-1).toNat=k by omega]
 generalize hm:k*k=m at *
 clear hm
 go_enter Tryz.func214,Tryz.ntmps214
 go_wp2_with fail
 refine (threads_p ((k:Int)+1) _ h1 h2).mono ?_
 rintro e w' ⟨rfl,rfl⟩
 go_wp2_with fail
 go_loopw [4,11] (fun v i wr=>∃ j:Nat,i=.int .i64 j/\j<=m/\wr.ownsRow w.heap.size 85 3 v (2*j) (pairVals j)/\Ext w wr) (fun _ i _=>m-(intOf i).toNat)
 case atStart=>exact⟨0,rfl,by omega,World.ownsRow_nil _ _ _ _,Ext.refl _⟩
 case round =>
  obtain⟨j,rfl,hj,hown,hX⟩:=hrel
  by_cases hl:j<m
  · go_wp2_with fail
    refine (sstrips_p _).mono ?_
    rintro e w2 ⟨v2,rfl,hr2,hx2⟩
    obtain⟨A,c,rfl,r1,r2,hV⟩:=Recs.of_row hr2
    obtain⟨b,rfl,hb,hc⟩:=hV (by simp [sixVals])
    replace hown:=row_ext hown hx2
    replace hX:=hX.trans hx2
    clear hr2 hV hx2
    go_wp2_with (at_builtin;refine append_recs info_strip Tryz.underlying82 rfl (by decide) (by decide) rfl _ _ rfl _ (2*j) _ sixVals ⟨b,0,none⟩ 2 c hX hown rfl rfl rfl (fun i u hu=>by rw [Addr.add_lit,Nat.zero_add];exact hc i u hu) (fun u hu=>pairVals_one 1 u (by simpa [pairVals] using hu)) (by omega) (by omega) ?_)
    intro v' w' ho hx'
    have hoh:=Lib.hid ho
    clear hown ho hc
    go_wp2_with fail
    refine⟨⟨j+1,by go_num,by omega,by rw [pairVals_succ];exact hoh.out,hx'⟩,?_⟩
    simp [intOf];omega
  · obtain rfl:j=m:=by omega
    have hownh:=Lib.hid hown
    clear hown
    go_wp2_with fail
    go_ret
    exact⟨_,rfl,hownh.out,hX⟩
set_option maxRecDepth 100000 in
theorem mstrips_p (n:Int)(w:World)(h1:2<=n)(h2:n<=8)(ht:Calls Tryz.prog 295 #[.int .i64 n] w fun e w'=>e=.returned (.int .i64 n)/\w=w'):Calls Tryz.prog 215 #[.int .i64 n] w fun e w'=>∃ v,e=.returned v/\w'.ownsRow w.heap.size 85 3 v (2*(n.toNat*((n-1).toNat*(n-1).toNat))) (pairVals (n.toNat*((n-1).toNat*(n-1).toNat)))/\Ext w w':=by
 have hT:=fun w=>tstrips_p n w (by omega) h2
 have hm1:1<=(n-1).toNat*(n-1).toNat:=Nat.mul_pos (by omega) (by omega)
 have hk:(n-1).toNat*(n-1).toNat<=49:=Nat.mul_le_mul (show (n-1).toNat<=7 by omega) (show (n-1).toNat<=7 by omega)
 generalize (n-1).toNat*(n-1).toNat=m at *
 obtain⟨k,rfl⟩:∃ k:Nat,n=(k:Int):=⟨n.toNat,by omega⟩
 rw [Int.toNat_natCast]
 go_enter Tryz.func215,Tryz.ntmps215
 go_wp2_with fail
 refine ht.mono ?_
 rintro e w' ⟨rfl,rfl⟩
 go_wp2_with fail
 go_loopw [3,6] (fun v i wr=>∃ j:Nat,i=.int .i64 j/\j<=k/\wr.ownsRow w.heap.size 85 3 v (2*(j*m)) (pairVals (j*m))/\Ext w wr) (fun _ i _=>k-(intOf i).toNat)
 case atStart=>exact⟨0,rfl,by omega,by rw [Nat.zero_mul];exact World.ownsRow_nil _ _ _ _,Ext.refl _⟩
 case round =>
  obtain⟨j,rfl,hj,hown,hX⟩:=hrel
  by_cases hl:j<k
  · have hjm:j*m<=8*49:=Nat.mul_le_mul (by omega) hk
    go_wp2_with fail
    refine (hT _).mono ?_
    rintro e w2 ⟨v2,rfl,hr2,hx2⟩
    obtain⟨A,c,rfl,r1,r2,hV⟩:=Recs.of_row hr2
    replace hown:=row_ext hown hx2
    replace hX:=hX.trans hx2
    have hjs:(j+1)*m=j*m+m:=Nat.succ_mul j m
    obtain⟨b,rfl,hb,hc⟩:=hV (fun e=>by have:=pairVals_len m;rw [e] at this;simp at this;omega)
    clear hr2 hV hx2
    go_wp2_with (at_builtin;refine append_recs info_strip Tryz.underlying82 rfl (by decide) (by decide) rfl _ _ rfl _ (2*(j*m)) _ (pairVals m) ⟨b,0,none⟩ (2*m) c hX hown rfl rfl (by rw [pairVals_len];omega) (fun i u hu=>by rw [Addr.add_lit,Nat.zero_add];exact hc i u hu) (pairVals_one m) (by omega) (by omega) ?_)
    intro v' w' ho hx'
    have hoh:=Lib.hid ho
    clear hown ho hc
    go_wp2_with fail
    refine⟨⟨j+1,by go_num,by omega,?_,hx'⟩,?_⟩
    · rw [hjs,pairVals_add,Nat.mul_add];exact hoh.out
    · simp [intOf];omega
  · obtain rfl:j=k:=by omega
    have hownh:=Lib.hid hown
    clear hown
    go_wp2_with fail
    go_ret
    exact⟨_,rfl,hownh.out,hX⟩
def StripsAre (w w':World) (v:Value) (n:Nat) (f:Nat->Int):Prop :=
 ∃ A c vals,v=.slice A n c/\n<=c/\c<=9223372036854775807/\Ext w w'/\∀ i,i<n->∃ b x y,A=some ⟨b,0,none⟩/\b<w'.heap.size/\vals=b/\w'.cell? ⟨b,i*3,none⟩=some (.int .i64 (f i))/\w'.cell? ⟨b,i*3+1,none⟩=some (.int .i64 x)/\w'.cell? ⟨b,i*3+2,none⟩=some (.int .i64 y)
def pairF (i:Nat):Int:=if i % 2=0 then 4 else 12
theorem strips_pairs {w w':World}{B:Nat}{v:Value}{m:Nat}(h:w'.ownsRow B 85 3 v (2*m) (pairVals m))(hx:Ext w w'):StripsAre w w' v (2*m) pairF:=by
 obtain⟨A,c,rfl,r1,r2,hV⟩:=Recs.of_row h
 by_cases hm:m=0
 · subst hm
   exact⟨A,c,0,rfl,r1,r2,hx,fun i hi=>by omega⟩
 · obtain⟨b,rfl,hb,hc⟩:=hV (fun e=>by have:=pairVals_len m;rw [e] at this;simp at this;omega)
   refine⟨_,c,b,rfl,r1,r2,hx,fun i hi=>?_⟩
   obtain⟨p0,⟨x,p1⟩,⟨y,p2⟩⟩:=pair_at m i hi
   exact⟨b,x,y,rfl,hb,rfl,hc _ _ p0,hc _ _ p1,hc _ _ p2⟩
def manyF (r:Reg):Nat:=if r.kind=1 then 1 else if r.kind=6 then 2*((r.n-1).toNat*(r.n-1).toNat) else 2*(r.n.toNat*((r.n-1).toNat*(r.n-1).toNat))
def stripF (r:Reg) (i:Nat):Int:=if r.kind=1 then 1 else pairF i
set_option maxRecDepth 100000 in
theorem rstrips_p (r:Reg)(w:World)(hk:r.kind=1∨r.kind=6∨(r.kind=7/\2<=r.n))(hn:1<=r.n/\r.n<=8)(ht:∀ w,Calls Tryz.prog 295 #[.int .i64 r.n] w fun e w'=>e=.returned (.int .i64 r.n)/\w=w') :
  Calls Tryz.prog 148 #[encR r] w fun e w'=>∃ v,e=.returned v/\StripsAre w w' v (manyF r) (stripF r):=by
 obtain⟨kind,base,loc,n,wr,rd,top⟩:=r
 simp only at hk hn ht
 unfold encR
 simp only
 have hX:=Ext.refl w
 have b1:=Blk.new w (.cells #[.int .i64 kind,.int .i64 base,.int .i64 loc,.int .i64 n,.int .i64 wr,.int .i64 rd,.int .i64 top] 59)
 replace hX:=hX.alloc (.cells #[.int .i64 kind,.int .i64 base,.int .i64 loc,.int .i64 n,.int .i64 wr,.int .i64 rd,.int .i64 top] 59)
 have c_b1:=b1.cells
 rcases hk with rfl | rfl | ⟨rfl,h2⟩
 · go_enter Tryz.func148,Tryz.ntmps148
   go_wp2_with fail
   refine (clamp_p _ _ _).mono ?_
   rintro e w' ⟨rfl,rfl⟩
   have g1:=Blk.new (w.alloc (.cells #[.int .i64 1,.int .i64 base,.int .i64 loc,.int .i64 n,.int .i64 wr,.int .i64 rd,.int .i64 top] 59)) (.cells #[.int .i64 1,.int .i64 3,.int .i64 (clamp top 1099511627776)] 85)
   have hX2:=Lib.hid (hX.alloc (.cells #[.int .i64 1,.int .i64 3,.int .i64 (clamp top 1099511627776)] 85))
   simp only [World.size_alloc] at g1
   have g1h:=Lib.hid g1
   clear g1
   go_wp2_with fail
   go_ret
   refine⟨_,rfl,some ⟨w.heap.size+1,0,none⟩,1,w.heap.size+1,rfl,by simp [manyF],by omega,hX2.out,fun i hi=>?_⟩
   have hi0:i=0:=by simp [manyF] at hi;exact hi
   subst hi0
   exact⟨_,_,_,rfl,g1h.out.lt,rfl,g1h.out.cells 0,g1h.out.cells 1,g1h.out.cells 2⟩
 · go_enter Tryz.func148,Tryz.ntmps148
   go_wp2_with fail
   refine (tstrips_p n _ hn.1 hn.2).mono ?_
   rintro e w2 ⟨v,rfl,hr,hx⟩
   have hS:=Lib.hid (strips_pairs hr (hX.trans hx))
   clear hr hx
   go_wp2_with fail
   go_ret
   exact⟨_,rfl,hS.out⟩
 · go_enter Tryz.func148,Tryz.ntmps148
   go_wp2_with fail
   refine (mstrips_p n _ h2 hn.2 (ht _)).mono ?_
   rintro e w2 ⟨v,rfl,hr,hx⟩
   have hS:=Lib.hid (strips_pairs hr (hX.trans hx))
   clear hr hx
   go_wp2_with fail
   go_ret
   exact⟨_,rfl,hS.out⟩
def sumF (f:Nat->Int):Nat->Int
 | 0=>0
 | n+1=>sumF f n+f n
theorem sum_pair:∀ m:Nat,sumF pairF (2*m)=16*(m:Int)
 | 0=>rfl
 | m+1=>by
   have h1:pairF (2*m)=4:=by unfold pairF;rw [if_pos (by omega)]
   have h2:pairF (2*m+1)=12:=by unfold pairF;rw [if_neg (by omega)]
   show sumF pairF (2*m)+pairF (2*m)+pairF (2*m+1)=_
   rw [sum_pair m,h1,h2]
   omega
theorem sumF_bd (r:Reg):∀ n:Nat,0<=sumF (stripF r) n/\sumF (stripF r) n<=12*n
 | 0=>by simp [sumF]
 | n+1=>by
   have h:=sumF_bd r n
   have h2:0<=stripF r n/\stripF r n<=12:=by unfold stripF pairF;split <;> (try split) <;> omega
   show 0<=sumF (stripF r) n+stripF r n/\sumF (stripF r) n+stripF r n<=_
   omega
theorem sum_cells (r:Reg)(hk:r.kind=1∨r.kind=6∨r.kind=7)(hn:1<=r.n/\r.n<=8):sumF (stripF r) (manyF r)=cellsM r:=by
 obtain⟨k,hk0⟩:∃ k:Nat,r.n=(k:Int)+1:=⟨(r.n-1).toNat,by omega⟩
 rcases hk with h | h | h
 · unfold manyF cellsM
   rw [if_pos h,if_pos h]
   show sumF (stripF r) 0+stripF r 0=1
   unfold stripF
   rw [if_pos h]
   rfl
 · have e:stripF r=pairF:=by funext i;unfold stripF;rw [if_neg (by omega)]
   have n1:r.kind≠1:=by omega
   unfold manyF cellsM
   rw [if_neg n1,if_neg n1,if_pos h,if_pos h,e,sum_pair,hk0,show ((k:Int)+1-1)=(k:Int) by omega,Int.toNat_natCast,Int.natCast_mul,<- Int.mul_assoc]
 · have e:stripF r=pairF:=by funext i;unfold stripF;rw [if_neg (by omega)]
   have n1:r.kind≠1:=by omega
   have n6:r.kind≠6:=by omega
   unfold manyF cellsM
   rw [if_neg n1,if_neg n1,if_neg n6,if_neg n6,e,sum_pair,hk0,show ((k:Int)+1-1)=(k:Int) by omega,show ((k:Int)+1).toNat=k+1 by omega,Int.toNat_natCast,Int.natCast_mul,Int.natCast_mul,Int.mul_comm ((k+1:Nat):Int),<- Int.mul_assoc,<- Int.mul_assoc]
   rfl
theorem manyF_bd (r:Reg)(hn:1<=r.n/\r.n<=8):manyF r<=784:=by
 have h1:(r.n-1).toNat*(r.n-1).toNat<=49:=Nat.mul_le_mul (show (r.n-1).toNat<=7 by omega) (show (r.n-1).toNat<=7 by omega)
 have h2:r.n.toNat*((r.n-1).toNat*(r.n-1).toNat)<=8*49:=Nat.mul_le_mul (by omega) h1
 unfold manyF
 split
 · omega
 · split <;> omega
set_option maxRecDepth 100000 in
theorem cells_p (r:Reg)(w:World)(hk:r.kind=1∨r.kind=6∨(r.kind=7/\2<=r.n))(hn:1<=r.n/\r.n<=8)(ht:∀ w,Calls Tryz.prog 295 #[.int .i64 r.n] w fun e w'=>e=.returned (.int .i64 r.n)/\w=w') :
  Calls Tryz.prog 142 #[encR r] w fun e w'=>e=.returned (.int .i64 (cellsM r))/\Ext w w':=by
 have hS:=fun w=>rstrips_p r w hk hn ht
 have hsum:=sum_cells r (by omega) hn
 have hbd:=sumF_bd r
 have hmn:=manyF_bd r hn
 generalize stripF r=f at *
 generalize manyF r=M at *
 rw [<- hsum]
 clear hsum hk hn ht
 obtain⟨kind,base,loc,n,wr,rd,top⟩:=r
 unfold encR at hS ⊢
 simp only at hS ⊢
 have hX:=Ext.refl w
 have b1:=Blk.new w (.cells #[.int .i64 kind,.int .i64 base,.int .i64 loc,.int .i64 n,.int .i64 wr,.int .i64 rd,.int .i64 top] 59)
 replace hX:=hX.alloc (.cells #[.int .i64 kind,.int .i64 base,.int .i64 loc,.int .i64 n,.int .i64 wr,.int .i64 rd,.int .i64 top] 59)
 have c_b1:=b1.cells
 go_enter Tryz.func142,Tryz.ntmps142
 go_wp2_with fail
 refine (hS _).mono ?_
 rintro e w2 ⟨v,rfl,A,c,bb,rfl,r1,r2,hx,hat⟩
 replace hX:=hX.trans hx
 clear hx hS c_b1 b1
 go_wp2_with fail
 go_loopw [3,9] (fun s i wr=>∃ j:Nat,i=.int .i64 j/\j<=M/\s=.int .i64 (sumF f j)/\Ext w2 wr) (fun _ i _=>M-(intOf i).toNat)
 case atStart=>exact⟨0,rfl,by omega,rfl,Ext.refl _⟩
 case round =>
  obtain⟨j,rfl,hj,rfl,hx⟩:=hrel
  by_cases hl:j<M
  · obtain⟨b,x,y,rfl,hb,rfl,e1,e2,e3⟩:=hat j hl
    have e1:=(hx.cell (p:=⟨bb,j*3,none⟩) hb).trans e1
    have e2:=(hx.cell (p:=⟨bb,j*3+1,none⟩) hb).trans e2
    have e3:=(hx.cell (p:=⟨bb,j*3+2,none⟩) hb).trans e3
    have hb1:=hbd j
    have hb2:=hbd (j+1)
    have hs:sumF f (j+1)=sumF f j+f j:=rfl
    rw [hs] at hb2
    have hxa:=Lib.hid (hx.alloc (.cells #[.int .i64 (f j),.int .i64 x,.int .i64 y] 85))
    have hsh:=Lib.hid hs
    clear hat hbd hs
    generalize sumF f j=s at *
    generalize f j=F at *
    go_wp2_with fail
    refine⟨⟨j+1,by go_num,by omega,by rw [hsh.out],hxa.out⟩,?_⟩
    simp [intOf];omega
  · obtain rfl:j=M:=by omega
    clear hat hbd
    have hf:=Lib.hid (hX.trans hx)
    go_wp2_with fail
    go_ret
    exact⟨rfl,hf.out⟩
theorem cells_bd (n:Int)(h1:1<=n)(h2:n<=8):(0<=16*(n-1)/\16*(n-1)<=112)/\(0<=16*(n-1)*(n-1)/\16*(n-1)*(n-1)<=784)/\(0<=16*(n-1)*(n-1)*n/\16*(n-1)*(n-1)*n<=6272):=by
 have a1:0<=16*(n-1)*(n-1):=Int.mul_nonneg (by omega) (by omega)
 have a2:16*(n-1)*(n-1)<=112*7:=Int.mul_le_mul (by omega) (by omega) (by omega) (by omega)
 have a3:0<=16*(n-1)*(n-1)*n:=Int.mul_nonneg a1 (by omega)
 have a4:16*(n-1)*(n-1)*n<=784*8:=Int.mul_le_mul (by omega) (by omega) (by omega) (by omega)
 omega
theorem locals_bd (n:Int)(h1:1<=n)(h2:n<=8):(0<=18*(n-1)/\18*(n-1)<=126)/\(0<=18*(n-1)*(n-1)/\18*(n-1)*(n-1)<=882)/\(0<=n*(2+18*(n-1)*(n-1))/\n*(2+18*(n-1)*(n-1))<=7072):=by
 have a1:0<=18*(n-1)*(n-1):=Int.mul_nonneg (by omega) (by omega)
 have a2:18*(n-1)*(n-1)<=126*7:=Int.mul_le_mul (by omega) (by omega) (by omega) (by omega)
 have a3:0<=n*(2+18*(n-1)*(n-1)):=Int.mul_nonneg (by omega) (by omega)
 have a4:n*(2+18*(n-1)*(n-1))<=8*884:=Int.mul_le_mul (by omega) (by omega) (by omega) (by omega)
 omega
theorem cells_r (r:Reg)(w:World)(hk:r.kind=1∨r.kind=6∨r.kind=7)(hn:1<=r.n/\r.n<=8):Calls Tryz.prog 138 #[encR r] w fun e w'=>e=.returned (.int .i64 (cellsM r))/\Ext w w':=by
 obtain⟨kind,base,loc,n,wr,rd,top⟩:=r
 simp only at hk hn
 have hb:=cells_bd n hn.1 hn.2
 unfold encR cellsM
 simp only
 have hX:=Ext.refl w
 have b1:=Blk.new w (.cells #[.int .i64 kind,.int .i64 base,.int .i64 loc,.int .i64 n,.int .i64 wr,.int .i64 rd,.int .i64 top] 59)
 replace hX:=hX.alloc (.cells #[.int .i64 kind,.int .i64 base,.int .i64 loc,.int .i64 n,.int .i64 wr,.int .i64 rd,.int .i64 top] 59)
 have c_b1:=b1.cells
 go_enter Tryz.func138,Tryz.ntmps138
 go_wp2_with fail
 refine (rn_r ⟨kind,base,loc,n,wr,rd,top⟩ _ hn.1 hn.2).mono ?_
 rintro e w2 ⟨rfl,hx⟩
 clear c_b1
 replace b1:=b1.ext hx
 have c_b1:=b1.cells
 replace hX:=hX.trans hx
 clear hx
 rcases hk with rfl | rfl | rfl
 · go_wp2_with fail
   go_ret
   exact⟨rfl,hX⟩
 · go_wp2_with fail
   go_ret
   exact⟨rfl,hX⟩
 · go_wp2_with fail
   go_ret
   exact⟨rfl,hX⟩
theorem locals_r (r:Reg)(w:World)(hk:r.kind=1∨r.kind=6∨r.kind=7)(hn:1<=r.n/\r.n<=8):Calls Tryz.prog 139 #[encR r] w fun e w'=>e=.returned (.int .i64 (localsM r))/\Ext w w':=by
 obtain⟨kind,base,loc,n,wr,rd,top⟩:=r
 simp only at hk hn
 have hb:=locals_bd n hn.1 hn.2
 unfold encR localsM
 simp only
 have hX:=Ext.refl w
 have b1:=Blk.new w (.cells #[.int .i64 kind,.int .i64 base,.int .i64 loc,.int .i64 n,.int .i64 wr,.int .i64 rd,.int .i64 top] 59)
 replace hX:=hX.alloc (.cells #[.int .i64 kind,.int .i64 base,.int .i64 loc,.int .i64 n,.int .i64 wr,.int .i64 rd,.int .i64 top] 59)
 have c_b1:=b1.cells
 go_enter Tryz.func139,Tryz.ntmps139
 go_wp2_with fail
 refine (rn_r ⟨kind,base,loc,n,wr,rd,top⟩ _ hn.1 hn.2).mono ?_
 rintro e w2 ⟨rfl,hx⟩
 clear c_b1
 replace b1:=b1.ext hx
 have c_b1:=b1.cells
 replace hX:=hX.trans hx
 clear hx
 rcases hk with rfl | rfl | rfl
 · go_wp2_with fail
   go_ret
   exact⟨rfl,hX⟩
 · go_wp2_with fail
   go_ret
   exact⟨rfl,hX⟩
 · go_wp2_with fail
   go_ret
   exact⟨rfl,hX⟩
theorem thread_in (n t:Int)(must:Bool)(w:World)(h:0<=t/\t<n):Calls Tryz.prog 203 #[.int .i64 n,.int .i64 t,.bool must] w fun e w'=>e=.returned (.bool true)/\w=w':=by
 obtain⟨h1,h2⟩:=h
 go_enter Tryz.func203,Tryz.ntmps203
 go_wp2_with fail
 go_ret
 exact⟨rfl,rfl⟩
theorem thread_none (n:Int)(w:World):Calls Tryz.prog 203 #[.int .i64 n,.int .i64 (-1),.bool false] w fun e w'=>e=.returned (.bool true)/\w=w':=by
 go_enter Tryz.func203,Tryz.ntmps203
 go_wp2_with fail
 go_ret
 exact⟨rfl,rfl⟩
theorem thread_any (n t:Int)(must:Bool)(w:World)(h:(0<=t/\t<n)∨(t=-1/\must=false)):Calls Tryz.prog 203 #[.int .i64 n,.int .i64 t,.bool must] w fun e w'=>e=.returned (.bool true)/\w=w':=by
 rcases h with h | ⟨rfl,rfl⟩
 · exact thread_in n t must w h
 · exact thread_none n w
structure Drawn (r:Reg):Prop where
 kind:r.kind=1∨r.kind=6∨r.kind=7
 base:0<=r.base
 loc:0<=r.loc
 n:1<=r.n/\r.n<=8
 wr:-1<=r.wr/\r.wr<r.n
 wr6:r.kind=6->0<=r.wr
 rd:r.rd=-1
 top:1<=r.top/\r.top<=255
set_option maxRecDepth 100000 in
set_option maxHeartbeats 2000000 in
theorem fine1_r (base loc n wr top C D:Int)(w:World)(hb:0<=base)(hl:0<=loc)(hn:1<=n/\n<=8)(hw:-1<=wr/\wr<n)(ht:1<=top/\top<=255)(hz:0<=C/\C<=6272/\0<=D/\D<=7072)
  (hC:∀ w,Calls Tryz.prog 138 #[.agg #[.int .i64 1,.int .i64 base,.int .i64 loc,.int .i64 n,.int .i64 wr,.int .i64 (-1),.int .i64 top]] w fun e w'=>e=.returned (.int .i64 C)/\Ext w w')
  (hL:∀ w,Calls Tryz.prog 139 #[.agg #[.int .i64 1,.int .i64 base,.int .i64 loc,.int .i64 n,.int .i64 wr,.int .i64 (-1),.int .i64 top]] w fun e w'=>e=.returned (.int .i64 D)/\Ext w w') :
  Calls Tryz.prog 136 #[.agg #[.int .i64 1,.int .i64 base,.int .i64 loc,.int .i64 n,.int .i64 wr,.int .i64 (-1),.int .i64 top]] w fun e w'=>e=.returned (.bool (decide (base<=32768)&&decide (loc<=32768)&&decide (base+C<=32768)&&decide (loc+D<=32768)))/\Ext w w':=by
 have d1:decide (base<0)=false:=by simpa using hb
 have d2:decide (loc<0)=false:=by simpa using hl
 have d3:decide (n<1)=false:=by simpa using hn.1
 have d4:decide (8<n)=false:=by simpa using hn.2
 have d7:decide (1<=top)=true:=by simpa using ht.1
 have hX:=Ext.refl w
 have b1:=Blk.new w (.cells #[.int .i64 1,.int .i64 base,.int .i64 loc,.int .i64 n,.int .i64 wr,.int .i64 (-1),.int .i64 top] 59)
 replace hX:=hX.alloc (.cells #[.int .i64 1,.int .i64 base,.int .i64 loc,.int .i64 n,.int .i64 wr,.int .i64 (-1),.int .i64 top] 59)
 have c_b1:=b1.cells
 by_cases e1:base<=32768
 · have d5:decide (32768<base)=false:=by simpa using e1
   by_cases e2:loc<=32768
   · have d6:decide (32768<loc)=false:=by simpa using e2
     have e1':decide (base<=32768)=true:=by simpa using e1
     have e2':decide (loc<=32768)=true:=by simpa using e2
     rw [e1',e2',Bool.true_and,Bool.true_and]
     clear e1' e2'
     have h1w:=IntWalk.i64_in (base+C) (by omega)
     have h2w:=IntWalk.i64_in (loc+D) (by omega)
     go_enter Tryz.func136,Tryz.ntmps136
     go_wp2_with fail
     refine (thread_any n wr false _ (by rcases Int.lt_or_le wr 0 with e | e;exact .inr ⟨by omega,rfl⟩;exact .inl ⟨e,hw.2⟩)).mono ?_
     rintro e w' ⟨rfl,rfl⟩
     go_wp2_with fail
     refine (thread_none n _).mono ?_
     rintro e w' ⟨rfl,rfl⟩
     go_wp2_with fail
     have k1:=b1.alloc (.cells #[.int .i64 0,.int .i64 1099511627776,.int .i64 1,.int .i64 255,.int .i64 1,.int .i64 1099511627776,.int .i64 1048576,.int .i64 255] 3)
     have k2:=Blk.new (w.alloc (.cells #[.int .i64 1,.int .i64 base,.int .i64 loc,.int .i64 n,.int .i64 wr,.int .i64 (-1),.int .i64 top] 59)) (.cells #[.int .i64 0,.int .i64 1099511627776,.int .i64 1,.int .i64 255,.int .i64 1,.int .i64 1099511627776,.int .i64 1048576,.int .i64 255] 3)
     have hXW:=hX.alloc (.cells #[.int .i64 0,.int .i64 1099511627776,.int .i64 1,.int .i64 255,.int .i64 1,.int .i64 1099511627776,.int .i64 1048576,.int .i64 255] 3)
     simp only [World.size_alloc] at k2
     clear b1 c_b1 hX
     generalize World.alloc (World.alloc _ _) _=W at *
     have hX:=(Ext.refl W).drew
     have hS:∀ w',Ext W w'->(∀ i,w'.cell? ⟨w.heap.size,i,none⟩=(#[.int .i64 1,.int .i64 base,.int .i64 loc,.int .i64 n,.int .i64 wr,.int .i64 (-1),.int .i64 top]:Array Value)[i]?)/\(∀ i,w'.cell? ⟨w.heap.size+1,i,none⟩=(#[.int .i64 0,.int .i64 1099511627776,.int .i64 1,.int .i64 255,.int .i64 1,.int .i64 1099511627776,.int .i64 1048576,.int .i64 255]:Array Value)[i]?):=fun w' hx=>⟨(k1.ext hx).cells,(k2.ext hx).cells⟩
     have d8:decide (top<=1099511627776)=true:=by rw [decide_eq_true_eq];omega
     by_cases hc:base+C<=32768
     · have d9:decide (base+C<=32768)=true:=by simpa using hc
       go_region_held2 (fun w'=>(∀ i,w'.cell? ⟨w.heap.size,i,none⟩=(#[.int .i64 1,.int .i64 base,.int .i64 loc,.int .i64 n,.int .i64 wr,.int .i64 (-1),.int .i64 top]:Array Value)[i]?)/\(∀ i,w'.cell? ⟨w.heap.size+1,i,none⟩=(#[.int .i64 0,.int .i64 1099511627776,.int .i64 1,.int .i64 255,.int .i64 1,.int .i64 1099511627776,.int .i64 1048576,.int .i64 255]:Array Value)[i]?)) (exact hS _ hX)
       (first
          | (go_at_call 138
             refine (hC _).mono ?_
             rintro e w2 ⟨rfl,hx⟩
             replace hX:=hX.trans hx
             clear hx)
          | (go_at_call 139
             refine (hL _).mono ?_
             rintro e w2 ⟨rfl,hx⟩
             replace hX:=hX.trans hx
             clear hx))
       go_wp2_with fail
       go_ret
       exact⟨ret_bool (by rw [d9,Bool.true_and]),hXW.trans hX⟩
     · have d9:decide (base+C<=32768)=false:=by simpa using hc
       refine wp_region_held_drew (S:=fun w'=>(∀ i,w'.cell? ⟨w.heap.size,i,none⟩=(#[.int .i64 1,.int .i64 base,.int .i64 loc,.int .i64 n,.int .i64 wr,.int .i64 (-1),.int .i64 top]:Array Value)[i]?)/\(∀ i,w'.cell? ⟨w.heap.size+1,i,none⟩=(#[.int .i64 0,.int .i64 1099511627776,.int .i64 1,.int .i64 255,.int .i64 1,.int .i64 1099511627776,.int .i64 1048576,.int .i64 255]:Array Value)[i]?)) rfl (hS _ hX) (fun hHeld=>?_)
       refine tkb 0 ?_
       iterate 17
        refine tkn (v:=?_) rfl (by kernel_rfl) (fun _ _ _ h=>h) (by assumption) ?_ ?_
        rotate_left
        · (intro w hSw;(try dsimp only at hSw);go_simp;try with_reducible rfl)
        try simp only [put_pack]
       refine tke ?_
       refine wpAnyH_ready (rs:=[17]) (by kernel_rfl) (by simp) ?_
       refine AllReadyH.cons rfl (fun K hKK=>?_) (AllReadyH.nil)
       go_simp
       refine (hC _).mono ?_
       rintro e w2 ⟨rfl,hx⟩
       replace hX:=hX.trans hx
       clear hx
       refine hKK.out _ _ (hS _ hX) (fun hHeld=>?_)
       clear hKK K
       try dsimp only
       refine tkb 18 ?_
       iterate 4
        refine tkn (v:=?_) rfl (by kernel_rfl) (fun _ _ _ h=>h) (by assumption) ?_ ?_
        rotate_left
        · (intro w hSw;(try dsimp only at hSw);go_simp;try with_reducible rfl)
        try simp only [put_pack]
       refine tke ?_
       refine sk 22 rfl (by kernel_rfl) (fun _ _ _ h=>h) (by assumption) ?_
       try simp only [put_pack]
       refine sk 23 rfl (by kernel_rfl) (fun _ _ _ h=>h) (by assumption) ?_
       try simp only [put_pack]
       refine sk 24 rfl (by kernel_rfl) (fun _ _ _ h=>h) (by assumption) ?_
       try simp only [put_pack]
       refine sk 25 rfl (by kernel_rfl) (fun _ _ _ h=>h) (by assumption) ?_
       try simp only [put_pack]
       refine sk 26 rfl (by kernel_rfl) (fun _ _ _ h=>h) (by assumption) ?_
       try simp only [put_pack]
       refine sk 27 rfl (by kernel_rfl) (fun _ _ _ h=>h) (by assumption) ?_
       try simp only [put_pack]
       refine tk 28 (v:=?_) rfl (by kernel_rfl) (fun _ _ _ h=>h) (by assumption) ?_ ?_
       rotate_left
       · (intro w hSw;(try dsimp only at hSw);go_simp;try with_reducible rfl)
       try simp only [put_pack]
       refine tk 29 (v:=?_) rfl (by kernel_rfl) (fun _ _ _ h=>h) (by assumption) ?_ ?_
       rotate_left
       · (intro w hSw;(try dsimp only at hSw);go_simp;try with_reducible rfl)
       try simp only [put_pack]
       refine wpAnyH_done (by kernel_rfl) ?_ _
       go_wp2_with fail
       go_ret
       exact⟨ret_bool (by simp),hXW.trans hX⟩
   · have d6:decide (32768<loc)=true:=by rw [decide_eq_true_eq];omega
     have e2':decide (loc<=32768)=false:=by simpa using e2
     rw [e2',Bool.and_false,Bool.false_and,Bool.false_and]
     go_enter Tryz.func136,Tryz.ntmps136
     go_wp2_with fail
     go_ret
     exact⟨rfl,hX⟩
 · have d5:decide (32768<base)=true:=by rw [decide_eq_true_eq];omega
   have e2':decide (base<=32768)=false:=by simpa using e1
   rw [e2',Bool.false_and,Bool.false_and,Bool.false_and]
   go_enter Tryz.func136,Tryz.ntmps136
   go_wp2_with fail
   go_ret
   exact⟨rfl,hX⟩
set_option maxRecDepth 100000 in
set_option maxHeartbeats 2000000 in
theorem fine6_r (base loc n wr top C D:Int)(w:World)(hb:0<=base)(hl:0<=loc)(hn:1<=n/\n<=8)(hw:0<=wr/\wr<n)(ht:1<=top/\top<=255)(hz:0<=C/\C<=6272/\0<=D/\D<=7072)
  (hC:∀ w,Calls Tryz.prog 138 #[.agg #[.int .i64 6,.int .i64 base,.int .i64 loc,.int .i64 n,.int .i64 wr,.int .i64 (-1),.int .i64 top]] w fun e w'=>e=.returned (.int .i64 C)/\Ext w w')
  (hL:∀ w,Calls Tryz.prog 139 #[.agg #[.int .i64 6,.int .i64 base,.int .i64 loc,.int .i64 n,.int .i64 wr,.int .i64 (-1),.int .i64 top]] w fun e w'=>e=.returned (.int .i64 D)/\Ext w w') :
  Calls Tryz.prog 136 #[.agg #[.int .i64 6,.int .i64 base,.int .i64 loc,.int .i64 n,.int .i64 wr,.int .i64 (-1),.int .i64 top]] w fun e w'=>e=.returned (.bool (decide (base<=32768)&&decide (loc<=32768)&&decide (base+C<=32768)&&decide (loc+D<=32768)))/\Ext w w':=by
 have d1:decide (base<0)=false:=by simpa using hb
 have d2:decide (loc<0)=false:=by simpa using hl
 have d3:decide (n<1)=false:=by simpa using hn.1
 have d4:decide (8<n)=false:=by simpa using hn.2
 have d7:decide (1<=top)=true:=by simpa using ht.1
 have hX:=Ext.refl w
 have b1:=Blk.new w (.cells #[.int .i64 6,.int .i64 base,.int .i64 loc,.int .i64 n,.int .i64 wr,.int .i64 (-1),.int .i64 top] 59)
 replace hX:=hX.alloc (.cells #[.int .i64 6,.int .i64 base,.int .i64 loc,.int .i64 n,.int .i64 wr,.int .i64 (-1),.int .i64 top] 59)
 have c_b1:=b1.cells
 by_cases e1:base<=32768
 · have d5:decide (32768<base)=false:=by simpa using e1
   by_cases e2:loc<=32768
   · have d6:decide (32768<loc)=false:=by simpa using e2
     have e1':decide (base<=32768)=true:=by simpa using e1
     have e2':decide (loc<=32768)=true:=by simpa using e2
     rw [e1',e2',Bool.true_and,Bool.true_and]
     clear e1' e2'
     have h1w:=IntWalk.i64_in (base+C) (by omega)
     have h2w:=IntWalk.i64_in (loc+D) (by omega)
     go_enter Tryz.func136,Tryz.ntmps136
     go_wp2_with fail
     refine (thread_any n wr true _ (by omega)).mono ?_
     rintro e w' ⟨rfl,rfl⟩
     go_wp2_with fail
     refine (thread_none n _).mono ?_
     rintro e w' ⟨rfl,rfl⟩
     go_wp2_with fail
     have k1:=b1.alloc (.cells #[.int .i64 0,.int .i64 1099511627776,.int .i64 1,.int .i64 255,.int .i64 1,.int .i64 1099511627776,.int .i64 1048576,.int .i64 255] 3)
     have k2:=Blk.new (w.alloc (.cells #[.int .i64 6,.int .i64 base,.int .i64 loc,.int .i64 n,.int .i64 wr,.int .i64 (-1),.int .i64 top] 59)) (.cells #[.int .i64 0,.int .i64 1099511627776,.int .i64 1,.int .i64 255,.int .i64 1,.int .i64 1099511627776,.int .i64 1048576,.int .i64 255] 3)
     have hXW:=hX.alloc (.cells #[.int .i64 0,.int .i64 1099511627776,.int .i64 1,.int .i64 255,.int .i64 1,.int .i64 1099511627776,.int .i64 1048576,.int .i64 255] 3)
     simp only [World.size_alloc] at k2
     clear b1 c_b1 hX
     generalize World.alloc (World.alloc _ _) _=W at *
     have hX:=(Ext.refl W).drew
     have hS:∀ w',Ext W w'->(∀ i,w'.cell? ⟨w.heap.size,i,none⟩=(#[.int .i64 6,.int .i64 base,.int .i64 loc,.int .i64 n,.int .i64 wr,.int .i64 (-1),.int .i64 top]:Array Value)[i]?)/\(∀ i,w'.cell? ⟨w.heap.size+1,i,none⟩=(#[.int .i64 0,.int .i64 1099511627776,.int .i64 1,.int .i64 255,.int .i64 1,.int .i64 1099511627776,.int .i64 1048576,.int .i64 255]:Array Value)[i]?):=fun w' hx=>⟨(k1.ext hx).cells,(k2.ext hx).cells⟩
     have d8:decide (top<=1048576)=true:=by rw [decide_eq_true_eq];omega
     by_cases hc:base+C<=32768
     · have d9:decide (base+C<=32768)=true:=by simpa using hc
       go_region_held2 (fun w'=>(∀ i,w'.cell? ⟨w.heap.size,i,none⟩=(#[.int .i64 6,.int .i64 base,.int .i64 loc,.int .i64 n,.int .i64 wr,.int .i64 (-1),.int .i64 top]:Array Value)[i]?)/\(∀ i,w'.cell? ⟨w.heap.size+1,i,none⟩=(#[.int .i64 0,.int .i64 1099511627776,.int .i64 1,.int .i64 255,.int .i64 1,.int .i64 1099511627776,.int .i64 1048576,.int .i64 255]:Array Value)[i]?)) (exact hS _ hX)
       (first
          | (go_at_call 138
             refine (hC _).mono ?_
             rintro e w2 ⟨rfl,hx⟩
             replace hX:=hX.trans hx
             clear hx)
          | (go_at_call 139
             refine (hL _).mono ?_
             rintro e w2 ⟨rfl,hx⟩
             replace hX:=hX.trans hx
             clear hx))
       go_wp2_with fail
       go_ret
       exact⟨ret_bool (by rw [d9,Bool.true_and]),hXW.trans hX⟩
     · have d9:decide (base+C<=32768)=false:=by simpa using hc
       refine wp_region_held_drew (S:=fun w'=>(∀ i,w'.cell? ⟨w.heap.size,i,none⟩=(#[.int .i64 6,.int .i64 base,.int .i64 loc,.int .i64 n,.int .i64 wr,.int .i64 (-1),.int .i64 top]:Array Value)[i]?)/\(∀ i,w'.cell? ⟨w.heap.size+1,i,none⟩=(#[.int .i64 0,.int .i64 1099511627776,.int .i64 1,.int .i64 255,.int .i64 1,.int .i64 1099511627776,.int .i64 1048576,.int .i64 255]:Array Value)[i]?)) rfl (hS _ hX) (fun hHeld=>?_)
       refine tkb 0 ?_
       iterate 17
        refine tkn (v:=?_) rfl (by kernel_rfl) (fun _ _ _ h=>h) (by assumption) ?_ ?_
        rotate_left
        · (intro w hSw;(try dsimp only at hSw);go_simp;try with_reducible rfl)
        try simp only [put_pack]
       refine tke ?_
       refine wpAnyH_ready (rs:=[17]) (by kernel_rfl) (by simp) ?_
       refine AllReadyH.cons rfl (fun K hKK=>?_) (AllReadyH.nil)
       go_simp
       refine (hC _).mono ?_
       rintro e w2 ⟨rfl,hx⟩
       replace hX:=hX.trans hx
       clear hx
       refine hKK.out _ _ (hS _ hX) (fun hHeld=>?_)
       clear hKK K
       try dsimp only
       refine tkb 18 ?_
       iterate 4
        refine tkn (v:=?_) rfl (by kernel_rfl) (fun _ _ _ h=>h) (by assumption) ?_ ?_
        rotate_left
        · (intro w hSw;(try dsimp only at hSw);go_simp;try with_reducible rfl)
        try simp only [put_pack]
       refine tke ?_
       refine sk 22 rfl (by kernel_rfl) (fun _ _ _ h=>h) (by assumption) ?_
       try simp only [put_pack]
       refine sk 23 rfl (by kernel_rfl) (fun _ _ _ h=>h) (by assumption) ?_
       try simp only [put_pack]
       refine sk 24 rfl (by kernel_rfl) (fun _ _ _ h=>h) (by assumption) ?_
       try simp only [put_pack]
       refine sk 25 rfl (by kernel_rfl) (fun _ _ _ h=>h) (by assumption) ?_
       try simp only [put_pack]
       refine sk 26 rfl (by kernel_rfl) (fun _ _ _ h=>h) (by assumption) ?_
       try simp only [put_pack]
       refine sk 27 rfl (by kernel_rfl) (fun _ _ _ h=>h) (by assumption) ?_
       try simp only [put_pack]
       refine tk 28 (v:=?_) rfl (by kernel_rfl) (fun _ _ _ h=>h) (by assumption) ?_ ?_
       rotate_left
       · (intro w hSw;(try dsimp only at hSw);go_simp;try with_reducible rfl)
       try simp only [put_pack]
       refine tk 29 (v:=?_) rfl (by kernel_rfl) (fun _ _ _ h=>h) (by assumption) ?_ ?_
       rotate_left
       · (intro w hSw;(try dsimp only at hSw);go_simp;try with_reducible rfl)
       try simp only [put_pack]
       refine wpAnyH_done (by kernel_rfl) ?_ _
       go_wp2_with fail
       go_ret
       exact⟨ret_bool (by simp),hXW.trans hX⟩
   · have d6:decide (32768<loc)=true:=by rw [decide_eq_true_eq];omega
     have e2':decide (loc<=32768)=false:=by simpa using e2
     rw [e2',Bool.and_false,Bool.false_and,Bool.false_and]
     go_enter Tryz.func136,Tryz.ntmps136
     go_wp2_with fail
     go_ret
     exact⟨rfl,hX⟩
 · have d5:decide (32768<base)=true:=by rw [decide_eq_true_eq];omega
   have e2':decide (base<=32768)=false:=by simpa using e1
   rw [e2',Bool.false_and,Bool.false_and,Bool.false_and]
   go_enter Tryz.func136,Tryz.ntmps136
   go_wp2_with fail
   go_ret
   exact⟨rfl,hX⟩
set_option maxRecDepth 100000 in
set_option maxHeartbeats 2000000 in
theorem fine7_r (base loc n wr top C D:Int)(w:World)(hb:0<=base)(hl:0<=loc)(hn:1<=n/\n<=8)(hw:-1<=wr/\wr<n)(ht:1<=top/\top<=255)(hz:0<=C/\C<=6272/\0<=D/\D<=7072)
  (hC:∀ w,Calls Tryz.prog 138 #[.agg #[.int .i64 7,.int .i64 base,.int .i64 loc,.int .i64 n,.int .i64 wr,.int .i64 (-1),.int .i64 top]] w fun e w'=>e=.returned (.int .i64 C)/\Ext w w')
  (hL:∀ w,Calls Tryz.prog 139 #[.agg #[.int .i64 7,.int .i64 base,.int .i64 loc,.int .i64 n,.int .i64 wr,.int .i64 (-1),.int .i64 top]] w fun e w'=>e=.returned (.int .i64 D)/\Ext w w') :
  Calls Tryz.prog 136 #[.agg #[.int .i64 7,.int .i64 base,.int .i64 loc,.int .i64 n,.int .i64 wr,.int .i64 (-1),.int .i64 top]] w fun e w'=>e=.returned (.bool (decide (base<=32768)&&decide (loc<=32768)&&decide (base+C<=32768)&&decide (loc+D<=32768)))/\Ext w w':=by
 have d1:decide (base<0)=false:=by simpa using hb
 have d2:decide (loc<0)=false:=by simpa using hl
 have d3:decide (n<1)=false:=by simpa using hn.1
 have d4:decide (8<n)=false:=by simpa using hn.2
 have d7:decide (1<=top)=true:=by simpa using ht.1
 have hX:=Ext.refl w
 have b1:=Blk.new w (.cells #[.int .i64 7,.int .i64 base,.int .i64 loc,.int .i64 n,.int .i64 wr,.int .i64 (-1),.int .i64 top] 59)
 replace hX:=hX.alloc (.cells #[.int .i64 7,.int .i64 base,.int .i64 loc,.int .i64 n,.int .i64 wr,.int .i64 (-1),.int .i64 top] 59)
 have c_b1:=b1.cells
 by_cases e1:base<=32768
 · have d5:decide (32768<base)=false:=by simpa using e1
   by_cases e2:loc<=32768
   · have d6:decide (32768<loc)=false:=by simpa using e2
     have e1':decide (base<=32768)=true:=by simpa using e1
     have e2':decide (loc<=32768)=true:=by simpa using e2
     rw [e1',e2',Bool.true_and,Bool.true_and]
     clear e1' e2'
     have h1w:=IntWalk.i64_in (base+C) (by omega)
     have h2w:=IntWalk.i64_in (loc+D) (by omega)
     go_enter Tryz.func136,Tryz.ntmps136
     go_wp2_with fail
     refine (thread_any n wr false _ (by rcases Int.lt_or_le wr 0 with e | e;exact .inr ⟨by omega,rfl⟩;exact .inl ⟨e,hw.2⟩)).mono ?_
     rintro e w' ⟨rfl,rfl⟩
     go_wp2_with fail
     refine (thread_none n _).mono ?_
     rintro e w' ⟨rfl,rfl⟩
     go_wp2_with fail
     have k1:=b1.alloc (.cells #[.int .i64 0,.int .i64 1099511627776,.int .i64 1,.int .i64 255,.int .i64 1,.int .i64 1099511627776,.int .i64 1048576,.int .i64 255] 3)
     have k2:=Blk.new (w.alloc (.cells #[.int .i64 7,.int .i64 base,.int .i64 loc,.int .i64 n,.int .i64 wr,.int .i64 (-1),.int .i64 top] 59)) (.cells #[.int .i64 0,.int .i64 1099511627776,.int .i64 1,.int .i64 255,.int .i64 1,.int .i64 1099511627776,.int .i64 1048576,.int .i64 255] 3)
     have hXW:=hX.alloc (.cells #[.int .i64 0,.int .i64 1099511627776,.int .i64 1,.int .i64 255,.int .i64 1,.int .i64 1099511627776,.int .i64 1048576,.int .i64 255] 3)
     simp only [World.size_alloc] at k2
     clear b1 c_b1 hX
     generalize World.alloc (World.alloc _ _) _=W at *
     have hX:=(Ext.refl W).drew
     have hS:∀ w',Ext W w'->(∀ i,w'.cell? ⟨w.heap.size,i,none⟩=(#[.int .i64 7,.int .i64 base,.int .i64 loc,.int .i64 n,.int .i64 wr,.int .i64 (-1),.int .i64 top]:Array Value)[i]?)/\(∀ i,w'.cell? ⟨w.heap.size+1,i,none⟩=(#[.int .i64 0,.int .i64 1099511627776,.int .i64 1,.int .i64 255,.int .i64 1,.int .i64 1099511627776,.int .i64 1048576,.int .i64 255]:Array Value)[i]?):=fun w' hx=>⟨(k1.ext hx).cells,(k2.ext hx).cells⟩
     have d8:decide (top<=255)=true:=by rw [decide_eq_true_eq];omega
     by_cases hc:base+C<=32768
     · have d9:decide (base+C<=32768)=true:=by simpa using hc
       go_region_held2 (fun w'=>(∀ i,w'.cell? ⟨w.heap.size,i,none⟩=(#[.int .i64 7,.int .i64 base,.int .i64 loc,.int .i64 n,.int .i64 wr,.int .i64 (-1),.int .i64 top]:Array Value)[i]?)/\(∀ i,w'.cell? ⟨w.heap.size+1,i,none⟩=(#[.int .i64 0,.int .i64 1099511627776,.int .i64 1,.int .i64 255,.int .i64 1,.int .i64 1099511627776,.int .i64 1048576,.int .i64 255]:Array Value)[i]?)) (exact hS _ hX)
       (first
          | (go_at_call 138
             refine (hC _).mono ?_
             rintro e w2 ⟨rfl,hx⟩
             replace hX:=hX.trans hx
             clear hx)
          | (go_at_call 139
             refine (hL _).mono ?_
             rintro e w2 ⟨rfl,hx⟩
             replace hX:=hX.trans hx
             clear hx))
       go_wp2_with fail
       go_ret
       exact⟨ret_bool (by rw [d9,Bool.true_and]),hXW.trans hX⟩
     · have d9:decide (base+C<=32768)=false:=by simpa using hc
       refine wp_region_held_drew (S:=fun w'=>(∀ i,w'.cell? ⟨w.heap.size,i,none⟩=(#[.int .i64 7,.int .i64 base,.int .i64 loc,.int .i64 n,.int .i64 wr,.int .i64 (-1),.int .i64 top]:Array Value)[i]?)/\(∀ i,w'.cell? ⟨w.heap.size+1,i,none⟩=(#[.int .i64 0,.int .i64 1099511627776,.int .i64 1,.int .i64 255,.int .i64 1,.int .i64 1099511627776,.int .i64 1048576,.int .i64 255]:Array Value)[i]?)) rfl (hS _ hX) (fun hHeld=>?_)
       refine tkb 0 ?_
       iterate 17
        refine tkn (v:=?_) rfl (by kernel_rfl) (fun _ _ _ h=>h) (by assumption) ?_ ?_
        rotate_left
        · (intro w hSw;(try dsimp only at hSw);go_simp;try with_reducible rfl)
        try simp only [put_pack]
       refine tke ?_
       refine wpAnyH_ready (rs:=[17]) (by kernel_rfl) (by simp) ?_
       refine AllReadyH.cons rfl (fun K hKK=>?_) (AllReadyH.nil)
       go_simp
       refine (hC _).mono ?_
       rintro e w2 ⟨rfl,hx⟩
       replace hX:=hX.trans hx
       clear hx
       refine hKK.out _ _ (hS _ hX) (fun hHeld=>?_)
       clear hKK K
       try dsimp only
       refine tkb 18 ?_
       iterate 4
        refine tkn (v:=?_) rfl (by kernel_rfl) (fun _ _ _ h=>h) (by assumption) ?_ ?_
        rotate_left
        · (intro w hSw;(try dsimp only at hSw);go_simp;try with_reducible rfl)
        try simp only [put_pack]
       refine tke ?_
       refine sk 22 rfl (by kernel_rfl) (fun _ _ _ h=>h) (by assumption) ?_
       try simp only [put_pack]
       refine sk 23 rfl (by kernel_rfl) (fun _ _ _ h=>h) (by assumption) ?_
       try simp only [put_pack]
       refine sk 24 rfl (by kernel_rfl) (fun _ _ _ h=>h) (by assumption) ?_
       try simp only [put_pack]
       refine sk 25 rfl (by kernel_rfl) (fun _ _ _ h=>h) (by assumption) ?_
       try simp only [put_pack]
       refine sk 26 rfl (by kernel_rfl) (fun _ _ _ h=>h) (by assumption) ?_
       try simp only [put_pack]
       refine sk 27 rfl (by kernel_rfl) (fun _ _ _ h=>h) (by assumption) ?_
       try simp only [put_pack]
       refine tk 28 (v:=?_) rfl (by kernel_rfl) (fun _ _ _ h=>h) (by assumption) ?_ ?_
       rotate_left
       · (intro w hSw;(try dsimp only at hSw);go_simp;try with_reducible rfl)
       try simp only [put_pack]
       refine tk 29 (v:=?_) rfl (by kernel_rfl) (fun _ _ _ h=>h) (by assumption) ?_ ?_
       rotate_left
       · (intro w hSw;(try dsimp only at hSw);go_simp;try with_reducible rfl)
       try simp only [put_pack]
       refine wpAnyH_done (by kernel_rfl) ?_ _
       go_wp2_with fail
       go_ret
       exact⟨ret_bool (by simp),hXW.trans hX⟩
   · have d6:decide (32768<loc)=true:=by rw [decide_eq_true_eq];omega
     have e2':decide (loc<=32768)=false:=by simpa using e2
     rw [e2',Bool.and_false,Bool.false_and,Bool.false_and]
     go_enter Tryz.func136,Tryz.ntmps136
     go_wp2_with fail
     go_ret
     exact⟨rfl,hX⟩
 · have d5:decide (32768<base)=true:=by rw [decide_eq_true_eq];omega
   have e2':decide (base<=32768)=false:=by simpa using e1
   rw [e2',Bool.false_and,Bool.false_and,Bool.false_and]
   go_enter Tryz.func136,Tryz.ntmps136
   go_wp2_with fail
   go_ret
   exact⟨rfl,hX⟩
theorem fine_r (r:Reg)(w:World)(h:Drawn r):Calls Tryz.prog 136 #[encR r] w fun e w'=>e=.returned (.bool (fineM r))/\Ext w w':=by
 obtain⟨hk,hb,hl,hn,hw,hw6,hrd,ht⟩:=h
 have hC:=fun w=>cells_r r w hk hn
 have hL:=fun w=>locals_r r w hk hn
 have hz:=cells_nat r hn
 obtain⟨kind,base,loc,n,wr,rd,top⟩:=r
 simp only at hk hb hl hn hw hw6 hrd ht
 subst hrd
 unfold fineM
 rcases hk with rfl | rfl | rfl
 · exact fine1_r base loc n wr top _ _ w hb hl hn hw ht hz hC hL
 · exact fine6_r base loc n wr top _ _ w hb hl hn ⟨hw6 rfl,hw.2⟩ ht hz hC hL
 · exact fine7_r base loc n wr top _ _ w hb hl hn hw ht hz hC hL
end Go.Proofs.YtponihangpiooaaGreat
