/-
  YangPlaysSaid: part 0 of its proof.
-/
import Derived.Lib.ItoaNum
import Derived.Lib.BitFns
import Derived.Test.YtbphlkaihfbgeaaGreatProg
import Derived.WalkKit
import Derived.WalkLawsBesides
import Derived.WalkSpells
import Derived.Lib.MinMax
import Derived.Lib.Hide
import Derived.Deep.QuietTactic
import Derived.BigQuiet
import Derived.RegionTactic
import Derived.Deep.RegionWith
import Derived.Deep.LoopGhost
import Derived.ShutString
import Derived.WalkSmall
import Derived.Lib.AppendIntMem
import Derived.OrdersHeld
import Derived.Maps.AppendAt
import Derived.OneCell
import Derived.Deep.RegionLaw
import Derived.Deep.AppendLies
import Derived.Laws.AppendOwn
import Derived.OwnWalk
import Derived.WalkMore
import Derived.ScopeJumps
import Derived.Deep.RegionHeld2
namespace Kv
def within (n lo hi:Int):Int:=if n<lo then lo else if hi<n then hi else n
def clamp (n top:Int):Int:=within n 0 (within top 0 1099511627776)
def room (top:Int):Int:=within top 0 1048576
def wrapI (n top:Int):Int:=n % (clamp top 1099511627776+1)
def packI (hi lo top:Int):Int:=room hi*(room top+1)+within lo 0 (room top)
def unX (x:Int):Int:=within x 0 4398046511104
def unHi (x top:Int):Int:=unX x / (room top+1)
def unLo (x top:Int):Int:=unX x % (room top+1)
theorem within_bd (n lo hi:Int)(h:lo<=hi):lo<=within n lo hi/\within n lo hi<=hi:=by unfold within;omega
theorem clamp_bd (n top:Int):0<=clamp n top/\clamp n top<=1099511627776:=by unfold clamp within;omega
theorem room_bd (top:Int):0<=room top/\room top<=1048576:=by unfold room within;omega
theorem clamp_eq (n top:Int)(h:0<=top)(h':top<=1099511627776):clamp n top=within n 0 top:=by unfold clamp within;omega
theorem clamp_word (n:Int):clamp n 1099511627776=within n 0 1099511627776:=by unfold clamp within;omega
theorem clamp_room (n:Int):clamp n 1048576=room n:=by unfold clamp room within;omega
theorem clamp_of_room (n top:Int):clamp n (room top)=within n 0 (room top):=clamp_eq _ _ (room_bd top).1 (by have:=(room_bd top).2;omega)
theorem tmod_neg_fix (n m:Int)(hm:0<m)(h:n.tmod m<0):n.tmod m+m=n % m:=by
 have h1:=Int.tmod_eq_emod (a:=n) (b:=m)
 by_cases h0:0<=n
 · have:=Int.tmod_nonneg m h0;omega
 · rw [h1]
   have hd:¬ m ∣ n:=by
    intro hd
    have:n.tmod m=0:=Int.tmod_eq_zero_of_dvd hd
    omega
   rw [if_neg (by simp [h0,hd])]
   have:=Int.natAbs_of_nonneg (Int.le_of_lt hm)
   omega
theorem tmod_pos_fix (n m:Int)(hm:0<m)(h:0<=n.tmod m):n.tmod m=n % m:=by
 have h1:=Int.tmod_eq_emod (a:=n) (b:=m)
 have h2:=Int.emod_lt_of_pos n hm
 have h3:=Int.natAbs_of_nonneg (Int.le_of_lt hm)
 rw [h1]
 rw [h1] at h
 split at h <;> rename_i h'
 · rw [if_pos h'];omega
 · omega
theorem wrapI_bd (n top:Int):0<=wrapI n top/\wrapI n top<=clamp top 1099511627776:=by
 unfold wrapI
 have:=clamp_bd top 1099511627776
 have h1:=Int.emod_nonneg n (b:=clamp top 1099511627776+1) (by omega)
 have h2:=Int.emod_lt_of_pos n (b:=clamp top 1099511627776+1) (by omega)
 omega
theorem unX_bd (x:Int):0<=unX x/\unX x<=4398046511104:=by unfold unX within;omega
def levelsFrom (n:Nat):Nat->Nat->Nat
 | 0,_=>0
 | f+1,p=>if p<n then levelsFrom n f (2*p)+1 else 0
def levels (n:Int):Nat:=levelsFrom n.toNat 64 1
theorem levelsFrom_scale:∀ (f n p:Nat),levelsFrom (n+1) f (2*p)=levelsFrom (n / 2+1) f p
 | 0,_,_=>rfl
 | f+1,n,p=>by
   simp only [levelsFrom]
   have h:(2*p<n+1)=(p<n / 2+1):=by apply propext;omega
   have ih:=levelsFrom_scale f n (2*p)
   by_cases hp:p<n / 2+1
   · rw [if_pos hp,if_pos (by rw [h];exact hp),ih]
   · rw [if_neg hp,if_neg (by rw [h];exact hp)]
theorem levelsFrom_bitLen:∀ (f n:Nat),levelsFrom (n+1) f 1=Go.Lib.bitLenAux f n
 | 0,_=>rfl
 | f+1,n=>by
   simp only [levelsFrom,Go.Lib.bitLenAux]
   by_cases h:n=0
   · subst h;simp
   · rw [if_pos (by omega),if_neg h]
     have h2:=levelsFrom_scale f n 1
     rw [h2,levelsFrom_bitLen f (n / 2),Nat.add_comm]
theorem levels_bitLen (n:Int)(h:1<n):(levels n)=Go.Lib.bitLen (n-1).toNat:=by
 unfold levels Go.Lib.bitLen
 have:=levelsFrom_bitLen 64 (n-1).toNat
 rw [<- this]
 congr 1
 omega
theorem levels_small (n:Int)(h:n<=1):levels n=0:=by
 show (if 1<n.toNat then _ else 0)=0
 rw [if_neg (by omega)]
end Kv
namespace Go.Proofs.YtbphlkaihfbgeaaGreat
open Go.RowKit Kv
@[go_sem high] theorem run_min_ints3 {P:Program} (w:World) (ts:Array TypeId) (t:TypeId) (k k' k'':IntKind) (x y z:Int) :
  (Builtin.min_ ts t #[.int k x,.int k' y,.int k'' z]).run P w=.ok (.int k (min (min x y) z)) w:=by
 have e:∀ a b:Int,(if b<a then b else a)=min a b:=by intro a b;rw [Int.min_def];split <;> split <;> omega
 simp [Builtin.min_,Builtin.min2,e]
theorem ret_int {k:IntKind}{a b:Int}(h:a=b):Ending.returned (.int k a)=.returned (.int k b):=by rw [h]
theorem ret_int2 {k:IntKind}{a b c d:Int}(h:a=b)(h':c=d):Ending.returned (.tuple #[.int k a,.int k c])=.returned (.tuple #[.int k b,.int k d]):=by rw [h,h']
theorem ret_bool {a b:Bool}(h:a=b):Ending.returned (.bool a)=.returned (.bool b):=by rw [h]
theorem w64 (x:Int)(h:-9223372036854775808<=x)(h':x<=9223372036854775807):wrap64 x=x:=by unfold wrap64;omega
def Drew (w w':World):Prop:=∃ n,w'=w.drewN n
theorem Drew.rfl' (w:World):Drew w w:=⟨0,rfl⟩
theorem Drew.mk' (w:World)(n:Nat):Drew w (w.drewN n):=⟨n,rfl⟩
theorem Drew.trans {a b c:World}(h:Drew a b)(k:Drew b c):Drew a c:=by
 obtain⟨n,rfl⟩:=h
 obtain⟨m,rfl⟩:=k
 exact⟨n+m,by simp⟩
theorem Drew.below {w w':World}(B:Nat)(h:Drew w w'):Below B w w':=by
 obtain⟨n,rfl⟩:=h
 exact⟨rfl,rfl,rfl,Nat.le_refl _,fun _ _=>rfl⟩
def Ext (w w':World):Prop:=Below w.heap.size w w'
theorem Ext.refl (w:World):Ext w w:=Below.refl _ _
theorem Ext.size {w w':World}(h:Ext w w'):w.heap.size<=w'.heap.size:=Below.size h
theorem Ext.trans {a b c:World}(h:Ext a b)(k:Ext b c):Ext a c:=Below.trans h (Below.mono k (Ext.size h))
theorem Ext.drewN {a b:World}(h:Ext a b)(n:Nat):Ext a (b.drewN n):=Below.trans h ⟨rfl,rfl,rfl,Nat.le_refl _,fun _ _=>rfl⟩
theorem Ext.drew {a b:World}(h:Ext a b):Ext a b.drew:=Below.drew h
theorem Ext.alloc {a b:World}(h:Ext a b)(o:Obj):Ext a (b.alloc o):=Below.alloc h (Ext.size h) o
theorem Ext.setCell {a b:World}(h:Ext a b){p:Addr}(hp:a.heap.size<=p.block)(u:Value):Ext a (b.setCell p u):=Below.setCell h hp u
theorem Drew.ext {w w':World}(h:Drew w w'):Ext w w':=Drew.below _ h
theorem Ext.cell {w w':World}(h:Ext w w'){p:Addr}(hp:p.block<w.heap.size):w'.cell? p=w.cell? p:=Below.cell h hp
end Go.Proofs.YtbphlkaihfbgeaaGreat
namespace Go.Proofs.YtbphlkaihfbgeaaGreat
open Go.RowKit
theorem tk {P:Program}{ops:Array Oper}{Q:Exit->Act->World->Prop}{md:Region.Mode}{S:World->Prop}(i:Nat){oi:Oper}{v:Value}{fuel:Nat}{listed:Array Bool}{a:Act}{w:World}(hi:ops[i]?=some oi)
  (hc:(Region.noSelect ops&&Region.free md ops listed i&&(Region.ready md ops listed).contains i&&Region.wanted oi (yielded ops a.tmps))=true)
  (hQ:∀ c a w,Q (.panic c) (a.put oi.dst v) w->Q (.panic c) a w)(hS:S w)(hy:∀ w,S w->(execOp a.eval oi).run P w=.ok (.value v) w)
  (h:wpAnyH P md ops Q S fuel (listed.setIfInBounds i true) (a.put oi.dst v) w):wpAnyH P md ops Q S (fuel+1) listed a w:=by
 simp only [Bool.and_eq_true] at hc
 exact wpAnyH_take hi hc.1.1.1 hc.1.1.2 hc.1.2 hQ (Or.inl ⟨hc.2,hy⟩) hS h
def AnyN (_:Nat) (p:Prop):Prop:=p
theorem tkb {p:Prop}(i:Nat)(h:AnyN i p):p:=h
theorem tke {p:Prop}{i:Nat}(h:p):AnyN i p:=h
theorem tkn {P:Program}{ops:Array Oper}{Q:Exit->Act->World->Prop}{md:Region.Mode}{S:World->Prop}{i:Nat}{oi:Oper}{v:Value}{fuel:Nat}{listed:Array Bool}{a:Act}{w:World}(hi:ops[i]?=some oi)
  (hc:(Region.noSelect ops&&Region.free md ops listed i&&(Region.ready md ops listed).contains i&&Region.wanted oi (yielded ops a.tmps))=true)
  (hQ:∀ c a w,Q (.panic c) (a.put oi.dst v) w->Q (.panic c) a w)(hS:S w)(hy:∀ w,S w->(execOp a.eval oi).run P w=.ok (.value v) w)
  (h:AnyN (i+1) (wpAnyH P md ops Q S fuel (listed.setIfInBounds i true) (a.put oi.dst v) w)):AnyN i (wpAnyH P md ops Q S (fuel+1) listed a w):=tk i hi hc hQ hS hy h
theorem sk {P:Program}{ops:Array Oper}{Q:Exit->Act->World->Prop}{md:Region.Mode}{S:World->Prop}(i:Nat){oi:Oper}{fuel:Nat}{listed:Array Bool}{a:Act}{w:World}(hi:ops[i]?=some oi)
  (hc:(Region.noSelect ops&&Region.free md ops listed i&&(Region.ready md ops listed).contains i&&!Region.wanted oi (yielded ops a.tmps))=true)
  (hQ:∀ c a w,Q (.panic c) (a.put oi.dst undef) w->Q (.panic c) a w)(hS:S w)
  (h:wpAnyH P md ops Q S fuel (listed.setIfInBounds i true) (a.put oi.dst undef) w):wpAnyH P md ops Q S (fuel+1) listed a w:=by
 simp only [Bool.and_eq_true,Bool.not_eq_true'] at hc
 exact wpAnyH_take hi hc.1.1.1 hc.1.1.2 hc.1.2 hQ (Or.inr ⟨hc.2,rfl⟩) hS h
end Go.Proofs.YtbphlkaihfbgeaaGreat
namespace Kv
structure Acc where
 kind:Int
 cell:Int
 val:Int
structure Nt where
 kind:Int
 pos:Int
structure TS where
 ans:List Int
 acc:List Acc
 nts:List Nt
 loc:Nat->Int
inductive Prog (α:Type):Type where
 | ret (a:α):Prog α
 | read (c:Int) (k:Int->Prog α):Prog α
 | write (c v:Int) (k:Unit->Prog α):Prog α
 | get (i:Int) (k:Int->Prog α):Prog α
 | set (i v:Int) (k:Unit->Prog α):Prog α
 | note (n:Int) (k:Unit->Prog α):Prog α
namespace Prog
def bind {α β:Type}:Prog α->(α->Prog β)->Prog β
 | ret a,f=>f a
 | read c k,f=>read c fun x=>(k x).bind f
 | write c v k,f=>write c v fun x=>(k x).bind f
 | get i k,f=>get i fun x=>(k x).bind f
 | set i v k,f=>set i v fun x=>(k x).bind f
 | note n k,f=>note n fun x=>(k x).bind f
theorem bind_ret {α β:Type}(a:α)(f:α->Prog β):(ret a).bind f=f a:=rfl
theorem bind_id {α:Type}:∀ p:Prog α,p.bind ret=p
 | ret _=>rfl
 | read c k=>by simp only [bind];congr 1;funext x;exact bind_id (k x)
 | write c v k=>by simp only [bind];congr 1;funext x;exact bind_id (k x)
 | get c k=>by simp only [bind];congr 1;funext x;exact bind_id (k x)
 | set c v k=>by simp only [bind];congr 1;funext x;exact bind_id (k x)
 | note c k=>by simp only [bind];congr 1;funext x;exact bind_id (k x)
theorem bind_assoc {α β γ:Type}(f:α->Prog β)(g:β->Prog γ):∀ p:Prog α,(p.bind f).bind g=p.bind fun x=>(f x).bind g
 | ret _=>rfl
 | read c k=>by simp only [bind];congr 1;funext x;exact bind_assoc f g (k x)
 | write c v k=>by simp only [bind];congr 1;funext x;exact bind_assoc f g (k x)
 | get c k=>by simp only [bind];congr 1;funext x;exact bind_assoc f g (k x)
 | set c v k=>by simp only [bind];congr 1;funext x;exact bind_assoc f g (k x)
 | note c k=>by simp only [bind];congr 1;funext x;exact bind_assoc f g (k x)
end Prog
def rd (c:Int):Prog Int:=.read c .ret
def wr (c v:Int):Prog Unit:=.write c v .ret
def gt (i:Int):Prog Int:=.get i .ret
def st (i v:Int):Prog Unit:=.set i v .ret
def TS.put (S:TS) (a:Acc):TS:={ S with acc:=S.acc++[a] }
def TS.noted (S:TS) (n:Int):TS:={ S with nts:=S.nts++[⟨n,(S.acc.length:Int)⟩] }
def TS.next (S:TS):Option Int:=S.ans[S.acc.length]?
def TS.got (S:TS) (i:Int):Int:=if i<0 then 0 else S.loc i.toNat
def TS.upd (S:TS) (i v:Int):TS :=
 if 0<=i/\i<32768 then { S with loc:=fun j=>if j=i.toNat then v else S.loc j } else S
def Prog.run {α:Type}:Prog α->TS->Option α × TS
 | .ret a,S=>(some a,S)
 | .read c k,S=>match S.next with
   | some v=>(k v).run (S.put ⟨1,c,0⟩)
   | none=>(none,S.put ⟨1,c,0⟩)
 | .write c v k,S=>match S.next with
   | some _=>(k ()).run (S.put ⟨2,c,v⟩)
   | none=>(none,S.put ⟨2,c,v⟩)
 | .get i k,S=>(k (S.got i)).run S
 | .set i v k,S=>(k ()).run (S.upd i v)
 | .note n k,S=>(k ()).run (S.noted n)
def thenR {α β:Type} (r:Option α × TS) (f:α->Prog β):Option β × TS :=
 match r with
 | (some a,S1)=>(f a).run S1
 | (none,S1)=>(none,S1)
theorem Prog.run_bind {α β:Type}(f:α->Prog β):∀ (p:Prog α) (S:TS),(p.bind f).run S=thenR (p.run S) f
 | .ret a,S=>rfl
 | .read c k,S=>by
   simp only [Prog.bind,Prog.run]
   cases S.next with
   | none=>rfl
   | some v=>exact run_bind f (k v) _
 | .write c v k,S=>by
   simp only [Prog.bind,Prog.run]
   cases S.next with
   | none=>rfl
   | some _=>exact run_bind f (k ()) _
 | .get i k,S=>run_bind f (k _) _
 | .set i v k,S=>run_bind f (k ()) _
 | .note n k,S=>run_bind f (k ()) _
theorem Prog.run_bind_some {α β:Type}{p:Prog α}{f:α->Prog β}{S S1:TS}{a:α}(h:p.run S=(some a,S1)):(p.bind f).run S=(f a).run S1:=by
 rw [run_bind,h];rfl
theorem Prog.run_bind_none {α β:Type}{p:Prog α}{f:α->Prog β}{S S1:TS}(h:p.run S=(none,S1)):(p.bind f).run S=(none,S1):=by
 rw [run_bind,h];rfl
theorem TS.upd_ans (S:TS)(i v:Int):(S.upd i v).ans=S.ans:=by unfold TS.upd;split <;> rfl
theorem TS.upd_acc (S:TS)(i v:Int):(S.upd i v).acc=S.acc:=by unfold TS.upd;split <;> rfl
theorem TS.upd_nts (S:TS)(i v:Int):(S.upd i v).nts=S.nts:=by unfold TS.upd;split <;> rfl
theorem Prog.run_ans {α:Type}:∀ (p:Prog α) (S:TS),(p.run S).2.ans=S.ans
 | .ret a,S=>rfl
 | .read c k,S=>by
   simp only [Prog.run]
   cases S.next with
   | none=>rfl
   | some v=>exact run_ans (k v) _
 | .write c v k,S=>by
   simp only [Prog.run]
   cases S.next with
   | none=>rfl
   | some _=>exact run_ans (k ()) _
 | .get i k,S=>run_ans (k _) _
 | .set i v k,S=>(run_ans (k ()) _).trans (TS.upd_ans S i v)
 | .note n k,S=>run_ans (k ()) _
theorem Prog.run_acc {α:Type}:∀ (p:Prog α) (S:TS),∃ l,(p.run S).2.acc=S.acc++l
 | .ret a,S=>⟨[],by simp [Prog.run]⟩
 | .read c k,S=>by
   simp only [Prog.run]
   cases S.next with
   | none=>exact⟨_,rfl⟩
   | some v =>
     obtain⟨l,h⟩:=run_acc (k v) (S.put ⟨1,c,0⟩)
     exact⟨⟨1,c,0⟩ :: l,by rw [h];simp [TS.put]⟩
 | .write c v k,S=>by
   simp only [Prog.run]
   cases S.next with
   | none=>exact⟨_,rfl⟩
   | some _ =>
     obtain⟨l,h⟩:=run_acc (k ()) (S.put ⟨2,c,v⟩)
     exact⟨⟨2,c,v⟩ :: l,by rw [h];simp [TS.put]⟩
 | .get i k,S=>run_acc (k _) _
 | .set i v k,S=>by
   obtain⟨l,h⟩:=run_acc (k ()) (S.upd i v)
   exact⟨l,by rw [<- TS.upd_acc S i v];exact h⟩
 | .note n k,S=>run_acc (k ()) (S.noted n)
inductive Prog.Notes {α:Type}:Prog α->Nat->Prop
 | ret (a:α) (n:Nat):Notes (.ret a) n
 | read (c:Int) {k:Int->Prog α} {n:Nat}:(∀ x,Notes (k x) n)->Notes (.read c k) n
 | write (c v:Int) {k:Unit->Prog α} {n:Nat}:Notes (k ()) n->Notes (.write c v k) n
 | get (i:Int) {k:Int->Prog α} {n:Nat}:(∀ x,Notes (k x) n)->Notes (.get i k) n
 | set (i v:Int) {k:Unit->Prog α} {n:Nat}:Notes (k ()) n->Notes (.set i v k) n
 | note (m:Int) {k:Unit->Prog α} {n:Nat}:Notes (k ()) n->Notes (.note m k) (n+1)
theorem Prog.Notes.mono {α:Type}{p:Prog α}{n:Nat}(h:p.Notes n):∀ {m},n<=m->p.Notes m:=by
 induction h with
 | ret a n=>intro m _;exact .ret a m
 | read c _ ih=>intro m hm;exact .read c fun x=>ih x hm
 | write c v _ ih=>intro m hm;exact .write c v (ih hm)
 | get c _ ih=>intro m hm;exact .get c fun x=>ih x hm
 | set c v _ ih=>intro m hm;exact .set c v (ih hm)
 | note k _ ih =>
   intro m hm
   cases m with
   | zero=>omega
   | succ m=>exact .note k (ih (by omega))
theorem Prog.Notes.bind {α β:Type}{p:Prog α}{f:α->Prog β}{n m:Nat}(h:p.Notes n)(hf:∀ a,(f a).Notes m):(p.bind f).Notes (n+m):=by
 induction h with
 | ret a n=>exact (hf a).mono (by omega)
 | read c _ ih=>exact .read c fun x=>ih x
 | write c v _ ih=>exact .write c v ih
 | get c _ ih=>exact .get c fun x=>ih x
 | set c v _ ih=>exact .set c v ih
 | @note k _ n _ ih=>rw [show n+1+m=(n+m)+1 from by omega];exact .note k ih
theorem Prog.Notes.bind0 {α β:Type}{p:Prog α}{f:α->Prog β}{m:Nat}(h:p.Notes 0)(hf:∀ a,(f a).Notes m):(p.bind f).Notes m:=by
 have:=h.bind hf;rwa [Nat.zero_add] at this
theorem notes_rd (c:Int):(rd c).Notes 0:=.read c fun x=>.ret x 0
theorem notes_wr (c v:Int):(wr c v).Notes 0:=.write c v (.ret () 0)
theorem notes_gt (c:Int):(gt c).Notes 0:=.get c fun x=>.ret x 0
theorem notes_st (c v:Int):(st c v).Notes 0:=.set c v (.ret () 0)
theorem Prog.Notes.run {α:Type}{p:Prog α}{n:Nat}(h:p.Notes n):∀ S:TS,(p.run S).2.nts.length<=S.nts.length+n:=by
 induction h with
 | ret a n=>intro S;simp [Prog.run]
 | read c _ ih =>
   intro S
   simp only [Prog.run]
   cases S.next with
   | none=>simp [TS.put]
   | some v=>exact ih v _
 | write c v _ ih =>
   intro S
   simp only [Prog.run]
   cases S.next with
   | none=>simp [TS.put]
   | some _=>exact ih _
 | get i _ ih=>intro S;exact ih _ _
 | set i v _ ih=>intro S;have:=ih (S.upd i v);rw [TS.upd_nts] at this;exact this
 | note k _ ih =>
   intro S
   have h1:=ih (S.noted k)
   have h2:(S.noted k).nts.length=S.nts.length+1:=by simp [TS.noted]
   simp only [Prog.run]
   omega
inductive Ref {α:Type} (p:Prog α):Bool->TS->α->Bool->TS->Prop
 | over (S:TS) (a:α):Ref p true S a true S
 | done {S S1:TS} {a:α}:p.run S=(some a,S1)->Ref p false S a false S1
 | stop {S S1:TS} (a:α):p.run S=(none,S1)->Ref p false S a true S1
theorem Ref.bind {α β:Type}{p:Prog α}{f:α->Prog β}{o o1 o2:Bool}{S S1 S2:TS}{a:α}{b:β}
  (h:Ref p o S a o1 S1)(k:Ref (f a) o1 S1 b o2 S2):Ref (p.bind f) o S b o2 S2:=by
 cases h with
 | over=>cases k;exact .over _ _
 | done h =>
   cases k with
   | done k=>exact .done ((Prog.run_bind_some h).trans k)
   | stop _ k=>exact .stop _ ((Prog.run_bind_some h).trans k)
 | stop _ h=>cases k;exact .stop _ (Prog.run_bind_none h)
theorem Ref.ret {α:Type}(a:α)(o:Bool)(S:TS):Ref (.ret a) o S a o S:=by
 cases o with
 | true=>exact .over _ _
 | false=>exact .done rfl
theorem Ref.any {α β:Type}{p:Prog α}{S S':TS}{a:α}{o:Bool}(h:Ref p true S a o S')(q:Prog β)(b:β):Ref q true S b o S':=by
 cases h;exact .over _ _
def TS.told (S:TS) (v:Int) (a:Acc):TS:={ S with ans:=S.ans++[v],acc:=S.acc++[a] }
inductive Sol {α:Type}:Prog α->TS->List Int->Nat->Prog α->TS->List Int->Prop
 | refl (T:Prog α) (S:TS) (M:List Int):Sol T S M 0 T S M
 | read (c:Nat) {k:Int->Prog α} {S:TS} {M:List Int} {v:Int} {n:Nat} {T':Prog α} {S':TS} {M':List Int} (h:M[c]?=some v) (t:Sol (k v) (S.told v ⟨1,c,0⟩) M n T' S' M'):Sol (.read c k) S M (n+1) T' S' M'
 | write (c:Nat) (v:Int) {k:Unit->Prog α} {S:TS} {M:List Int} {n:Nat} {T':Prog α} {S':TS} {M':List Int} (h:c<M.length) (t:Sol (k ()) (S.told v ⟨2,c,v⟩) (M.set c v) n T' S' M'):Sol (.write c v k) S M (n+1) T' S' M'
 | get (i:Int) {k:Int->Prog α} {S:TS} {M:List Int} {n:Nat} {T':Prog α} {S':TS} {M':List Int} (t:Sol (k (S.got i)) S M n T' S' M'):Sol (.get i k) S M n T' S' M'
 | set (i v:Int) {k:Unit->Prog α} {S:TS} {M:List Int} {n:Nat} {T':Prog α} {S':TS} {M':List Int} (t:Sol (k ()) (S.upd i v) M n T' S' M'):Sol (.set i v k) S M n T' S' M'
 | note (m:Int) {k:Unit->Prog α} {S:TS} {M:List Int} {n:Nat} {T':Prog α} {S':TS} {M':List Int} (t:Sol (k ()) (S.noted m) M n T' S' M'):Sol (.note m k) S M n T' S' M'
namespace Sol
theorem trans {α:Type}{T T1 T2:Prog α}{S S1 S2:TS}{M M1 M2:List Int}{n m:Nat}(h:Sol T S M n T1 S1 M1)(g:Sol T1 S1 M1 m T2 S2 M2):Sol T S M (n+m) T2 S2 M2:=by
 induction h with
 | refl T S M=>rw [Nat.zero_add];exact g
 | read c h _ ih=>rw [Nat.add_right_comm];exact .read c h (ih g)
 | write c v h _ ih=>rw [Nat.add_right_comm];exact .write c v h (ih g)
 | get i _ ih=>exact .get i (ih g)
 | set i v _ ih=>exact .set i v (ih g)
 | note m _ ih=>exact .note m (ih g)
theorem bindl {α β:Type}{T T1:Prog α}{S S1:TS}{M M1:List Int}{n:Nat}(h:Sol T S M n T1 S1 M1)(f:α->Prog β):Sol (T.bind f) S M n (T1.bind f) S1 M1:=by
 induction h with
 | refl T S M=>exact .refl _ _ _
 | read c h _ ih=>exact .read c h ih
 | write c v h _ ih=>exact .write c v h ih
 | get i _ ih=>exact .get i ih
 | set i v _ ih=>exact .set i v ih
 | note m _ ih=>exact .note m ih
theorem bind {α β:Type}{T:Prog α}{a:α}{f:α->Prog β}{T2:Prog β}{S S1 S2:TS}{M M1 M2:List Int}{n m:Nat}(h:Sol T S M n (.ret a) S1 M1)(g:Sol (f a) S1 M1 m T2 S2 M2):Sol (T.bind f) S M (n+m) T2 S2 M2:=(h.bindl f).trans g
theorem len {α:Type}{T T1:Prog α}{S S1:TS}{M M1:List Int}{n:Nat}(h:Sol T S M n T1 S1 M1):S1.acc.length=S.acc.length+n/\S1.ans.length=S.ans.length+n:=by
 induction h with
 | refl T S M=>exact⟨rfl,rfl⟩
 | read c h _ ih=>simp only [TS.told,List.length_append,List.length_cons,List.length_nil] at ih;omega
 | write c v h _ ih=>simp only [TS.told,List.length_append,List.length_cons,List.length_nil] at ih;omega
 | get i _ ih=>exact ih
 | set i v _ ih=>rw [TS.upd_acc,TS.upd_ans] at ih;exact ih
 | note m _ ih=>exact ih
end Sol
theorem Sol.pre {α:Type}{T T1:Prog α}{S S1:TS}{M M1:List Int}{n:Nat}(h:Sol T S M n T1 S1 M1):∃ x,S1.ans=S.ans++x:=by
 induction h with
 | refl T S M=>exact⟨[],by simp⟩
 | read c h _ ih=>obtain⟨x,e⟩:=ih;exact⟨_ :: x,by rw [e];simp [TS.told];rfl⟩
 | write c v h _ ih=>obtain⟨x,e⟩:=ih;exact⟨_ :: x,by rw [e];simp [TS.told];rfl⟩
 | get i _ ih=>exact ih
 | set i v _ ih=>rw [TS.upd_ans] at ih;exact ih
 | note m _ ih=>exact ih
def Res {α:Type} (T:Prog α) (S:TS) (T':Prog α) (S':TS):Prop:=∀ x,T.run { S with ans:=S'.ans++x }=T'.run { S' with ans:=S'.ans++x }
theorem upd_with (S:TS)(l:List Int)(i v:Int):({ S with ans:=l }:TS).upd i v={ S.upd i v with ans:=l }:=by
 unfold TS.upd
 split <;> rfl
theorem Sol.stop {α:Type}{T T':Prog α}{S S':TS}{M M':List Int}{a:α}{n:Nat}(h:Sol T S M n T' S' M')(hn:n=0)(ha:T'=.ret a):T.run S=(some a,S')/\M'=M:=by
 induction h with
 | refl T S M=>subst ha;exact⟨rfl,rfl⟩
 | read c h _ ih=>omega
 | write c v h _ ih=>omega
 | get i _ ih=>exact ih hn ha
 | set i v _ ih=>exact ih hn ha
 | note m _ ih=>exact ih hn ha
theorem Sol.next {α:Type}{T T':Prog α}{S S':TS}{M M':List Int}{n:Nat}(h:Sol T S M n T' S' M'):∀ m,n=m+1->S.ans.length=S.acc.length->∃ (c:Nat) (a:Acc) (v:Int) (T1:Prog α) (S1 S2:TS) (M1:List Int),a.cell=c/\c<M.length /\
  (a.kind=1/\M1=M∨a.kind=2/\M1=M.set c a.val)/\M1[c]?=some v/\T.run S=(none,S1)/\S1.acc=S.acc++[a]/\S2.ans=S.ans++[v]/\S2.acc=S.acc++[a]/\Sol T1 S2 M1 m T' S' M'/\Res T S T1 S2:=by
 induction h with
 | refl T S M=>intro m h;omega
 | @read c k S M v n T' S' M' h t ih =>
   intro m hm hl
   have hnx:S.next=none:=by unfold TS.next;rw [List.getElem?_eq_none (by omega)]
   refine⟨c,⟨1,c,0⟩,v,k v,S.put ⟨1,c,0⟩,S.told v ⟨1,c,0⟩,M,rfl,(List.getElem?_eq_some_iff.1 h).1,.inl ⟨rfl,rfl⟩,h,?_,rfl,rfl,rfl,?_,?_⟩
   · simp only [Prog.run,hnx]
   · obtain rfl:n=m:=by omega
     exact t
   · intro x
     have hnx:({ S with ans:=(S.told v ⟨1,c,0⟩).ans++x }:TS).next=some v:=by
      unfold TS.next
      simp only [TS.told,List.append_assoc]
      rw [List.getElem?_append_right (by omega),<- hl,Nat.sub_self]
      rfl
     simp only [Prog.run,hnx]
     rfl
 | @write c v k S M n T' S' M' h t ih =>
   intro m hm hl
   have hnx:S.next=none:=by unfold TS.next;rw [List.getElem?_eq_none (by omega)]
   refine⟨c,⟨2,c,v⟩,v,k (),S.put ⟨2,c,v⟩,S.told v ⟨2,c,v⟩,M.set c v,rfl,h,.inr ⟨rfl,rfl⟩,by simp [h],?_,rfl,rfl,rfl,?_,?_⟩
   · simp only [Prog.run,hnx]
   · obtain rfl:n=m:=by omega
     exact t
   · intro x
     have hnx:({ S with ans:=(S.told v ⟨2,c,v⟩).ans++x }:TS).next=some v:=by
      unfold TS.next
      simp only [TS.told,List.append_assoc]
      rw [List.getElem?_append_right (by omega),<- hl,Nat.sub_self]
      rfl
     simp only [Prog.run,hnx]
     rfl
 | get i t ih=>intro m hm hl;exact ih m hm hl
 | @set i v k S M n T' S' M' t ih =>
   intro m hm hl
   obtain⟨c,a,u,T1,S1,S2,M1,h1,h2,h3,h4,h5,h6,h7,h8,h9,h10⟩:=ih m hm (by rw [TS.upd_acc,TS.upd_ans];exact hl)
   rw [TS.upd_acc] at h6 h8
   rw [TS.upd_ans] at h7
   refine⟨c,a,u,T1,S1,S2,M1,h1,h2,h3,h4,h5,h6,h7,h8,h9,fun x=>?_⟩
   have:=h10 x
   rw [<- upd_with] at this
   exact this
 | note q t ih=>intro m hm hl;exact ih m hm hl
theorem Res.refl {α:Type}(T:Prog α)(S:TS):Res T S T S:=fun _=>rfl
theorem Res.trans {α:Type}{T T1 T2:Prog α}{S S1 S2:TS}{v:Int}(h:Res T S T1 S1)(g:Res T1 S1 T2 S2)(hv:S2.ans=S1.ans++[v]):Res T S T2 S2:=fun x=>by
 have:=h (v :: x)
 rw [<- g x,hv,List.append_assoc]
 exact this
theorem Res.now {α:Type}{T T':Prog α}{S S':TS}(h:Res T S T' S'):T.run { S with ans:=S'.ans }=T'.run S':=by
 have:=h []
 rw [List.append_nil] at this
 exact this
end Kv
namespace Go.Proofs.YtbphlkaihfbgeaaGreat
open Go.RowKit Kv
def Ints (w:World) (v:Value) (l:List Int):Prop :=
 ∃ A c,v=.slice A l.length c/\l.length<=c/\c<=9223372036854775807/\(l≠[]->∃ b off,A=some ⟨b,off,none⟩/\b<w.heap.size/\∀ i x,l[i]?=some x->w.cell? ⟨b,off+i,none⟩=some (.int .i64 x))
theorem Ints.ext {w w':World}{v:Value}{l:List Int}(h:Ints w v l)(hx:Ext w w'):Ints w' v l:=by
 obtain⟨A,c,rfl,h1,h2,h3⟩:=h
 refine⟨A,c,rfl,h1,h2,fun hl=>?_⟩
 obtain⟨b,off,rfl,hb,hc⟩:=h3 hl
 exact⟨b,off,rfl,Nat.lt_of_lt_of_le hb (Ext.size hx),fun i x hi=>(Ext.cell hx (p:=⟨b,off+i,none⟩) hb).trans (hc i x hi)⟩
theorem Ints.nil (w:World):Ints w (.slice none 0 0) []:=⟨none,0,rfl,by simp,by omega,fun h=>absurd rfl h⟩
theorem Ints.at_ {w:World}{A:Option Addr}{n c:Nat}{l:List Int}(h:Ints w (.slice A n c) l){i:Nat}(hi:i<n) :
  ∃ b off,A=some ⟨b,off,none⟩/\b<w.heap.size/\w.cell? ⟨b,off+i,none⟩=some (.int .i64 (l.getD i 0)):=by
 obtain⟨A',c',he,h1,h2,h3⟩:=h
 injection he with e1 e2 e3
 subst e1 e2 e3
 have hl:l≠[]:=by rintro rfl;simp at hi
 obtain⟨b,off,rfl,hb,hc⟩:=h3 hl
 refine⟨b,off,rfl,hb,?_⟩
 have:l[i]?=some (l.getD i 0):=by simp [List.getD,List.getElem?_eq_getElem hi]
 exact hc i _ this
theorem Ints.slice {w:World}{v:Value}{l:List Int}(h:Ints w v l):∃ A c,v=.slice A l.length c/\l.length<=c/\c<=9223372036854775807:=by
 obtain⟨A,c,rfl,h1,h2,_⟩:=h
 exact⟨A,c,rfl,h1,h2⟩
def IntRow (w:World) (base:Nat) (v:Value) (l:List Int):Prop:=w.ownsRow base 3 1 v l.length (l.map (Value.int .i64))
theorem IntRow.nil (w:World)(base:Nat):IntRow w base (.slice none 0 0) []:=World.ownsRow_nil _ _ _ _
theorem IntRow.ints {w:World}{base:Nat}{v:Value}{l:List Int}(h:IntRow w base v l):Ints w v l:=by
 have h':=h
 obtain⟨hl,h2⟩:=h
 rcases h2 with⟨rfl,h0⟩ | ⟨g,cap,cur,rfl,hg,hh,hn,hm,hs,ht⟩
 · obtain rfl:l=[]:=List.eq_nil_of_length_eq_zero h0
   exact Ints.nil w
 · refine⟨_,_,rfl,hn,by unfold maxLen at hm;exact hm,fun _=>⟨g,0,rfl,?_,fun i x hi=>?_⟩⟩
   · rcases Nat.lt_or_ge g w.heap.size with hlt | hge
     · exact hlt
     · rw [Array.getElem?_eq_none hge] at hh;cases hh
   · have hc:=World.ownsRow.cells h' (g:=g) rfl i (.int .i64 x) (by rw [List.getElem?_map,hi];rfl)
     rw [Addr.add_lit] at hc
     exact hc
theorem info_int:(Tryz.prog.info? 3).map (fun i=>(i.zero,i.size,i.bytes))=some (some (.int .i64 0),1,8):=by kernel_rfl
theorem append_int {ops:Array Oper}{rest:List Oper}{o:Oper}{a:Act}{Q:Exit->Act->World->Prop}{w:World}(hgd:o.guard=none)(s x:Operand)
  (ho:o.op=.call { callee:=.builtin .append,args:=#[s,x],argTypes:=#[22,22] })
  (base:Nat)(v:Value)(l:List Int)(y:Int)(hown:IntRow w base v l)(hs:a.eval s=v)(hx:a.eval x=.slice (some ⟨w.heap.size,0,none⟩) 1 1)
  (hlen:l.length<1000000000000)(hbase:base<=w.heap.size)
  (h:∀ v' w',IntRow w' base v' (l++[y])->(w.alloc (.cells #[.int .i64 y] 3)).grownBy w' v.ownBlock->wpList Tryz.prog ops Q rest (a.put o.dst v') w') :
  wpList Tryz.prog ops Q (o :: rest) a (w.alloc (.cells #[.int .i64 y] 3)):=by
 obtain⟨i0,hi,hz0,hz1,hz2⟩:=info_parts info_int
 refine wpList_append_own _ hgd s x 22 ho base 3 i0 (.int .i64 0) 1 8 Tryz.underlying22 hi hz0 hz1 hz2 rfl (by decide) v l.length _ hs (World.ownsRow.alloc hown _) ⟨w.heap.size,0,none⟩ 1 1 [.int .i64 y] hx rfl (cell_one_new _ _ _) (by simp [Value.oneCell']) (by unfold maxLen;omega) (by omega) (by simp;omega) fun v' w' h1 h2 _=>?_
 refine h v' w' ?_ h2
 unfold IntRow
 rw [List.length_append,List.map_append]
 exact h1
theorem Ext.appended {w wr w':World}{v:Value}{l:List Int}{o:Obj}(h:Ext w wr)(hown:IntRow wr w.heap.size v l)(hg:(wr.alloc o).grownBy w' v.ownBlock):Ext w w':=by
 refine Below.grown (Below.alloc h h.size o) hg (by have:=h.size;simp;omega) fun k hk=>?_
 obtain⟨_,h2⟩:=hown
 rcases h2 with⟨rfl,_⟩ | ⟨g,cap,cur,rfl,hgb,_⟩
 · simp [Value.ownBlock] at hk
 · simp [Value.ownBlock] at hk
   omega
theorem cell_of_heap {w:World}{b:Nat}{cs:Array Value}{t:TypeId}{fz:Nat × Nat}(h:w.heap[b]?=some (.cells cs t fz))(i:Nat):w.cell? ⟨b,i,none⟩=cs[i]?:=by
 simp [World.cell?,h]
def ownR (ix:List Nat) (w:World) (p b:Nat):Prop:=b=p∨∃ i∈ix,∃ v,w.cell? ⟨p,i,none⟩=some v/\v.ownBlock=some b
theorem ownR_same {ix:List Nat}{w w':World}{p:Nat}(h:w'.heap[p]?=w.heap[p]?)(b:Nat):ownR ix w' p b↔ownR ix w p b:=by
 unfold ownR
 have e:∀ i,w'.cell? ⟨p,i,none⟩=w.cell? ⟨p,i,none⟩:=fun i=>World.cell?_of_block (w:=w) (a:=⟨p,i,none⟩) h
 simp only [e]
structure Keep (ix:List Nat) (B p:Nat) (w w':World):Prop where
 below:Below B w w'
 rest:∀ b,b<w.heap.size->¬ ownR ix w p b->w'.heap[b]?=w.heap[b]?/\¬ ownR ix w' p b
section
variable {ix:List Nat} {B p:Nat} {w w' w'':World}
theorem Keep.refl (ix:List Nat)(B p:Nat)(w:World):Keep ix B p w w:=⟨Below.refl _ _,fun _ _ h=>⟨rfl,h⟩⟩
theorem Keep.size (h:Keep ix B p w w'):w.heap.size<=w'.heap.size:=h.below.size
theorem Keep.trans (h:Keep ix B p w w')(k:Keep ix B p w' w''):Keep ix B p w w'' :=
 ⟨h.below.trans k.below,fun b hb ho=>by
  obtain⟨h1,h2⟩:=h.rest b hb ho
  obtain⟨h3,h4⟩:=k.rest b (Nat.lt_of_lt_of_le hb h.size) h2
  exact⟨h3.trans h1,h4⟩⟩
theorem Keep.of_ext (h:Ext w w')(hp:p<w.heap.size)(hB:B<=w.heap.size):Keep ix B p w w' :=
 ⟨Below.mono h hB,fun b hb ho=>⟨Below.block h b hb,fun h'=>ho ((ownR_same (Below.block h p hp) b).1 h')⟩⟩
theorem Keep.alloc (o:Obj)(hp:p<w.heap.size)(hB:B<=w.heap.size):Keep ix B p w (w.alloc o):=Keep.of_ext ((Ext.refl w).alloc o) hp hB
theorem Keep.drewN (n:Nat)(h:Keep ix B p w w'):Keep ix B p w (w'.drewN n):=⟨⟨h.below.os,h.below.tape,h.below.output,h.below.size,h.below.block⟩,h.rest⟩
def Held (ix:List Nat) (w:World) (p b:Nat) (o:Obj):Prop:=w.heap[b]?=some o/\¬ ownR ix w p b
theorem Held.lt {b:Nat}{o:Obj}(h:Held ix w p b o):b<w.heap.size:=(Array.getElem?_eq_some_iff.1 h.1).1
theorem Held.keep {b:Nat}{o:Obj}(h:Held ix w p b o)(k:Keep ix B p w w'):Held ix w' p b o:=by
 obtain⟨h1,h2⟩:=k.rest b h.lt h.2
 exact⟨h1.trans h.1,h2⟩
theorem Held.ext {b:Nat}{o:Obj}(h:Held ix w p b o)(k:Ext w w')(hp:p<w.heap.size):Held ix w' p b o :=
 h.keep (B:=0) (Keep.of_ext k hp (Nat.zero_le _))
theorem Held.alloc {b:Nat}{o:Obj}(h:Held ix w p b o)(o':Obj)(hp:p<w.heap.size):Held ix (w.alloc o') p b o:=h.ext ((Ext.refl w).alloc o') hp
theorem Held.cells {b:Nat}{cs:Array Value}{t:TypeId}{fz:Nat × Nat}(h:Held ix w p b (.cells cs t fz))(i:Nat):w.cell? ⟨b,i,none⟩=cs[i]?:=cell_of_heap h.1 i
end
theorem row_ext {w w':World}{base e size n:Nat}{v:Value}{xs:List Value}(h:w.ownsRow base e size v n xs)(hx:Ext w w'):w'.ownsRow base e size v n xs :=
 h.kept (row:=none) ⟨hx.os,hx.tape,hx.output,hx.size,fun k hk _=>hx.block k hk⟩ (by cases v.ownBlock <;> simp)
theorem rows_apart {w:World}{B B' e e' s s' n n':Nat}{v v':Value}{xs xs':List Value}(h:w.ownsRow B e s v n xs)(h':w.ownsRow B' e' s' v' n' xs')(he:e≠e') :
  v.ownBlock=none∨v.ownBlock≠v'.ownBlock:=by
 rcases h.2 with⟨rfl,_⟩ | ⟨g,cap,cur,rfl,_,hg,_⟩
 · exact .inl rfl
 · refine .inr fun hb=>?_
   rcases h'.2 with⟨rfl,_⟩ | ⟨g',cap',cur',rfl,_,hg',_⟩
   · simp [Value.ownBlock] at hb
   · simp only [Value.ownBlock,Option.some.injEq] at hb
     subst hb
     rw [hg] at hg'
     injection hg' with hg'
     injection hg' with _ e2
     exact he e2
theorem row_not {w:World}{B e s n:Nat}{v:Value}{xs:List Value}(h:w.ownsRow B e s v n xs){b:Nat}{cs:Array Value}{t:TypeId}{fz:Nat × Nat}(hb:w.heap[b]?=some (.cells cs t fz))(he:e≠t) :
  v.ownBlock≠some b:=by
 intro hv
 rcases h.2 with⟨rfl,_⟩ | ⟨g,cap,cur,rfl,_,hg,_⟩
 · simp [Value.ownBlock] at hv
 · simp only [Value.ownBlock,Option.some.injEq] at hv
   subst hv
   rw [hg] at hb
   injection hb with hb
   injection hb with _ e2
   exact he e2
def accVals (l:List Acc):List Value:=l.flatMap fun a=>[.int .i64 a.kind,.int .i64 a.cell,.int .i64 a.val]
def ntVals (l:List Nt):List Value:=l.flatMap fun a=>[.int .i64 a.kind,.int .i64 a.pos]
def LocIs (L:List Int) (f:Nat->Int):Prop:=∀ i,f i=L.getD i 0
def maxAns:Nat:=1000000000
structure PMem (B:Nat) (w:World) (p:Nat) (S:TS) (st:Int) (vA vL vC vN:Value) (L:List Int):Prop where
 ge:B<=p
 heap:w.heap[p]?=some (.cells #[.int .i64 st,vA,vL,vC,vN] 63 (0,0))
 ans:Ints w vA S.ans
 ansB:∀ b,vA.ownBlock=some b->b<B
 rowL:w.ownsRow B 3 1 vL L.length (L.map (Value.int .i64))
 rowC:w.ownsRow B 56 3 vC S.acc.length (accVals S.acc)
 rowN:w.ownsRow B 77 2 vN S.nts.length (ntVals S.nts)
 loc:LocIs L S.loc
 locN:L.length<=32768
 accN:S.acc.length<=S.ans.length+1
 ansN:S.ans.length<=maxAns
 ntsN:S.nts.length<=maxAns
def Plays (B:Nat) (w:World) (p:Nat) (S:TS):Prop:=S.acc.length<=S.ans.length/\∃ vA vL vC vN L,PMem B w p S 1 vA vL vC vN L
def Stops (B:Nat) (w:World) (p:Nat) (S:TS):Prop:=∃ vA vL vC vN L,PMem B w p S 2 vA vL vC vN L
abbrev KeepP (B p:Nat) (w w':World):Prop:=Keep [2,3,4] B p w w'
abbrev HeldP (w:World) (p b:Nat) (o:Obj):Prop:=Held [2,3,4] w p b o
section
variable {B p:Nat} {w w':World} {S:TS} {st:Int} {vA vL vC vN:Value} {L:List Int}
theorem PMem.lt (h:PMem B w p S st vA vL vC vN L):p<w.heap.size:=(Array.getElem?_eq_some_iff.1 h.heap).1
theorem PMem.own (h:PMem B w p S st vA vL vC vN L){b:Nat}(hb:ownR [2,3,4] w p b):B<=b/\b<w.heap.size:=by
 rcases hb with rfl | ⟨i,hi,v,hv,hvb⟩
 · exact⟨h.ge,h.lt⟩
 · have e:=cell_of_heap h.heap i
   simp only [List.mem_cons,List.not_mem_nil,or_false] at hi
   rcases hi with rfl | rfl | rfl
   · obtain rfl:vL=v:=by rw [e] at hv;simpa using hv
     exact h.rowL.lt b hvb
   · obtain rfl:vC=v:=by rw [e] at hv;simpa using hv
     exact h.rowC.lt b hvb
   · obtain rfl:vN=v:=by rw [e] at hv;simpa using hv
     exact h.rowN.lt b hvb
theorem PMem.ext (h:PMem B w p S st vA vL vC vN L)(hx:Ext w w'):PMem B w' p S st vA vL vC vN L :=
 { h with heap:=(Below.block hx p h.lt).trans h.heap,ans:=h.ans.ext hx,rowL:=row_ext h.rowL hx,rowC:=row_ext h.rowC hx,rowN:=row_ext h.rowN hx }
theorem Plays.ext (h:Plays B w p S)(hx:Ext w w'):Plays B w' p S:=by
 obtain⟨h0,vA,vL,vC,vN,L,h⟩:=h
 exact⟨h0,vA,vL,vC,vN,L,h.ext hx⟩
theorem Plays.alloc (h:Plays B w p S)(o:Obj):Plays B (w.alloc o) p S:=h.ext ((Ext.refl w).alloc o)
theorem Plays.lt (h:Plays B w p S):p<w.heap.size:=by obtain⟨_,_,_,_,_,_,h⟩:=h;exact h.lt
theorem Plays.le (h:Plays B w p S):B<=w.heap.size:=by obtain⟨_,_,_,_,_,_,h⟩:=h;have:=h.lt;have:=h.ge;omega
theorem Plays.held (h:Plays B w p S)(o:Obj):HeldP (w.alloc o) p w.heap.size o:=by
 refine⟨heap_alloc_new w o,fun ho=>?_⟩
 obtain⟨_,_,_,_,_,_,h⟩:=h
 have h1:=(ownR_same (w:=w) (Below.heap_alloc w o p h.lt) _).1 ho
 have:=(h.own h1).2
 omega
end
theorem Plays.entry {B p:Nat}{S:TS}{w:World}(h:Plays B w p S)(a:Obj):HeldP (w.alloc a) p w.heap.size a/\Keep [2,3,4] B p w (w.alloc a)/\Plays B (w.alloc a) p S :=
 ⟨h.held a,(Keep.refl [2,3,4] B p w).trans (Keep.alloc a h.lt h.le),h.alloc a⟩
theorem Plays.entry2 {B p:Nat}{S:TS}{w:World}(h:Plays B w p S)(a b:Obj):HeldP ((w.alloc a).alloc b) p w.heap.size a/\HeldP ((w.alloc a).alloc b) p (w.heap.size+1) b/\Keep [2,3,4] B p w ((w.alloc a).alloc b)/\Plays B ((w.alloc a).alloc b) p S:=by
 have h2:=(h.alloc a).held b
 rw [World.size_alloc] at h2
 exact⟨(h.held a).alloc b (h.alloc a).lt,h2,((Keep.refl [2,3,4] B p w).trans (Keep.alloc a h.lt h.le)).trans (Keep.alloc b (h.alloc a).lt (h.alloc a).le),(h.alloc a).alloc b⟩
theorem info_acc:(Tryz.prog.info? 56).map (fun i=>(i.zero,i.size,i.bytes))=some (some (.agg #[.int .i64 0,.int .i64 0,.int .i64 0]),3,24):=by kernel_rfl
theorem accVals_snoc (l:List Acc)(a:Acc):accVals (l++[a])=accVals l++[.int .i64 a.kind,.int .i64 a.cell,.int .i64 a.val]:=by simp [accVals]
theorem heap_setCell {w:World}{b i:Nat}{cs:Array Value}{t:TypeId}{fz:Nat × Nat}(h:w.heap[b]?=some (.cells cs t fz))(v:Value) :
  (w.setCell ⟨b,i,none⟩ v).heap[b]?=some (.cells (cs.setIfInBounds i v) t fz):=by
 simp [World.setCell,Array.getElem?_modify,h]
theorem heap_setCell_ne (w:World){b i k:Nat}(v:Value)(h:k≠b):(w.setCell ⟨b,i,none⟩ v).heap[k]?=w.heap[k]?:=Below.heap_setCell _ _ _ _ h
theorem frozen_of_heap {w:World}{b:Nat}{cs:Array Value}{t:TypeId}(h:w.heap[b]?=some (.cells cs t (0,0)))(i:Nat):w.frozen? ⟨b,i,none⟩=false:=by
 simp [World.frozen?,h]
theorem grown_heap {w w1:World}{b:Nat}{o:Obj}{row:Option Nat}(h:w.heap[b]?=some o)(hv:row≠some b)(hg:w.grownBy w1 row):w1.heap[b]?=some o:=by
 have hb:=(Array.getElem?_eq_some_iff.1 h).1
 rw [hg.block b hb (fun e=>hv e.symm),h]
theorem ints_grown {w w1:World}{v:Value}{l:List Int}{row:Option Nat}(h:Ints w v l)(hg:w.grownBy w1 row)(hv:∀ b,v.ownBlock=some b->row≠some b):Ints w1 v l:=by
 obtain⟨A,c,rfl,h1,h2,h3⟩:=h
 refine⟨A,c,rfl,h1,h2,fun hl=>?_⟩
 obtain⟨b,off,rfl,hb,hc⟩:=h3 hl
 refine⟨b,off,rfl,Nat.lt_of_lt_of_le hb hg.size,fun i x hi=>?_⟩
 rw [<- hc i x hi]
 exact World.cell?_of_block (w:=w) (hg.block b hb (fun e=>hv b rfl e.symm))
theorem ints_set {w:World}{v:Value}{l:List Int}(h:Ints w v l)(a:Addr)(u:Value)(hv:∀ b,v.ownBlock=some b->b≠a.block):Ints (w.setCell a u) v l:=by
 obtain⟨A,c,rfl,h1,h2,h3⟩:=h
 refine⟨A,c,rfl,h1,h2,fun hl=>?_⟩
 obtain⟨b,off,rfl,hb,hc⟩:=h3 hl
 refine⟨b,off,rfl,by simpa using hb,fun i x hi=>?_⟩
 rw [<- hc i x hi]
 exact World.cell?_of_block (w:=w) (Below.heap_setCell _ _ _ _ (hv b rfl))
section
variable {B p:Nat} {w w1:World} {S:TS} {st:Int} {vA vL vC vN:Value} {L:List Int}
theorem PMem.cNe (h:PMem B w p S st vA vL vC vN L):vL.ownBlock≠some p/\vC.ownBlock≠some p/\vN.ownBlock≠some p :=
 ⟨row_not h.rowL h.heap (by decide),row_not h.rowC h.heap (by decide),row_not h.rowN h.heap (by decide)⟩
theorem keep_field {B p:Nat}{w w1:World}{cs cs':Array Value}{t:TypeId}{ix:List Nat}{row:Option Nat}{u:Value}{i:Nat}(hB:B<=p)(hp:w.heap[p]?=some (.cells cs t (0,0)))(hg:w.grownBy w1 row)(hr:∀ b,row=some b->B<=b/\ownR ix w p b)
  (hne:row≠some p)(_:cs'=cs.setIfInBounds i u)(hu:∀ b,u.ownBlock=some b->ownR ix w p b∨w.heap.size<=b):Keep ix B p w (w1.setCell ⟨p,i,none⟩ u):=by
 have hp1:=grown_heap hp hne hg
 have hp2:=heap_setCell (i:=i) hp1 u
 refine⟨⟨hg.os,hg.tape,hg.output,by have:=hg.size;simpa using this,fun k hk=>?_⟩,fun b hb ho=>⟨?_,fun h'=>?_⟩⟩
 · rw [heap_setCell_ne _ _ (by omega),hg.block k (by have:=(Array.getElem?_eq_some_iff.1 hp).1;omega) (fun e=>by have:=(hr k e.symm).1;omega)]
 · rw [heap_setCell_ne _ _ (fun e=>ho (.inl e)),hg.block b hb (fun e=>ho (hr b e.symm).2)]
 · rcases h' with rfl | ⟨j,hj,v,hv,hvb⟩
   · exact ho (.inl rfl)
   · rw [cell_of_heap hp2] at hv
     by_cases e:i=j
     · subst e
       rw [Array.getElem?_setIfInBounds] at hv
       split at hv
       · split at hv
         · injection hv with hv
           subst hv
           rcases hu b hvb with h1 | h1
           · exact ho h1
           · omega
         · cases hv
       · rename_i e;exact e rfl
     · rw [Array.getElem?_setIfInBounds_ne e] at hv
       exact ho (.inr ⟨j,hj,v,(cell_of_heap hp j).trans hv,hvb⟩)
theorem row_set {B e s n p i:Nat}{v u:Value}{xs:List Value}(h:w1.ownsRow B e s v n xs)(hne:v.ownBlock≠some p):(w1.setCell ⟨p,i,none⟩ u).ownsRow B e s v n xs :=
 ownsRow_setCell_other h (a:=⟨p,i,none⟩) hne u
theorem ownR_at {cs:Array Value}{t:TypeId}{ix:List Nat}{i:Nat}{v:Value}(hp:w.heap[p]?=some (.cells cs t (0,0)))(hi:i∈ix)(hv:cs[i]?=some v){b:Nat}(hb:v.ownBlock=some b):ownR ix w p b :=
 .inr ⟨i,hi,v,(cell_of_heap hp i).trans hv,hb⟩
theorem PMem.state (h:PMem B w p S st vA vL vC vN L)(st':Int):PMem B (w.setCell ⟨p,0,none⟩ (.int .i64 st')) p S st' vA vL vC vN L/\KeepP B p w (w.setCell ⟨p,0,none⟩ (.int .i64 st')):=by
 obtain⟨nL,nC,nN⟩:=h.cNe
 refine⟨{ h with heap:=heap_setCell h.heap _,ans:=ints_set h.ans _ _ ?_,rowL:=row_set h.rowL nL,rowC:=row_set h.rowC nC,rowN:=row_set h.rowN nN },?_⟩
 · intro b hb
   have:=h.ansB b hb
   have:=h.ge
   show b≠p
   omega
 · exact keep_field (row:=none) h.ge h.heap (World.grownBy.refl _ _) (fun b hb=>by cases hb) (by simp) rfl (fun b hb=>by simp [Value.ownBlock] at hb)
theorem PMem.grewC (h:PMem B w p S st vA vL vC vN L)(a:Acc){g cap:Nat}(hg:w.grownBy w1 vC.ownBlock)(hat:vC.ownBlock=some g∨w.heap.size<=g)
  (hown:w1.ownsRow B 56 3 (.slice (some ⟨g,0,none⟩) (S.acc.length+1) cap) (S.acc.length+1) (accVals S.acc++[.int .i64 a.kind,.int .i64 a.cell,.int .i64 a.val]))(hl:S.acc.length<=S.ans.length) :
  PMem B (w1.setCell ⟨p,3,none⟩ (.slice (some ⟨g,0,none⟩) (S.acc.length+1) cap)) p (S.put a) st vA vL (.slice (some ⟨g,0,none⟩) (S.acc.length+1) cap) vN L /\
   KeepP B p w (w1.setCell ⟨p,3,none⟩ (.slice (some ⟨g,0,none⟩) (S.acc.length+1) cap)):=by
 obtain⟨nL,nC,nN⟩:=h.cNe
 have hp1:=grown_heap h.heap nC hg
 have hgp:(Value.slice (some ⟨g,0,none⟩) (S.acc.length+1) cap).ownBlock≠some p:=row_not hown hp1 (by decide)
 refine⟨?_,?_⟩
 · refine { ge:=h.ge,heap:=heap_setCell hp1 _,ans:=ints_set (ints_grown h.ans hg ?_) _ _ ?_,ansB:=h.ansB,rowL:=row_set (h.rowL.kept hg (rows_apart h.rowL h.rowC (by decide))) nL,rowC:=?_,rowN:=row_set (h.rowN.kept hg (rows_apart h.rowN h.rowC (by decide))) nN,loc:=h.loc,locN:=h.locN,accN:=?_,ansN:=h.ansN,ntsN:=h.ntsN }
   · intro b hb e
     have:=h.ansB b hb
     have:=(h.rowC.lt b e).1
     omega
   · intro b hb
     have:=h.ansB b hb
     have:=h.ge
     show b≠p
     omega
   · have e:(S.put a).acc=S.acc++[a]:=rfl
     rw [e,accVals_snoc,List.length_append,List.length_singleton]
     exact row_set hown hgp
   · have e:(S.put a).acc=S.acc++[a]:=rfl
     rw [e,List.length_append,List.length_singleton]
     show S.acc.length+1<=S.ans.length+1
     omega
 · refine keep_field h.ge h.heap hg (fun b hb=>⟨(h.rowC.lt b hb).1,ownR_at h.heap (by simp) (i:=3) rfl hb⟩) nC rfl fun b hb=>?_
   obtain rfl:g=b:=by simpa [Value.ownBlock] using hb
   rcases hat with h1 | h1
   · exact .inl (ownR_at h.heap (by simp) (i:=3) rfl h1)
   · exact .inr h1
end
theorem cells_new2 (w:World)(O:Obj)(cs:Array Value)(t:TypeId):∀ (j:Nat) (u:Value),cs.toList[j]?=some u->(((w.alloc O).alloc (.cells cs t)).drew).cell? ((⟨w.heap.size+1,0,none⟩:Addr).add j)=some u:=by
 intro j u hu
 rw [Addr.add_lit,Nat.zero_add]
 refine (cell_of_heap (w:=((w.alloc O).alloc (.cells cs t)).drew) (b:=w.heap.size+1) (cs:=cs) (t:=t) (fz:=(0,0)) ?_ j).trans (by simpa using hu)
 have:=heap_alloc_new (w.alloc O) (.cells cs t)
 rw [World.size_alloc] at this
 exact this
theorem grown2 {w w1:World}{O O':Obj}{row:Option Nat}(hg:(((w.alloc O).alloc O').drew).grownBy w1 row):w.grownBy w1 row :=
 World.grownBy.trans (World.grownBy_alloc w O row) (World.grownBy.trans (World.grownBy_alloc _ O' row) ⟨hg.os,hg.tape,hg.output,hg.size,hg.block⟩)
set_option maxRecDepth 100000 in
theorem ask_p (B p:Nat)(S:TS)(k c v x:Int)(w:World)(h:Plays B w p S)(hx:S.next=some x) :
  Calls Tryz.prog 106 #[.pointer (some ⟨p,0,none⟩),.agg #[.int .i64 k,.int .i64 c,.int .i64 v]] w fun e w'=>e=.returned (.int .i64 x)/\Plays B w' p (S.put ⟨k,c,v⟩)/\KeepP B p w w':=by
 obtain⟨h1,vA,vL,vC,vN,L,h⟩:=h
 have hlt:S.acc.length<S.ans.length:=by
  unfold TS.next at hx
  exact (List.getElem?_eq_some_iff.1 hx).1
 have hx2:=Lib.hid (show S.ans.getD S.acc.length 0=x by
  unfold TS.next at hx
  simp [List.getD,hx])
 clear hx
 have hc:=cell_of_heap h.heap
 have hbo:=h.ansN
 unfold maxAns at hbo
 have hle:=h.lt
 have hge:=h.ge
 obtain⟨Aa,ca,rfl,ha1,ha2⟩:=h.ans.slice
 obtain⟨Ac,cc,hvC⟩:∃ A c,vC=.slice A S.acc.length c:=by
  rcases h.rowC.2 with⟨rfl,h0⟩ | ⟨g,cap,cur,rfl,_⟩
  · exact⟨none,0,by rw [h0]⟩
  · exact⟨_,_,rfl⟩
 subst hvC
 have hL:=Lib.hid h
 have hlt2:=Lib.hid hlt
 clear h hlt
 obtain⟨i0,hi,hz0,hz1,hz2⟩:=info_parts info_acc
 go_enter Tryz.func106,Tryz.ntmps106
 go_wp2_with fail
 go_region_law ((refine step_append_lies _ (by rfl) _ _ _ (by rfl) B 56 i0 _ 3 24 Tryz.underlying33 hi hz0 hz1 hz2 rfl (by omega) (Value.slice Ac S.acc.length cc) S.acc.length (accVals S.acc) (by rfl) (((World.ownsRow.alloc hL.out.rowC _).drew).alloc _) ⟨w.heap.size+1,0,none⟩ 1 1 [.int .i64 k,.int .i64 c,.int .i64 v] (by rfl) (by rfl) (cells_new2 w _ _ _) (by simp [Value.oneCell']) (by omega) (by unfold maxLen;omega) (by omega) (by simp;omega) (w.heap.size+2) (by simp) ?_;intro gg cap w1 hown1 hgrow hat hlt;have hp1:=grown_heap hL.out.heap hL.out.cNe.2.1 (grown2 hgrow);have hq1:=cell_of_heap hp1;have hf1:=frozen_of_heap hp1))
 all_goals
  obtain⟨HM,HK⟩:=hL.out.grewC ⟨k,c,v⟩ (grown2 hgrow) (hat.imp id (by omega)) hown1 h1
  clear hown1 hgrow hat hlt hp1 hq1 hf1 hc
  generalize hv':(Value.slice (some ⟨gg,0,none⟩) (S.acc.length+1) cap)=v' at *
  generalize w1.setCell ⟨p,3,none⟩ v'=W at *
  clear hv' w1
  have hq:=cell_of_heap HM.heap
  have hlt:=hlt2.out
  obtain⟨b,off,rfl,hb,hcell⟩:=HM.ans.at_ (show S.acc.length<S.ans.length from hlt)
  rw [show (S.put ⟨k,c,v⟩).ans.getD S.acc.length 0=x from hx2.out] at hcell
  have HF:Plays B W p (S.put ⟨k,c,v⟩):=⟨by show (S.acc++_).length<=S.ans.length;simp;omega,_,_,_,_,_,HM⟩
  have HKh:=Lib.hid HK
  clear HM HK
  go_wp2_with fail
  go_ret
  exact⟨rfl,HF,HKh.out⟩
set_option maxRecDepth 100000 in
theorem ask_s (B p:Nat)(S:TS)(k c v:Int)(w:World)(h:Plays B w p S)(hx:S.next=none) :
  Calls Tryz.prog 106 #[.pointer (some ⟨p,0,none⟩),.agg #[.int .i64 k,.int .i64 c,.int .i64 v]] w fun e w'=>e=.panicked [{ v:=.iface 66 (.agg #[.pointer (some ⟨p,0,none⟩)]),recovered:=false }]/\Stops B w' p (S.put ⟨k,c,v⟩)/\KeepP B p w w':=by
 obtain⟨h1,vA,vL,vC,vN,L,h⟩:=h
 have hlt:S.acc.length=S.ans.length:=by
  unfold TS.next at hx
  have:=List.getElem?_eq_none_iff.1 hx
  omega
 clear hx
 have hc:=cell_of_heap h.heap
 have hbo:=h.ansN
 unfold maxAns at hbo
 have hle:=h.lt
 have hge:=h.ge
 obtain⟨Aa,ca,rfl,ha1,ha2⟩:=h.ans.slice
 obtain⟨Ac,cc,hvC⟩:∃ A c,vC=.slice A S.acc.length c:=by
  rcases h.rowC.2 with⟨rfl,h0⟩ | ⟨g,cap,cur,rfl,_⟩
  · exact⟨none,0,by rw [h0]⟩
  · exact⟨_,_,rfl⟩
 subst hvC
 have hL:=Lib.hid h
 have hlt2:=Lib.hid hlt
 clear h hlt
 obtain⟨i0,hi,hz0,hz1,hz2⟩:=info_parts info_acc
 go_enter Tryz.func106,Tryz.ntmps106
 go_wp2_with fail
 go_region_law ((refine step_append_lies _ (by rfl) _ _ _ (by rfl) B 56 i0 _ 3 24 Tryz.underlying33 hi hz0 hz1 hz2 rfl (by omega) (Value.slice Ac S.acc.length cc) S.acc.length (accVals S.acc) (by rfl) (((World.ownsRow.alloc hL.out.rowC _).drew).alloc _) ⟨w.heap.size+1,0,none⟩ 1 1 [.int .i64 k,.int .i64 c,.int .i64 v] (by rfl) (by rfl) (cells_new2 w _ _ _) (by simp [Value.oneCell']) (by omega) (by unfold maxLen;omega) (by omega) (by simp;omega) (w.heap.size+2) (by simp) ?_;intro gg cap w1 hown1 hgrow hat hlt;have hp1:=grown_heap hL.out.heap hL.out.cNe.2.1 (grown2 hgrow);have hq1:=cell_of_heap hp1;have hf1:=frozen_of_heap hp1))
 all_goals
  obtain⟨HM,HK⟩:=hL.out.grewC ⟨k,c,v⟩ (grown2 hgrow) (hat.imp id (by omega)) hown1 h1
  clear hown1 hgrow hat hlt hp1 hq1 hf1 hc
  generalize hv':(Value.slice (some ⟨gg,0,none⟩) (S.acc.length+1) cap)=v' at *
  generalize w1.setCell ⟨p,3,none⟩ v'=W at *
  clear hv' w1
  have hq:=cell_of_heap HM.heap
  have hle:S.ans.length<=S.acc.length:=by have:=hlt2.out;omega
  have hfz:=frozen_of_heap HM.heap
  have HMh:=Lib.hid HM
  have HKh:=Lib.hid HK
  clear HM HK
  go_wp2_with fail
  obtain⟨HM2,HK2⟩:=HMh.out.state 2
  exact⟨rfl,rfl,⟨_,_,_,_,_,HM2⟩,HKh.out.trans HK2⟩
theorem got_at {S:TS}{L:List Int}(h:LocIs L S.loc)(i:Nat):S.got i=L.getD i 0:=by
 unfold TS.got
 rw [if_neg (by omega),Int.toNat_natCast]
 exact h i
theorem got_out {S:TS}{L:List Int}(h:LocIs L S.loc)(i:Nat)(hi:L.length<=i):S.got i=0:=by
 rw [got_at h];simp [List.getD,List.getElem?_eq_none hi]
theorem got_neg {S:TS}{i:Int}(h:i<0):S.got i=0:=by unfold TS.got;rw [if_pos h]
theorem get_p (B p:Nat)(S:TS)(i:Int)(w:World)(h:Plays B w p S) :
  Calls Tryz.prog 107 #[.pointer (some ⟨p,0,none⟩),.int .i64 i] w fun e w'=>e=.returned (.int .i64 (S.got i))/\w=w':=by
 obtain⟨_,vA,vL,vC,vN,L,h⟩:=h
 have hc:=cell_of_heap h.heap
 have hI:Ints w vL L:=IntRow.ints h.rowL
 by_cases h0:i<0
 · rw [got_neg h0]
   go_enter Tryz.func107,Tryz.ntmps107
   go_wp2_with fail
   go_ret
   exact⟨rfl,rfl⟩
 · obtain⟨i,rfl⟩:∃ n:Nat,i=(n:Int):=⟨i.toNat,by omega⟩
   obtain⟨A,c,rfl,hc1,hc2⟩:=hI.slice
   by_cases h1:i<L.length
   · obtain⟨b,off,rfl,hb,hcell⟩:=hI.at_ h1
     rw [got_at h.loc]
     clear h hI
     go_enter Tryz.func107,Tryz.ntmps107
     go_wp2_with fail
     go_ret
     exact⟨rfl,rfl⟩
   · rw [got_out h.loc i (by omega)]
     clear h hI
     go_enter Tryz.func107,Tryz.ntmps107
     go_wp2_with fail
     go_ret
     exact⟨rfl,rfl⟩
end Go.Proofs.YtbphlkaihfbgeaaGreat
namespace Go.Proofs.YtbphlkaihfbgeaaGreat
section
variable {P:Program} (w:World)
theorem zeroCells_one (z:Value)(m:Nat):(Builtin.zeroCells #[z] m)=(List.replicate m z).toArray:=by
 apply Array.ext'
 simp only [Builtin.zeroCells,Array.toList_map,Array.toList_range]
 apply List.ext_getElem?
 intro j
 by_cases hj:j<m
 · simp [hj,Nat.mod_one]
 · simp [hj]
theorem run_append_zeros (t u ty:TypeId)(base:Nat)(e:TypeId)(i:TypeInfo)(z:Value)(bytes:Nat)(k:IntKind)(ht:P.underlying t=some (.slice e))(hu:P.underlying u=some (.int k))(hi:P.info? e=some i)(hz:i.zero=some z)
  (hsize:i.size=1)(hby:i.bytes=bytes)(hzs:z.cells=#[z])(hz1:z.oneCell'=true)
  (v:Value)(n:Nat)(xs:List Value)(hown:w.ownsRow base e 1 v n xs)(m:Nat)(hm:0<m)(h63:n+m<=maxLen)(hbytes:(n+m)*bytes<=140737488355328)(hbase:base<=w.heap.size) :
  ∃ g cap w',(Builtin.append_ #[t,u] ty #[v,.int k m]).run P w=.ok (.slice (some ⟨g,0,none⟩) (n+m) cap) w' /\
   w'.ownsRow base e 1 (.slice (some ⟨g,0,none⟩) (n+m) cap) (n+m) (xs++List.replicate m z)/\w.grownBy w' v.ownBlock/\(v.ownBlock=some g∨g=w.heap.size):=by
 subst hby
 have hsmall:n+m<=9223372036854775807:=by simpa only [maxLen] using h63
 have hw64:IntKind.i64.wrap (m:Int)=m:=by rw [IntKind.wrap_i64];omega
 have hm0:¬ ((m:Int)<0):=by omega
 have hmb:¬ (281474976710656<(m:Int)*(i.bytes:Int)):=by
  have h1:m*i.bytes<=(n+m)*i.bytes:=Nat.mul_le_mul_right _ (by omega)
  have h2:((m*i.bytes:Nat):Int)<=140737488355328:=by omega
  rw [Int.natCast_mul] at h2
  omega
 have hmz:¬ (m=0):=by omega
 have hlen:(xs++List.replicate m z).length=(n+m)*1:=by rw [List.length_append,hown.1,List.length_replicate];omega
 have hxs:xs.length=n:=by have:=hown.1;omega
 have hzc:=zeroCells_one z
 have grown:∀ (old:Nat),old<n+m->∀ (row:Option Nat),
   (w.drew.alloc (.cells (xs.toArray++(List.replicate m z).toArray++Builtin.zeroCells z.cells (grownCap w (n+m) old e-(n+m))) e)).ownsRow base e 1
     (.slice (some ⟨w.heap.size,0,none⟩) (n+m) (grownCap w (n+m) old e)) (n+m) (xs++List.replicate m z) /\
   w.grownBy (w.drew.alloc (.cells (xs.toArray++(List.replicate m z).toArray++Builtin.zeroCells z.cells (grownCap w (n+m) old e-(n+m))) e)) row:=by
  intro old ho row
  have hge:=grownCap_ge w (n+m) old e
  have hcm:grownCap w (n+m) old e<=maxLen:=grownCap_le_maxLen w (n+m) old e h63
  refine⟨⟨hlen,.inr ⟨w.heap.size,_,_,rfl,hbase,heap_alloc_new w.drew _,hge,hcm,?_,?_⟩⟩,⟨rfl,rfl,rfl,by simp,fun k hk _=>Go.RowKit.Below.heap_alloc w.drew _ k hk⟩⟩
  · simp only [Array.size_append,List.size_toArray,size_zeroCells,hzs,List.length_replicate,hxs]
    simp
    omega
  · simp only [Array.toList_append,List.append_assoc]
    rw [<- List.append_assoc,<- hlen]
    exact List.take_left
 rcases hown.2 with⟨rfl,rfl⟩ | ⟨g,cap,cur,rfl,hbg,hg,hnc,hcm,hcs,htake⟩
 · obtain rfl:xs=[]:=List.eq_nil_of_length_eq_zero hxs
   have hgr:=grown 0 (by omega) (Value.ownBlock (.slice none 0 0))
   refine⟨w.heap.size,grownCap w (0+m) 0 e,_,?_,hgr.1,hgr.2,.inr rfl⟩
   have h63':¬ (9223372036854775807<(m:Int)):=by omega
   have h48':¬ (281474976710656<Builtin.nextslicecap m 0*i.bytes):=by rw [nextslicecap_zero hm];simp only [Nat.zero_add] at hbytes;omega
   simp [Builtin.append_,run_underlying ht,run_underlying hu,sizeOf,typeInfo,zeroValue,hi,hz,hsize,hw64,hm0,hmb,hmz,h63',h48',Question.forced,Builtin.firstCells,newRow,grownCap,asInt,asIntOf,hzs,hzc]
 · by_cases hroom:n+m<=cap
   · have hfit:n*1+(List.replicate m z).length<=cur.size:=by rw [List.length_replicate,hcs];omega
     have h1:∀ u∈List.replicate m z,u.oneCell'=true:=fun u hu=>by rw [List.eq_of_mem_replicate hu];exact hz1
     have hst:=run_storeCells_at P g (n*1) e (List.replicate m z) 0 cur w hg (by simpa using hfit) h1
     simp only [Nat.add_zero,Nat.mul_one] at hst
     refine⟨g,cap,w.setRow g (cur.toList.take n++List.replicate m z++cur.toList.drop (n+(List.replicate m z).length)).toArray,?_,⟨hlen,.inr ⟨g,cap,_,rfl,hbg,setRow_heap w g cur _ e _ hg,hroom,hcm,?_,?_⟩⟩,⟨rfl,rfl,rfl,by simp,fun k _ hk=>setRow_other w g k _ (fun e=>hk (by simp [Value.ownBlock,e]))⟩,.inl rfl⟩
     · simp [Builtin.append_,run_underlying ht,run_underlying hu,sizeOf,typeInfo,zeroValue,hi,hz,hsize,hw64,hm0,hmb,hmz,hroom,Addr.add_lit,hst,asInt,asIntOf,hzs,hzc]
     · simp only [List.size_toArray,List.length_append,List.length_take,List.length_drop,Array.length_toList]
       simp only [List.length_replicate] at hfit ⊢
       omega
     · have e:((cur.toList.take n++List.replicate m z++cur.toList.drop (n+(List.replicate m z).length)).toArray).toList=(xs++List.replicate m z)++cur.toList.drop (n+(List.replicate m z).length):=by
        rw [<- htake,Nat.mul_one]
       rw [e,<- hlen]
       exact List.take_left
   · have holds:∀ j u,xs[j]?=some u->w.cell? ((⟨g,0,none⟩:Addr).add j)=some u:=hown.cells (g:=g) rfl
     have hgr:=grown cap (by omega) (Value.ownBlock (.slice (some ⟨g,0,none⟩) n cap))
     refine⟨w.heap.size,grownCap w (n+m) cap e,_,?_,hgr.1,hgr.2,.inr rfl⟩
     have hfo:=run_firstCells_some (P:=P) w.drew 1 n ⟨g,0,none⟩ n cap xs (by omega) (by simpa using holds)
     have h63':¬ (9223372036854775807<((n:Int)+(m:Int))):=by omega
     have h48':¬ (281474976710656<Builtin.nextslicecap (n+m) cap*i.bytes):=by have:=growslice_fits (show cap<n+m by omega) hbytes;omega
     simp [Builtin.append_,run_underlying ht,run_underlying hu,sizeOf,typeInfo,zeroValue,hi,hz,hsize,hw64,hm0,hmb,hmz,hroom,h63',h48',Question.forced,hfo,newRow,grownCap,asInt,asIntOf,hzs,hzc]
theorem step_append_zeros {ops:Array Oper}{o:Oper}{a:Act}{K:Act->World->Prop}{Q:Exit->Act->World->Prop}{E:Prop}(hgd:o.guard=none)(s x:Operand)(t u:TypeId)
  (ho:o.op=.call { callee:=.builtin .append,args:=#[s,x],argTypes:=#[t,u] })
  (base:Nat)(e:TypeId)(i:TypeInfo)(z:Value)(bytes:Nat)(k:IntKind)(ht:P.underlying t=some (.slice e))(hu:P.underlying u=some (.int k))(hi:P.info? e=some i)(hz:i.zero=some z)
  (hsize:i.size=1)(hby:i.bytes=bytes)(hzs:z.cells=#[z])(hz1:z.oneCell'=true)
  (v:Value)(n:Nat)(xs:List Value)(hs:a.eval s=v)(hown:w.ownsRow base e 1 v n xs)(m:Nat)(hx:a.eval x=.int k m)(hm:0<m)(h63:n+m<=maxLen)(hbytes:(n+m)*bytes<=140737488355328)(hbase:base<=w.heap.size)
  (h:∀ g cap w',w'.ownsRow base e 1 (.slice (some ⟨g,0,none⟩) (n+m) cap) (n+m) (xs++List.replicate m z)->w.grownBy w' v.ownBlock->(v.ownBlock=some g∨g=w.heap.size)->K (a.put o.dst (.slice (some ⟨g,0,none⟩) (n+m) cap)) w') :
  if Region.wanted o (yielded ops a.tmps)=true then Oper.wp P o a w K Q else E:=by
 have hw:Region.wanted o (yielded ops a.tmps)=true:=by simp [Region.wanted,hgd]
 rw [if_pos hw]
 obtain⟨g,cap,w',hr,h2,h3,h4⟩:=run_append_zeros (P:=P) w t u o.type base e i z bytes k ht hu hi hz hsize hby hzs hz1 v n xs hown m hm h63 hbytes hbase
 unfold Oper.wp execOp
 simp only [ho,resolve,invoke,builtin,Sem.run_bind,Sem.run_pure,Result.andThen_ok,List.map_toArray,List.map_cons,List.map_nil,hs,hx,hr]
 exact h g cap w' h2 h3 h4
end
end Go.Proofs.YtbphlkaihfbgeaaGreat
namespace Go.Proofs.YtbphlkaihfbgeaaGreat
open Go.RowKit Kv
theorem grown0 {w w1:World}{row:Option Nat}(hg:(w.drew).grownBy w1 row):w.grownBy w1 row:=⟨hg.os,hg.tape,hg.output,hg.size,hg.block⟩
section
variable {B p:Nat} {w w1:World} {S:TS} {st:Int} {vA vL vC vN:Value} {L:List Int}
theorem LocIs.set {L:List Int}{f:Nat->Int}(h:LocIs L f)(i:Nat)(hi:i<L.length)(v:Int):LocIs (L.set i v) (fun j=>if j=i then v else f j):=by
 intro j
 by_cases e:j=i
 · subst e;simp [List.getD,hi]
 · simp [List.getD,e,Ne.symm e,h j]
theorem LocIs.zeros {L:List Int}{f:Nat->Int}(h:LocIs L f)(n:Nat):LocIs (L++List.replicate n 0) f:=by
 intro j
 rw [h j]
 simp only [List.getD_eq_getElem?_getD,List.getElem?_append,List.getElem?_replicate]
 split
 · rfl
 · rename_i hj
   rw [List.getElem?_eq_none (by omega)]
   split <;> rfl
theorem TS.upd_in {S:TS}{i:Nat}(h:i<32768)(v:Int):S.upd i v={ S with loc:=fun j=>if j=i then v else S.loc j }:=by
 unfold TS.upd
 rw [if_pos (by omega),Int.toNat_natCast]
theorem TS.upd_out {S:TS}{i v:Int}(h:i<0∨32768<=i):S.upd i v=S:=by
 unfold TS.upd
 rw [if_neg (by omega)]
theorem TS.upd_zero {S:TS}{L:List Int}(h:LocIs L S.loc){i:Nat}(hi:L.length<=i):S.upd i 0=S:=by
 unfold TS.upd
 split
 · obtain⟨a,c,n,f⟩:=S
   congr 1
   funext j
   show (if j=(i:Int).toNat then 0 else f j)=f j
   split
   · subst j
     have h2:f ((i:Int).toNat)=L.getD ((i:Int).toNat) 0:=h _
     rw [h2]
     simp [List.getD,List.getElem?_eq_none (show L.length<=i from hi)]
   · rfl
 · rfl
theorem PMem.stored {g cap:Nat}(h:PMem B w p S st vA (.slice (some ⟨g,0,none⟩) L.length cap) vC vN L)(i:Nat)(hi:i<L.length)(v:Int) :
  PMem B (w.setCell ⟨g,i,none⟩ (.int .i64 v)) p (S.upd i v) st vA (.slice (some ⟨g,0,none⟩) L.length cap) vC vN (L.set i v)/\KeepP B p w (w.setCell ⟨g,i,none⟩ (.int .i64 v)):=by
 obtain⟨nL,nC,nN⟩:=h.cNe
 have hgp:g≠p:=fun e=>nL (by rw [e];rfl)
 obtain⟨hs1,hs2⟩:=h.rowL.stored i (.int .i64 v)
 have hlt:=h.locN
 have hu:=TS.upd_in (S:=S) (show i<32768 by omega) v
 have hgB:=(h.rowL.lt g rfl).1
 refine⟨{ ge:=h.ge,heap:=?_,ans:=?_,ansB:=h.ansB,rowL:=?_,rowC:=?_,rowN:=?_,loc:=?_,locN:=by simpa using h.locN,accN:=?_,ansN:=?_,ntsN:=?_ },?_⟩
 · rw [heap_setCell_ne _ _ (Ne.symm hgp)];exact h.heap
 · rw [hu]
   exact ints_set h.ans _ _ (fun b hb=>by have:=h.ansB b hb;show b≠g;omega)
 · rw [List.map_set,List.length_set];exact hs1
 · rw [hu]
   exact row_set h.rowC (fun e=>by
    have:=rows_apart h.rowC h.rowL (by decide)
    rw [e] at this
    simp [Value.ownBlock] at this)
 · rw [hu]
   exact row_set h.rowN (fun e=>by
    have:=rows_apart h.rowN h.rowL (by decide)
    rw [e] at this
    simp [Value.ownBlock] at this)
 · rw [hu];exact h.loc.set i hi v
 · rw [hu];exact h.accN
 · rw [hu];exact h.ansN
 · rw [hu];exact h.ntsN
 · have ho:ownR [2,3,4] w p g:=ownR_at h.heap (by simp) (i:=2) rfl rfl
   refine⟨⟨rfl,rfl,rfl,by simp,fun k hk=>heap_setCell_ne _ _ (by omega)⟩,fun b hb hn=>⟨heap_setCell_ne _ _ (fun e=>hn (e▸ho)),fun h'=>hn ?_⟩⟩
   exact (ownR_same (heap_setCell_ne _ _ (Ne.symm hgp)) b).1 h'
theorem PMem.grewL (h:PMem B w p S st vA vL vC vN L)(n:Nat){g cap:Nat}(hg:w.grownBy w1 vL.ownBlock)(hat:vL.ownBlock=some g∨w.heap.size<=g)
  (hown:w1.ownsRow B 3 1 (.slice (some ⟨g,0,none⟩) (L.length+n) cap) (L.length+n) (L.map (Value.int .i64)++(List.replicate n (Value.int .i64 0))))(hl:L.length+n<=32768) :
  PMem B (w1.setCell ⟨p,2,none⟩ (.slice (some ⟨g,0,none⟩) (L.length+n) cap)) p S st vA (.slice (some ⟨g,0,none⟩) (L.length+n) cap) vC vN (L++List.replicate n 0) /\
   KeepP B p w (w1.setCell ⟨p,2,none⟩ (.slice (some ⟨g,0,none⟩) (L.length+n) cap)):=by
 obtain⟨nL,nC,nN⟩:=h.cNe
 have hp1:=grown_heap h.heap nL hg
 have hgp:(Value.slice (some ⟨g,0,none⟩) (L.length+n) cap).ownBlock≠some p:=row_not hown hp1 (by decide)
 refine⟨?_,?_⟩
 · refine { ge:=h.ge,heap:=heap_setCell hp1 _,ans:=ints_set (ints_grown h.ans hg ?_) _ _ ?_,ansB:=h.ansB,rowC:=row_set (h.rowC.kept hg (rows_apart h.rowC h.rowL (by decide))) nC,rowL:=?_,rowN:=row_set (h.rowN.kept hg (rows_apart h.rowN h.rowL (by decide))) nN,loc:=h.loc.zeros n,locN:=by simpa using hl,accN:=h.accN,ansN:=h.ansN,ntsN:=h.ntsN }
   · intro b hb e
     have:=h.ansB b hb
     have:=(h.rowL.lt b e).1
     omega
   · intro b hb
     have:=h.ansB b hb
     have:=h.ge
     show b≠p
     omega
   · rw [List.length_append,List.length_replicate,List.map_append,List.map_replicate]
     exact row_set hown hgp
 · refine keep_field h.ge h.heap hg (fun b hb=>⟨(h.rowL.lt b hb).1,ownR_at h.heap (by simp) (i:=2) rfl hb⟩) nL rfl fun b hb=>?_
   obtain rfl:g=b:=by simpa [Value.ownBlock] using hb
   rcases hat with h1 | h1
   · exact .inl (ownR_at h.heap (by simp) (i:=2) rfl h1)
   · exact .inr h1
end
set_option maxRecDepth 100000 in
theorem set_p (B p:Nat)(S:TS)(i v:Int)(w:World)(h:Plays B w p S) :
  Calls Tryz.prog 108 #[.pointer (some ⟨p,0,none⟩),.int .i64 i,.int .i64 v] w fun e w'=>e=.returned (.tuple #[])/\Plays B w' p (S.upd i v)/\KeepP B p w w':=by
 by_cases h0:i<0∨32768<=i
 · rw [TS.upd_out h0]
   have h':=Lib.hid h
   obtain⟨h1,vA,vL,vC,vN,L,h⟩:=h
   have hc:=cell_of_heap h.heap
   clear h
   rcases h0 with h0 | h0
   · go_enter Tryz.func108,Tryz.ntmps108
     go_wp2_with fail
     first | go_end0 | refine bodyPost_ret (results_none rfl _ _ _) rfl ?_
     exact⟨rfl,h'.out,Keep.refl _ _ _ _⟩
   · go_enter Tryz.func108,Tryz.ntmps108
     go_wp2_with fail
     first | go_end0 | refine bodyPost_ret (results_none rfl _ _ _) rfl ?_
     exact⟨rfl,h'.out,Keep.refl _ _ _ _⟩
 · obtain⟨i,rfl⟩:∃ n:Nat,i=(n:Int):=⟨i.toNat,by omega⟩
   have hi:i<32768:=by omega
   clear h0
   have h':=Lib.hid h
   obtain⟨h1,vA,vL,vC,vN,L,h⟩:=h
   have hc:=cell_of_heap h.heap
   have hI:Ints w vL L:=IntRow.ints h.rowL
   have hLn:=h.locN
   obtain⟨A,c,rfl,hc1,hc2⟩:=hI.slice
   by_cases hin:i<L.length
   · obtain⟨g,rfl⟩:∃ g,A=some ⟨g,0,none⟩:=by
      rcases h.rowL.2 with⟨e,h0⟩ | ⟨g,cap,cur,e,_⟩
      · omega
      · injection e with e1 e2 e3
        exact⟨g,e1⟩
     obtain⟨HM,HK⟩:=h.stored i hin v
     obtain⟨b,off,he,hb,hcell⟩:=hI.at_ hin
     injection he with he
     injection he with e1 e2
     subst e1 e2
     rw [Nat.zero_add] at hcell
     have hfz:=h.rowL.frozenAt i
     have HP:Plays B _ p (S.upd i v):=⟨by rw [TS.upd_acc,TS.upd_ans];exact h1,_,_,_,_,_,HM⟩
     have HPh:=Lib.hid HP
     have HKh:=Lib.hid HK
     clear HM HK HP h hI
     go_enter Tryz.func108,Tryz.ntmps108
     go_wp2_with fail
     first | go_end0 | refine bodyPost_ret (results_none rfl _ _ _) rfl ?_
     exact⟨rfl,HPh.out,HKh.out⟩
   · by_cases hv:v=0
     · subst hv
       rw [TS.upd_zero h.loc (by omega)]
       clear h hI
       go_enter Tryz.func108,Tryz.ntmps108
       go_wp2_with fail
       first | go_end0 | refine bodyPost_ret (results_none rfl _ _ _) rfl ?_
       exact⟨rfl,h'.out,Keep.refl _ _ _ _⟩
     · have hvb:(v==0)=false:=by rw [beq_eq_false_iff_ne];exact hv
       obtain⟨i0,hi0,hz0,hz1,hz2⟩:=info_parts info_int
       obtain⟨m,hm⟩:∃ m,L.length+m=i+1:=⟨i+1-L.length,by omega⟩
       have hw:IntKind.i64.wrap (IntKind.i64.wrap ((i:Int)+1)-(L.length:Int))=(m:Int):=by rw [IntKind.wrap_i64,IntKind.wrap_i64];omega
       have hL:=Lib.hid h
       have hmh:=Lib.hid hm
       clear h hI hm
       have hm0:0<m:=by have:=hmh.out;omega
       go_enter Tryz.func108,Tryz.ntmps108
       go_wp2_with fail
       go_region_law ((refine step_append_zeros _ (by rfl) _ _ _ _ (by rfl) B 3 i0 (.int .i64 0) 8 .i64 Tryz.underlying22 Tryz.underlying3 hi0 hz0 hz1 hz2 rfl rfl (Value.slice A L.length c) L.length (L.map (Value.int .i64)) (by rfl) (World.ownsRow.drew hL.out.rowL) m (by first | rfl | (simp only [hw];done)) hm0 (by have:=hmh.out;unfold maxLen;omega) (by have:=hmh.out;omega) (by have:=hL.out.lt;have:=hL.out.ge;simp;omega) ?_;intro gg cap w1 hown1 hgrow hat;have hp1:=grown_heap hL.out.heap hL.out.cNe.1 (grown0 hgrow);have hq1:=cell_of_heap hp1;have hf1:=frozen_of_heap hp1))
       all_goals
        obtain⟨HM,HK⟩:=hL.out.grewL m (grown0 hgrow) (hat.imp id (fun e=>Nat.le_of_eq e.symm)) hown1 (by have:=hmh.out;omega)
        clear hown1 hgrow hat hp1 hq1 hf1 hc hL
        generalize w1.setCell ⟨p,2,none⟩ (.slice (some ⟨gg,0,none⟩) (L.length+m) cap)=W at *
        clear w1
        have hlen:L.length+m=(L++List.replicate m (0:Int)).length:=by simp
        rw [hlen] at HM ⊢
        have hi2:i<(L++List.replicate m (0:Int)).length:=by have:=hmh.out;omega
        generalize L++List.replicate m (0:Int)=L2 at *
        have hq:=cell_of_heap HM.heap
        obtain⟨HM2,HK2⟩:=HM.stored i hi2 v
        have hfz:=HM.rowL.frozenAt i
        have hcl:W.cell? ⟨gg,i,none⟩=some (.int .i64 (L2.getD i 0)):=by
         obtain⟨b,off,he,_,hcell⟩:=(IntRow.ints HM.rowL).at_ hi2
         injection he with he
         injection he with e1 e2
         subst e1 e2
         rw [Nat.zero_add] at hcell
         exact hcell
        have HP:Plays B _ p (S.upd i v):=⟨by rw [TS.upd_acc,TS.upd_ans];exact h1,_,_,_,_,_,HM2⟩
        have HPh:=Lib.hid HP
        have HKh:=Lib.hid (HK.trans HK2)
        clear HM HK HP HM2 HK2 hlen hmh hm0 hw hin hLn
        go_wp2_with fail
        first | go_end0 | refine bodyPost_ret (results_none rfl _ _ _) rfl ?_
        exact⟨rfl,HPh.out,HKh.out⟩
structure RMem (B:Nat) (w:World) (p:Nat) (S:TS) (n:Nat) (o:Bool) (vA vC vN vL:Value) (L:List Int):Prop where
 ge:B<=p
 heap:w.heap[p]?=some (.cells #[vA,.int .i64 n,.bool o,vC,vN,vL] 71 (0,0))
 ans:Ints w vA S.ans
 ansB:∀ b,vA.ownBlock=some b->b<B
 rowL:w.ownsRow B 3 1 vL L.length (L.map (Value.int .i64))
 rowC:w.ownsRow B 56 3 vC S.acc.length (accVals S.acc)
 rowN:w.ownsRow B 77 2 vN S.nts.length (ntVals S.nts)
 loc:LocIs L S.loc
 locN:L.length<=32768
 accN:S.acc.length<=S.ans.length+1
 ansN:S.ans.length<=maxAns
 ntsN:S.nts.length<=maxAns
def RAt (B:Nat) (w:World) (p:Nat) (o:Bool) (S:TS):Prop:=∃ n vA vC vN vL L,RMem B w p S n o vA vC vN vL L/\n=min S.acc.length S.ans.length/\o=decide (S.ans.length<S.acc.length)
abbrev KeepR (B p:Nat) (w w':World):Prop:=Keep [3,4,5] B p w w'
abbrev HeldR (w:World) (p b:Nat) (o:Obj):Prop:=Held [3,4,5] w p b o
section
variable {B p:Nat} {w w' w1:World} {S:TS} {n:Nat} {o:Bool} {vA vL vC vN:Value} {L:List Int}
theorem RMem.lt (h:RMem B w p S n o vA vC vN vL L):p<w.heap.size:=(Array.getElem?_eq_some_iff.1 h.heap).1
theorem RMem.own (h:RMem B w p S n o vA vC vN vL L){b:Nat}(hb:ownR [3,4,5] w p b):B<=b/\b<w.heap.size:=by
 rcases hb with rfl | ⟨i,hi,v,hv,hvb⟩
 · exact⟨h.ge,h.lt⟩
 · have e:=cell_of_heap h.heap i
   simp only [List.mem_cons,List.not_mem_nil,or_false] at hi
   rcases hi with rfl | rfl | rfl
   · obtain rfl:vC=v:=by rw [e] at hv;simpa using hv
     exact h.rowC.lt b hvb
   · obtain rfl:vN=v:=by rw [e] at hv;simpa using hv
     exact h.rowN.lt b hvb
   · obtain rfl:vL=v:=by rw [e] at hv;simpa using hv
     exact h.rowL.lt b hvb
theorem RMem.ext (h:RMem B w p S n o vA vC vN vL L)(hx:Ext w w'):RMem B w' p S n o vA vC vN vL L :=
 { h with heap:=(Below.block hx p h.lt).trans h.heap,ans:=h.ans.ext hx,rowL:=row_ext h.rowL hx,rowC:=row_ext h.rowC hx,rowN:=row_ext h.rowN hx }
theorem RAt.ext (h:RAt B w p o S)(hx:Ext w w'):RAt B w' p o S:=by
 obtain⟨n,vA,vC,vN,vL,L,h,h0⟩:=h
 exact⟨n,vA,vC,vN,vL,L,h.ext hx,h0⟩
theorem RAt.alloc (h:RAt B w p o S)(ob:Obj):RAt B (w.alloc ob) p o S:=h.ext ((Ext.refl w).alloc ob)
theorem RAt.lt (h:RAt B w p o S):p<w.heap.size:=by obtain⟨_,_,_,_,_,_,h,_⟩:=h;exact h.lt
theorem RAt.le (h:RAt B w p o S):B<=w.heap.size:=by obtain⟨_,_,_,_,_,_,h,_⟩:=h;have:=h.lt;have:=h.ge;omega
theorem RAt.held (h:RAt B w p o S)(ob:Obj):HeldR (w.alloc ob) p w.heap.size ob:=by
 refine⟨heap_alloc_new w ob,fun ho=>?_⟩
 obtain⟨_,_,_,_,_,_,h,_⟩:=h
 have h1:=(ownR_same (w:=w) (Below.heap_alloc w ob p h.lt) _).1 ho
 have:=(h.own h1).2
 omega
theorem RMem.cNe (h:RMem B w p S n o vA vC vN vL L):vL.ownBlock≠some p/\vC.ownBlock≠some p/\vN.ownBlock≠some p :=
 ⟨row_not h.rowL h.heap (by decide),row_not h.rowC h.heap (by decide),row_not h.rowN h.heap (by decide)⟩
theorem RMem.told (h:RMem B w p S n o vA vC vN vL L)(m:Nat):RMem B (w.setCell ⟨p,1,none⟩ (.int .i64 m)) p S m o vA vC vN vL L/\KeepR B p w (w.setCell ⟨p,1,none⟩ (.int .i64 m)):=by
 obtain⟨nL,nC,nN⟩:=h.cNe
 refine⟨{ h with heap:=heap_setCell h.heap _,ans:=ints_set h.ans _ _ ?_,rowL:=row_set h.rowL nL,rowC:=row_set h.rowC nC,rowN:=row_set h.rowN nN },?_⟩
 · intro b hb
   have:=h.ansB b hb
   have:=h.ge
   show b≠p
   omega
 · exact keep_field (row:=none) h.ge h.heap (World.grownBy.refl _ _) (fun b hb=>by cases hb) (by simp) rfl (fun b hb=>by simp [Value.ownBlock] at hb)
theorem RMem.ended (h:RMem B w p S n o vA vC vN vL L)(o':Bool):RMem B (w.setCell ⟨p,2,none⟩ (.bool o')) p S n o' vA vC vN vL L/\KeepR B p w (w.setCell ⟨p,2,none⟩ (.bool o')):=by
 obtain⟨nL,nC,nN⟩:=h.cNe
 refine⟨{ h with heap:=heap_setCell h.heap _,ans:=ints_set h.ans _ _ ?_,rowL:=row_set h.rowL nL,rowC:=row_set h.rowC nC,rowN:=row_set h.rowN nN },?_⟩
 · intro b hb
   have:=h.ansB b hb
   have:=h.ge
   show b≠p
   omega
 · exact keep_field (row:=none) h.ge h.heap (World.grownBy.refl _ _) (fun b hb=>by cases hb) (by simp) rfl (fun b hb=>by simp [Value.ownBlock] at hb)
theorem RMem.grewC (h:RMem B w p S n o vA vC vN vL L)(a:Acc){g cap:Nat}(hg:w.grownBy w1 vC.ownBlock)(hat:vC.ownBlock=some g∨w.heap.size<=g)
  (hown:w1.ownsRow B 56 3 (.slice (some ⟨g,0,none⟩) (S.acc.length+1) cap) (S.acc.length+1) (accVals S.acc++[.int .i64 a.kind,.int .i64 a.cell,.int .i64 a.val]))(hl:S.acc.length<=S.ans.length) :
  RMem B (w1.setCell ⟨p,3,none⟩ (.slice (some ⟨g,0,none⟩) (S.acc.length+1) cap)) p (S.put a) n o vA (.slice (some ⟨g,0,none⟩) (S.acc.length+1) cap) vN vL L /\
   KeepR B p w (w1.setCell ⟨p,3,none⟩ (.slice (some ⟨g,0,none⟩) (S.acc.length+1) cap)):=by
 obtain⟨nL,nC,nN⟩:=h.cNe
 have hp1:=grown_heap h.heap nC hg
 have hgp:(Value.slice (some ⟨g,0,none⟩) (S.acc.length+1) cap).ownBlock≠some p:=row_not hown hp1 (by decide)
 refine⟨?_,?_⟩
 · refine { ge:=h.ge,heap:=heap_setCell hp1 _,ans:=ints_set (ints_grown h.ans hg ?_) _ _ ?_,ansB:=h.ansB,rowL:=row_set (h.rowL.kept hg (rows_apart h.rowL h.rowC (by decide))) nL,rowC:=?_,rowN:=row_set (h.rowN.kept hg (rows_apart h.rowN h.rowC (by decide))) nN,loc:=h.loc,locN:=h.locN,accN:=?_,ansN:=h.ansN,ntsN:=h.ntsN }
   · intro b hb e
     have:=h.ansB b hb
     have:=(h.rowC.lt b e).1
     omega
   · intro b hb
     have:=h.ansB b hb
     have:=h.ge
     show b≠p
     omega
   · have e:(S.put a).acc=S.acc++[a]:=rfl
     rw [e,accVals_snoc,List.length_append,List.length_singleton]
     exact row_set hown hgp
   · have e:(S.put a).acc=S.acc++[a]:=rfl
     rw [e,List.length_append,List.length_singleton]
     show S.acc.length+1<=S.ans.length+1
     omega
 · refine keep_field h.ge h.heap hg (fun b hb=>⟨(h.rowC.lt b hb).1,ownR_at h.heap (by simp) (i:=3) rfl hb⟩) nC rfl fun b hb=>?_
   obtain rfl:g=b:=by simpa [Value.ownBlock] using hb
   rcases hat with h1 | h1
   · exact .inl (ownR_at h.heap (by simp) (i:=3) rfl h1)
   · exact .inr h1
theorem RMem.stored {g cap:Nat}(h:RMem B w p S n o vA vC vN (.slice (some ⟨g,0,none⟩) L.length cap) L)(i:Nat)(hi:i<L.length)(v:Int) :
  RMem B (w.setCell ⟨g,i,none⟩ (.int .i64 v)) p (S.upd i v) n o vA vC vN (.slice (some ⟨g,0,none⟩) L.length cap) (L.set i v)/\KeepR B p w (w.setCell ⟨g,i,none⟩ (.int .i64 v)):=by
 obtain⟨nL,nC,nN⟩:=h.cNe
 have hgp:g≠p:=fun e=>nL (by rw [e];rfl)
 obtain⟨hs1,hs2⟩:=h.rowL.stored i (.int .i64 v)
 have hlt:=h.locN
 have hu:=TS.upd_in (S:=S) (show i<32768 by omega) v
 have hgB:=(h.rowL.lt g rfl).1
 refine⟨{ ge:=h.ge,heap:=?_,ans:=?_,ansB:=h.ansB,rowL:=?_,rowC:=?_,rowN:=?_,loc:=?_,locN:=by simpa using h.locN,accN:=?_,ansN:=?_,ntsN:=?_ },?_⟩
 · rw [heap_setCell_ne _ _ (Ne.symm hgp)];exact h.heap
 · rw [hu]
   exact ints_set h.ans _ _ (fun b hb=>by have:=h.ansB b hb;show b≠g;omega)
 · rw [List.map_set,List.length_set];exact hs1
 · rw [hu]
   exact row_set h.rowC (fun e=>by
    have:=rows_apart h.rowC h.rowL (by decide)
    rw [e] at this
    simp [Value.ownBlock] at this)
 · rw [hu]
   exact row_set h.rowN (fun e=>by
    have:=rows_apart h.rowN h.rowL (by decide)
    rw [e] at this
    simp [Value.ownBlock] at this)
 · rw [hu];exact h.loc.set i hi v
 · rw [hu];exact h.accN
 · rw [hu];exact h.ansN
 · rw [hu];exact h.ntsN
 · have ho:ownR [3,4,5] w p g:=ownR_at h.heap (by simp) (i:=5) rfl rfl
   refine⟨⟨rfl,rfl,rfl,by simp,fun k hk=>heap_setCell_ne _ _ (by omega)⟩,fun b hb hn=>⟨heap_setCell_ne _ _ (fun e=>hn (e▸ho)),fun h'=>hn ?_⟩⟩
   exact (ownR_same (heap_setCell_ne _ _ (Ne.symm hgp)) b).1 h'
theorem RMem.grewL (h:RMem B w p S n o vA vC vN vL L){g cap:Nat}(hg:w.grownBy w1 vL.ownBlock)(hat:vL.ownBlock=some g∨w.heap.size<=g)
  (hown:w1.ownsRow B 3 1 (.slice (some ⟨g,0,none⟩) (L.length+1) cap) (L.length+1) (L.map (Value.int .i64)++[Value.int .i64 0]))(hl:L.length+1<=32768) :
  RMem B (w1.setCell ⟨p,5,none⟩ (.slice (some ⟨g,0,none⟩) (L.length+1) cap)) p S n o vA vC vN (.slice (some ⟨g,0,none⟩) (L.length+1) cap) (L++[0]) /\
   KeepR B p w (w1.setCell ⟨p,5,none⟩ (.slice (some ⟨g,0,none⟩) (L.length+1) cap)):=by
 obtain⟨nL,nC,nN⟩:=h.cNe
 have hp1:=grown_heap h.heap nL hg
 have hgp:(Value.slice (some ⟨g,0,none⟩) (L.length+1) cap).ownBlock≠some p:=row_not hown hp1 (by decide)
 refine⟨?_,?_⟩
 · refine { ge:=h.ge,heap:=heap_setCell hp1 _,ans:=ints_set (ints_grown h.ans hg ?_) _ _ ?_,ansB:=h.ansB,rowC:=row_set (h.rowC.kept hg (rows_apart h.rowC h.rowL (by decide))) nC,rowL:=?_,rowN:=row_set (h.rowN.kept hg (rows_apart h.rowN h.rowL (by decide))) nN,loc:=h.loc.zeros 1,locN:=by simpa using hl,accN:=h.accN,ansN:=h.ansN,ntsN:=h.ntsN }
   · intro b hb e
     have:=h.ansB b hb
     have:=(h.rowL.lt b e).1
     omega
   · intro b hb
     have:=h.ansB b hb
     have:=h.ge
     show b≠p
     omega
   · rw [List.length_append,List.length_singleton,List.map_append]
     exact row_set hown hgp
 · refine keep_field h.ge h.heap hg (fun b hb=>⟨(h.rowL.lt b hb).1,ownR_at h.heap (by simp) (i:=5) rfl hb⟩) nL rfl fun b hb=>?_
   obtain rfl:g=b:=by simpa [Value.ownBlock] using hb
   rcases hat with h1 | h1
   · exact .inl (ownR_at h.heap (by simp) (i:=5) rfl h1)
   · exact .inr h1
end
theorem RAt.entry {B p:Nat}{o:Bool}{S:TS}{w:World}(h:RAt B w p o S)(a:Obj):HeldR (w.alloc a) p w.heap.size a/\Keep [3,4,5] B p w (w.alloc a)/\RAt B (w.alloc a) p o S :=
 ⟨h.held a,(Keep.refl [3,4,5] B p w).trans (Keep.alloc a h.lt h.le),h.alloc a⟩
theorem RAt.entry2 {B p:Nat}{o:Bool}{S:TS}{w:World}(h:RAt B w p o S)(a b:Obj):HeldR ((w.alloc a).alloc b) p w.heap.size a/\HeldR ((w.alloc a).alloc b) p (w.heap.size+1) b/\Keep [3,4,5] B p w ((w.alloc a).alloc b)/\RAt B ((w.alloc a).alloc b) p o S:=by
 have h2:=(h.alloc a).held b
 rw [World.size_alloc] at h2
 exact⟨(h.held a).alloc b (h.alloc a).lt,h2,((Keep.refl [3,4,5] B p w).trans (Keep.alloc a h.lt h.le)).trans (Keep.alloc b (h.alloc a).lt (h.alloc a).le),(h.alloc a).alloc b⟩
theorem wp_scope_fwd {P:Program}{a:Act}{w:World}{Q:Exit->Act->World->Prop}{c rest:Code}(l:Nat)(hf:findLabel c l=some rest)
  (first:c.wp P (Exit.jump l (fun a' w'=>rest.wp P (Exit.noGoto Q) a' w') Q) a w):(Code.scope c).wp P Q a w:=by
 refine wp_scope_jumps l (fun a' w'=>rest.wp P (Exit.noGoto Q) a' w') (fun _ _=>0) hf first fun a' w' h=>Code.wp_mono (fun e a2 w2 hq=>?_) h
 cases e <;> first | exact hq | exact hq.elim
theorem Plays.drew {B p:Nat}{w:World}{S:TS}(h:Plays B w p S):Plays B w.drew p S:=h.ext (Ext.refl w).drew
theorem Keep.drew {ix:List Nat}{B p:Nat}{w w':World}(h:Keep ix B p w w'):Keep ix B p w w'.drew:=⟨⟨h.below.os,h.below.tape,h.below.output,h.below.size,h.below.block⟩,h.rest⟩
theorem Held.drew {ix:List Nat}{p b:Nat}{w:World}{o:Obj}(h:Held ix w p b o):Held ix w.drew p b o:=h
def stopE (p:Nat):Ending:=.panicked [{ v:=.iface 66 (.agg #[.pointer (some ⟨p,0,none⟩)]),recovered:=false }]
def Post {α:Type} (enc:α->Value) (B p:Nat) (w0:World) (r:Option α × TS) (e:Ending) (w':World):Prop :=
 match r.1 with
 | some v=>e=.returned (enc v)/\Plays B w' p r.2/\KeepP B p w0 w'
 | none=>e=stopE p/\Stops B w' p r.2/\KeepP B p w0 w'
def Owes {α:Type} (R:Ending->World->Prop) (enc:α->Value) (B p:Nat) (w0:World) (r:Option α × TS):Prop:=∀ e w',Post enc B p w0 r e w'->R e w'
theorem owes {α:Type}(enc:α->Value)(B p:Nat)(w0:World)(r:Option α × TS):Owes (Post enc B p w0 r) enc B p w0 r:=fun _ _ h=>h
def encI (x:Int):Value:=.int .i64 x
def encU (_:Unit):Value:=.tuple #[]
def encB (b:Bool):Value:=.bool b
@[go_sem] theorem encI_eq (x:Int):encI x=.int .i64 x:=rfl
@[go_sem] theorem encU_eq (x:Unit):encU x=.tuple #[]:=rfl
@[go_sem] theorem encB_eq (x:Bool):encB x=.bool x:=rfl
section
variable {α β:Type} {B p:Nat} {w0 w:World} {S:TS} {R:Ending->World->Prop}
theorem Owes.done {enc:α->Value}{v:α}{w':World}(h:Owes R enc B p w0 (some v,S))(h1:Plays B w' p S)(h2:KeepP B p w0 w'):R (.returned (enc v)) w':=h _ _ ⟨rfl,h1,h2⟩
theorem Owes.stop {enc:α->Value}{w':World}(h:Owes R enc B p w0 (none,S))(h1:Stops B w' p S)(h2:KeepP B p w0 w'):R (stopE p) w':=h _ _ ⟨rfl,h1,h2⟩
theorem tstep {P:Program}{f:FuncId}{args:Array Value}{K:Ending->World->Prop}{enc:α->Value}{enc':β->Value}{T:Prog α}{g:α->Prog β}
  (hO:Owes R enc' B p w0 ((T.bind g).run S))(hB:KeepP B p w0 w)(h:Calls P f args w (Post enc B p w (T.run S)))(hp:∀ w',R (stopE p) w'->K (stopE p) w')
  (hk:∀ v S1 w1,T.run S=(some v,S1)->Plays B w1 p S1->KeepP B p w w1->KeepP B p w0 w1->Owes R enc' B p w0 ((g v).run S1)->K (.returned (enc v)) w1):Calls P f args w K:=by
 refine h.mono fun e w1 hp1=>?_
 unfold Post at hp1
 generalize hr:T.run S=r at hp1
 obtain⟨o,S1⟩:=r
 cases o with
 | some v =>
   obtain⟨rfl,h1,h2⟩:=hp1
   rw [Prog.run_bind_some hr] at hO
   exact hk v S1 w1 hr h1 h2 (hB.trans h2) hO
 | none =>
   obtain⟨rfl,h1,h2⟩:=hp1
   rw [Prog.run_bind_none hr] at hO
   exact hp w1 (hO.stop h1 (hB.trans h2))
theorem tlast {P:Program}{f:FuncId}{args:Array Value}{K:Ending->World->Prop}{enc enc':α->Value}{T:Prog α}
  (hO:Owes R enc' B p w0 (T.run S))(hB:KeepP B p w0 w)(h:Calls P f args w (Post enc B p w (T.run S)))(hp:∀ w',R (stopE p) w'->K (stopE p) w')
  (hk:∀ v S1 w1,T.run S=(some v,S1)->Plays B w1 p S1->KeepP B p w w1->KeepP B p w0 w1->Owes R enc' B p w0 (some v,S1)->K (.returned (enc v)) w1):Calls P f args w K:=by
 rw [<- Prog.bind_id T] at hO
 exact tstep hO hB h hp hk
theorem run_gt (l:Int)(g:Int->Prog α)(S:TS):((gt l).bind g).run S=(g (S.got l)).run S:=rfl
theorem run_gt1 (l:Int)(S:TS):(gt l).run S=(some (S.got l),S):=rfl
end
theorem read_p (B p:Nat)(S:TS)(c:Int)(w:World)(h:Plays B w p S):Calls Tryz.prog 78 #[.pointer (some ⟨p,0,none⟩),.int .i64 c] w (Post encI B p w ((rd c).run S)):=by
 cases hx:S.next with
 | some x =>
   have hr:(rd c).run S=(some x,S.put ⟨1,c,0⟩):=by simp [rd,Prog.run,hx]
   rw [hr]
   have hA:=ask_p B p S 1 c 0 x w h hx
   clear hr hx
   go_enter Tryz.func78,Tryz.ntmps78
   go_wp2_with fail
   refine hA.mono ?_
   rintro e w' ⟨rfl,h1,h2⟩
   have HH:Hid (Plays B w' p (S.put ⟨1,c,0⟩)/\KeepP B p w w'):=⟨h1,h2⟩
   clear h1 h2
   go_wp2_with fail
   go_ret
   exact⟨rfl,HH.out.1,HH.out.2⟩
 | none =>
   have hr:(rd c).run S=(none,S.put ⟨1,c,0⟩):=by simp [rd,Prog.run,hx]
   rw [hr]
   have hA:=ask_s B p S 1 c 0 w h hx
   clear hr hx
   go_enter Tryz.func78,Tryz.ntmps78
   go_wp2_with fail
   refine hA.mono ?_
   rintro e w' ⟨rfl,h1,h2⟩
   exact⟨rfl,rfl,h1,h2⟩
theorem write_p (B p:Nat)(S:TS)(c v:Int)(w:World)(h:Plays B w p S):Calls Tryz.prog 71 #[.pointer (some ⟨p,0,none⟩),.int .i64 c,.int .i64 v] w (Post encU B p w ((wr c v).run S)):=by
 cases hx:S.next with
 | some x =>
   have hr:(wr c v).run S=(some (),S.put ⟨2,c,v⟩):=by simp [wr,Prog.run,hx]
   rw [hr]
   have hA:=ask_p B p S 2 c v x w h hx
   clear hr hx
   go_enter Tryz.func71,Tryz.ntmps71
   go_wp2_with fail
   refine hA.mono ?_
   rintro e w' ⟨rfl,h1,h2⟩
   have HH:Hid (Plays B w' p (S.put ⟨2,c,v⟩)/\KeepP B p w w'):=⟨h1,h2⟩
   clear h1 h2
   go_wp2_with fail
   first | go_end0 | refine bodyPost_ret (results_none rfl _ _ _) rfl ?_
   exact⟨rfl,HH.out.1,HH.out.2⟩
 | none =>
   have hr:(wr c v).run S=(none,S.put ⟨2,c,v⟩):=by simp [wr,Prog.run,hx]
   rw [hr]
   have hA:=ask_s B p S 2 c v w h hx
   clear hr hx
   go_enter Tryz.func71,Tryz.ntmps71
   go_wp2_with fail
   refine hA.mono ?_
   rintro e w' ⟨rfl,h1,h2⟩
   exact⟨rfl,rfl,h1,h2⟩
theorem setO {B p:Nat}{S:TS}{i v:Int}{w:World}(h:Plays B w p S):Calls Tryz.prog 108 #[.pointer (some ⟨p,0,none⟩),.int .i64 i,.int .i64 v] w (Post encU B p w ((st i v).run S)) :=
 (set_p B p S i v w h).mono fun _ _ ⟨h1,h2,h3⟩=>⟨h1,h2,h3⟩
section
variable {α β:Type} {B p:Nat} {w0 w:World} {o:Bool} {S:TS} {R:Ending->World->Prop}
def RPost {α:Type} (enc:α->Value) (B p:Nat) (w0:World) (T:Prog α) (o:Bool) (S:TS) (e:Ending) (w':World):Prop :=
 ∃ a o' S',e=.returned (enc a)/\Ref T o S a o' S'/\RAt B w' p o' S'/\KeepR B p w0 w'
def ROwes {α:Type} (R:Ending->World->Prop) (enc:α->Value) (B p:Nat) (w0:World) (T:Prog α) (o:Bool) (S:TS):Prop:=∀ e w',RPost enc B p w0 T o S e w'->R e w'
theorem rowes {α:Type}(enc:α->Value)(B p:Nat)(w0:World)(T:Prog α)(o:Bool)(S:TS):ROwes (RPost enc B p w0 T o S) enc B p w0 T o S:=fun _ _ h=>h
theorem ROwes.ret {enc:α->Value}{a:α}{w':World}(h:ROwes R enc B p w0 (.ret a) o S)(h1:RAt B w' p o S)(h2:KeepR B p w0 w'):R (.returned (enc a)) w':=h _ _ ⟨a,o,S,rfl,Ref.ret a o S,h1,h2⟩
theorem ROwes.over {enc:α->Value}{T:Prog α}(a:α){w':World}(h:ROwes R enc B p w0 T true S)(h1:RAt B w' p true S)(h2:KeepR B p w0 w'):R (.returned (enc a)) w':=h _ _ ⟨a,true,S,rfl,.over _ _,h1,h2⟩
theorem ROwes.any {enc:α->Value}{T:Prog α}(h:ROwes R enc B p w0 T true S)(T':Prog α):ROwes R enc B p w0 T' true S:=by
 rintro e w' ⟨a,o',S',rfl,hr,h1,h2⟩
 cases hr
 exact h.over a h1 h2
theorem ROwes.then {enc:α->Value}{T:Prog β}{g:β->Prog α}{v:β}{o1:Bool}{S1:TS}(h:ROwes R enc B p w0 (T.bind g) o S)(hr:Ref T o S v o1 S1):ROwes R enc B p w0 (g v) o1 S1:=by
 rintro e w' ⟨a,o',S',rfl,hr',h1,h2⟩
 exact h _ _ ⟨a,o',S',rfl,hr.bind hr',h1,h2⟩
theorem rstep {P:Program}{f:FuncId}{args:Array Value}{K:Ending->World->Prop}{enc:α->Value}{enc':β->Value}{T:Prog α}{g:α->Prog β}
  (hO:ROwes R enc' B p w0 (T.bind g) o S)(hB:KeepR B p w0 w)(h:Calls P f args w (RPost enc B p w T o S))
  (hk:∀ v o1 S1 w1,RAt B w1 p o1 S1->KeepR B p w w1->KeepR B p w0 w1->ROwes R enc' B p w0 (g v) o1 S1->K (.returned (enc v)) w1):Calls P f args w K:=by
 refine h.mono fun e w1 hp1=>?_
 obtain⟨a,o',S',rfl,hr,h1,h2⟩:=hp1
 exact hk a o' S' w1 h1 h2 (hB.trans h2) (hO.then hr)
theorem rlast {P:Program}{f:FuncId}{args:Array Value}{K:Ending->World->Prop}{enc enc':α->Value}{T:Prog α}
  (hO:ROwes R enc' B p w0 T o S)(hB:KeepR B p w0 w)(h:Calls P f args w (RPost enc B p w T o S))
  (hk:∀ v o1 S1 w1,RAt B w1 p o1 S1->KeepR B p w w1->KeepR B p w0 w1->ROwes R enc' B p w0 (.ret v) o1 S1->K (.returned (enc v)) w1):Calls P f args w K:=by
 rw [<- Prog.bind_id T] at hO
 exact rstep hO hB h hk
theorem RAt.drew (h:RAt B w p o S):RAt B w.drew p o S:=h.ext (Ext.refl w).drew
theorem RAt.cell (h:RAt B w p o S):∃ vA n vC vN vL,∀ i,w.cell? ⟨p,i,none⟩=(#[vA,.int .i64 n,.bool o,vC,vN,vL]:Array Value)[i]?:=by
 obtain⟨n,vA,vC,vN,vL,L,h,_⟩:=h
 exact⟨_,_,_,_,_,cell_of_heap h.heap⟩
end
theorem get_r (B p:Nat)(o:Bool)(S:TS)(i:Int)(w:World)(h:RAt B w p o S) :
  Calls Tryz.prog 130 #[.pointer (some ⟨p,0,none⟩),.int .i64 i] w fun e w'=>e=.returned (.int .i64 (S.got i))/\w=w':=by
 obtain⟨n,vA,vC,vN,vL,L,h,_⟩:=h
 have hc:=cell_of_heap h.heap
 have hI:Ints w vL L:=IntRow.ints h.rowL
 by_cases h0:i<0
 · rw [got_neg h0]
   go_enter Tryz.func130,Tryz.ntmps130
   go_wp2_with fail
   go_ret
   exact⟨rfl,rfl⟩
 · obtain⟨i,rfl⟩:∃ n:Nat,i=(n:Int):=⟨i.toNat,by omega⟩
   obtain⟨A,c,rfl,hc1,hc2⟩:=hI.slice
   by_cases h1:i<L.length
   · obtain⟨b,off,rfl,hb,hcell⟩:=hI.at_ h1
     rw [got_at h.loc]
     clear h hI
     go_enter Tryz.func130,Tryz.ntmps130
     go_wp2_with fail
     go_ret
     exact⟨rfl,rfl⟩
   · rw [got_out h.loc i (by omega)]
     clear h hI
     go_enter Tryz.func130,Tryz.ntmps130
     go_wp2_with fail
     go_ret
     exact⟨rfl,rfl⟩
theorem access_o (B p:Nat)(S:TS)(k c v:Int)(w:World)(h:RAt B w p true S) :
  Calls Tryz.prog 129 #[.pointer (some ⟨p,0,none⟩),.agg #[.int .i64 k,.int .i64 c,.int .i64 v]] w fun e w'=>e=.returned (.int .i64 0)/\RAt B w' p true S/\KeepR B p w w':=by
 have hP:=Lib.hid (h.alloc (.cells #[.int .i64 k,.int .i64 c,.int .i64 v] 56))
 have hK:Hid (KeepR B p w (w.alloc (.cells #[.int .i64 k,.int .i64 c,.int .i64 v] 56))):=Lib.hid (Keep.alloc _ h.lt h.le)
 have hlt:=h.lt
 obtain⟨vA,n,vC,vN,vL,hc⟩:=h.cell
 clear h
 go_enter Tryz.func129,Tryz.ntmps129
 go_wp2_with fail
 go_ret
 exact⟨rfl,hP.out,hK.out⟩
set_option maxRecDepth 100000 in
theorem access_p (B p:Nat)(S:TS)(k c v x:Int)(w:World)(h:RAt B w p false S)(hx:S.next=some x) :
  Calls Tryz.prog 129 #[.pointer (some ⟨p,0,none⟩),.agg #[.int .i64 k,.int .i64 c,.int .i64 v]] w fun e w'=>e=.returned (.int .i64 x)/\RAt B w' p false (S.put ⟨k,c,v⟩)/\KeepR B p w w':=by
 obtain⟨n,vA,vC,vN,vL,L,h,hn,-⟩:=h
 have hlt:S.acc.length<S.ans.length:=by
  unfold TS.next at hx
  exact (List.getElem?_eq_some_iff.1 hx).1
 obtain rfl:n=S.acc.length:=by omega
 clear hn
 have hx2:=Lib.hid (show S.ans.getD S.acc.length 0=x by
  unfold TS.next at hx
  simp [List.getD,hx])
 clear hx
 have hc:=cell_of_heap h.heap
 have hbo:=h.ansN
 unfold maxAns at hbo
 have hle:=h.lt
 have hge:=h.ge
 obtain⟨Aa,ca,rfl,ha1,ha2⟩:=h.ans.slice
 obtain⟨Ac,cc,hvC⟩:∃ A c,vC=.slice A S.acc.length c:=by
  rcases h.rowC.2 with⟨rfl,h0⟩ | ⟨g,cap,cur,rfl,_⟩
  · exact⟨none,0,by rw [h0]⟩
  · exact⟨_,_,rfl⟩
 subst hvC
 have hL:=Lib.hid h
 have hlt2:=Lib.hid hlt
 have h1:S.acc.length<=S.ans.length:=by omega
 clear h hlt
 obtain⟨i0,hi,hz0,hz1,hz2⟩:=info_parts info_acc
 go_enter Tryz.func129,Tryz.ntmps129
 go_wp2_with fail
 go_region_law ((refine step_append_lies _ (by rfl) _ _ _ (by rfl) B 56 i0 _ 3 24 Tryz.underlying33 hi hz0 hz1 hz2 rfl (by omega) (Value.slice Ac S.acc.length cc) S.acc.length (accVals S.acc) (by rfl) (((World.ownsRow.alloc hL.out.rowC _).drew).alloc _) ⟨w.heap.size+1,0,none⟩ 1 1 [.int .i64 k,.int .i64 c,.int .i64 v] (by rfl) (by rfl) (cells_new2 w _ _ _) (by simp [Value.oneCell']) (by omega) (by unfold maxLen;omega) (by omega) (by simp;omega) (w.heap.size+2) (by simp) ?_;intro gg cap w1 hown1 hgrow hat hlt;have hp1:=grown_heap hL.out.heap hL.out.cNe.2.1 (grown2 hgrow);have hq1:=cell_of_heap hp1;have hf1:=frozen_of_heap hp1))
 all_goals
  obtain⟨HM,HK⟩:=hL.out.grewC ⟨k,c,v⟩ (grown2 hgrow) (hat.imp id (by omega)) hown1 (Nat.le_of_lt hlt2.out)
  clear hown1 hgrow hat hlt hp1 hq1 hf1 hc
  generalize hv':(Value.slice (some ⟨gg,0,none⟩) (S.acc.length+1) cap)=v' at *
  generalize w1.setCell ⟨p,3,none⟩ v'=W at *
  clear hv' w1
  have hq:=cell_of_heap HM.heap
  have hfz:=frozen_of_heap HM.heap
  have hlt:=hlt2.out
  have HMh:=Lib.hid HM
  have HKh:=Lib.hid HK
  clear HM HK
  go_wp2_with fail
  go_quiet (fail)
  have HM:=HMh.out.ext ((Ext.refl W).drewN nq)
  have HK:=HKh.out.drewN nq
  clear hq hfz HMh HKh
  generalize W.drewN nq=W2 at *
  clear W
  have hq:=cell_of_heap HM.heap
  have hfz:=frozen_of_heap HM.heap
  have HMh:=Lib.hid HM
  have HKh:=Lib.hid HK
  clear HM HK
  go_wp2_with fail
  have e1:(S.acc.length:Int)+1=((S.acc.length+1:Nat):Int):=rfl
  obtain⟨HM,HK⟩:=HMh.out.told (S.acc.length+1)
  have HF:RAt B (W2.setCell ⟨p,1,none⟩ (.int .i64 ((S.acc.length+1:Nat):Int))) p false (S.put ⟨k,c,v⟩):=⟨_,_,_,_,_,_,HM,by show _=min (S.acc++_).length S.ans.length;simp;omega,by show _=decide (S.ans.length<(S.acc++_).length);simp;omega⟩
  replace HK:=HKh.out.trans HK
  obtain⟨b,off,rfl,hb,hcell⟩:=HM.ans.at_ (show S.acc.length<S.ans.length from hlt)
  rw [show (S.put ⟨k,c,v⟩).ans.getD S.acc.length 0=x from hx2.out] at hcell
  rw [e1]
  clear hq hfz HMh HKh
  generalize W2.setCell ⟨p,1,none⟩ (.int .i64 ((S.acc.length+1:Nat):Int))=W3 at *
  have hq:=cell_of_heap HM.heap
  have HFh:=Lib.hid HF
  have HKh:=Lib.hid HK
  clear HM HK HF e1 W2
  have hw:IntKind.i64.wrap (((S.acc.length+1:Nat):Int)-1)=(S.acc.length:Int):=by rw [IntKind.wrap_i64];omega
  go_quiet (simp only [hw])
  go_wp2_with fail
  first | go_ret | skip
  exact⟨rfl,HFh.out.ext ((Ext.refl _).drewN nq),HKh.out.drewN nq⟩
set_option maxRecDepth 100000 in
theorem access_s (B p:Nat)(S:TS)(k c v:Int)(w:World)(h:RAt B w p false S)(hx:S.next=none) :
  Calls Tryz.prog 129 #[.pointer (some ⟨p,0,none⟩),.agg #[.int .i64 k,.int .i64 c,.int .i64 v]] w fun e w'=>e=.returned (.int .i64 0)/\RAt B w' p true (S.put ⟨k,c,v⟩)/\KeepR B p w w':=by
 obtain⟨n,vA,vC,vN,vL,L,h,hn,ho⟩:=h
 have hlt:S.acc.length=S.ans.length:=by
  unfold TS.next at hx
  have:=List.getElem?_eq_none_iff.1 hx
  simp at ho
  omega
 obtain rfl:n=S.acc.length:=by omega
 clear hn hx ho
 have hc:=cell_of_heap h.heap
 have hbo:=h.ansN
 unfold maxAns at hbo
 have hle:=h.lt
 have hge:=h.ge
 obtain⟨Aa,ca,rfl,ha1,ha2⟩:=h.ans.slice
 obtain⟨Ac,cc,hvC⟩:∃ A c,vC=.slice A S.acc.length c:=by
  rcases h.rowC.2 with⟨rfl,h0⟩ | ⟨g,cap,cur,rfl,_⟩
  · exact⟨none,0,by rw [h0]⟩
  · exact⟨_,_,rfl⟩
 subst hvC
 have hL:=Lib.hid h
 have hlt2:=Lib.hid hlt
 have h1:S.acc.length<=S.ans.length:=by omega
 clear h hlt
 obtain⟨i0,hi,hz0,hz1,hz2⟩:=info_parts info_acc
 go_enter Tryz.func129,Tryz.ntmps129
 go_wp2_with fail
 go_region_law ((refine step_append_lies _ (by rfl) _ _ _ (by rfl) B 56 i0 _ 3 24 Tryz.underlying33 hi hz0 hz1 hz2 rfl (by omega) (Value.slice Ac S.acc.length cc) S.acc.length (accVals S.acc) (by rfl) (((World.ownsRow.alloc hL.out.rowC _).drew).alloc _) ⟨w.heap.size+1,0,none⟩ 1 1 [.int .i64 k,.int .i64 c,.int .i64 v] (by rfl) (by rfl) (cells_new2 w _ _ _) (by simp [Value.oneCell']) (by omega) (by unfold maxLen;omega) (by omega) (by simp;omega) (w.heap.size+2) (by simp) ?_;intro gg cap w1 hown1 hgrow hat hlt;have hp1:=grown_heap hL.out.heap hL.out.cNe.2.1 (grown2 hgrow);have hq1:=cell_of_heap hp1;have hf1:=frozen_of_heap hp1))
 all_goals
  obtain⟨HM,HK⟩:=hL.out.grewC ⟨k,c,v⟩ (grown2 hgrow) (hat.imp id (by omega)) hown1 (Nat.le_of_eq hlt2.out)
  clear hown1 hgrow hat hlt hp1 hq1 hf1 hc
  generalize hv':(Value.slice (some ⟨gg,0,none⟩) (S.acc.length+1) cap)=v' at *
  generalize w1.setCell ⟨p,3,none⟩ v'=W at *
  clear hv' w1
  have hq:=cell_of_heap HM.heap
  have hfz:=frozen_of_heap HM.heap
  have hle:S.ans.length<=S.acc.length:=by have:=hlt2.out;omega
  have HMh:=Lib.hid HM
  have HKh:=Lib.hid HK
  clear HM HK
  go_wp2_with fail
  go_quiet (fail)
  have HM:=HMh.out.ext ((Ext.refl W).drewN nq)
  have HK:=HKh.out.drewN nq
  clear hq hfz HMh HKh
  generalize W.drewN nq=W2 at *
  clear W
  have hq:=cell_of_heap HM.heap
  have hfz:=frozen_of_heap HM.heap
  obtain⟨HM2,HK2⟩:=HM.ended true
  have HF:RAt B (W2.setCell ⟨p,2,none⟩ (.bool true)) p true (S.put ⟨k,c,v⟩):=⟨_,_,_,_,_,_,HM2,by have:=hlt2.out;show _=min (S.acc++_).length S.ans.length;simp;omega,by have:=hlt2.out;show _=decide (S.ans.length<(S.acc++_).length);simp;omega⟩
  have HFh:=Lib.hid HF
  have HKh:=Lib.hid (HK.trans HK2)
  clear HM HK HM2 HK2 HF
  go_wp2_with fail
  go_ret
  exact⟨rfl,HFh.out,HKh.out⟩
section
variable {α:Type} {B p:Nat} {w0:World} {o:Bool} {S:TS} {R:Ending->World->Prop} {enc:α->Value}
theorem ref_gt (l:Int)(o:Bool)(S:TS):Ref (gt l) o S (S.got l) o S:=by
 cases o with
 | true=>exact .over _ _
 | false=>exact .done rfl
theorem ref_st (i v:Int)(S:TS):Ref (st i v) false S () false (S.upd i v):=.done rfl
theorem ROwes.get {l:Int}{g:Int->Prog α}(h:ROwes R enc B p w0 ((gt l).bind g) o S):ROwes R enc B p w0 (g (S.got l)) o S:=h.then (ref_gt l o S)
theorem ROwes.get1 {enc:Int->Value}{l:Int}(h:ROwes R enc B p w0 (gt l) o S):ROwes R enc B p w0 (.ret (S.got l)) o S:=by
 rw [<- Prog.bind_id (gt l)] at h
 exact h.then (ref_gt l o S)
end
theorem read_r (B p:Nat)(o:Bool)(S:TS)(c:Int)(w:World)(h:RAt B w p o S):Calls Tryz.prog 99 #[.pointer (some ⟨p,0,none⟩),.int .i64 c] w (RPost encI B p w (rd c) o S):=by
 generalize hR:RPost encI B p w (rd c) o S=R
 have hO:ROwes R encI B p w (rd c) o S:=hR▸rowes _ _ _ _ _ _ _
 clear hR
 cases o with
 | true =>
   go_enter Tryz.func99,Tryz.ntmps99
   go_wp2_with fail
   refine (access_o B p S 1 c 0 _ h).mono ?_
   rintro e w' ⟨rfl,h1,h2⟩
   go_wp2_with fail
   refine hO _ _ ⟨0,true,S,rfl,.over _ _,h1,h2⟩
 | false =>
   cases hx:S.next with
   | some x =>
     go_enter Tryz.func99,Tryz.ntmps99
     go_wp2_with fail
     refine (access_p B p S 1 c 0 x _ h hx).mono ?_
     rintro e w' ⟨rfl,h1,h2⟩
     go_wp2_with fail
     refine hO _ _ ⟨x,false,_,rfl,.done (by simp [rd,Prog.run,hx]),h1,h2⟩
   | none =>
     go_enter Tryz.func99,Tryz.ntmps99
     go_wp2_with fail
     refine (access_s B p S 1 c 0 _ h hx).mono ?_
     rintro e w' ⟨rfl,h1,h2⟩
     go_wp2_with fail
     refine hO _ _ ⟨0,true,_,rfl,.stop _ (by simp [rd,Prog.run,hx]),h1,h2⟩
theorem write_r (B p:Nat)(o:Bool)(S:TS)(c v:Int)(w:World)(h:RAt B w p o S):Calls Tryz.prog 92 #[.pointer (some ⟨p,0,none⟩),.int .i64 c,.int .i64 v] w (RPost encU B p w (wr c v) o S):=by
 generalize hR:RPost encU B p w (wr c v) o S=R
 have hO:ROwes R encU B p w (wr c v) o S:=hR▸rowes _ _ _ _ _ _ _
 clear hR
 cases o with
 | true =>
   go_enter Tryz.func92,Tryz.ntmps92
   go_wp2_with fail
   refine (access_o B p S 2 c v _ h).mono ?_
   rintro e w' ⟨rfl,h1,h2⟩
   go_wp2_with fail
   first | go_end0 | refine bodyPost_ret (results_none rfl _ _ _) rfl ?_
   refine hO _ _ ⟨(),true,S,rfl,.over _ _,h1,h2⟩
 | false =>
   cases hx:S.next with
   | some x =>
     go_enter Tryz.func92,Tryz.ntmps92
     go_wp2_with fail
     refine (access_p B p S 2 c v x _ h hx).mono ?_
     rintro e w' ⟨rfl,h1,h2⟩
     go_wp2_with fail
     first | go_end0 | refine bodyPost_ret (results_none rfl _ _ _) rfl ?_
     refine hO _ _ ⟨(),false,_,rfl,.done (by simp [wr,Prog.run,hx]),h1,h2⟩
   | none =>
     go_enter Tryz.func92,Tryz.ntmps92
     go_wp2_with fail
     refine (access_s B p S 2 c v _ h hx).mono ?_
     rintro e w' ⟨rfl,h1,h2⟩
     go_wp2_with fail
     first | go_end0 | refine bodyPost_ret (results_none rfl _ _ _) rfl ?_
     refine hO _ _ ⟨(),true,_,rfl,.stop _ (by simp [wr,Prog.run,hx]),h1,h2⟩
def lenAt (w:World) (p:Nat):Nat:=match w.cell? ⟨p,5,none⟩ with
 | some (.slice _ n _)=>n
 | _=>0
theorem lenAt_of {w:World}{p n c:Nat}{A:Option Addr}(h:w.cell? ⟨p,5,none⟩=some (.slice A n c)):lenAt w p=n:=by unfold lenAt;rw [h]
theorem ref_st_out {i:Int}(h:i<0∨32768<=i)(v:Int)(o:Bool)(S:TS):Ref (st i v) o S () o S:=by
 cases o with
 | true=>exact .over _ _
 | false=>exact .done (by show (some (),S.upd i v)=_;rw [TS.upd_out h])
theorem RMem.slice {B p:Nat}{w:World}{S:TS}{n:Nat}{o:Bool}{vA vC vN vL:Value}{L:List Int}(h:RMem B w p S n o vA vC vN vL L):∃ A c,vL=.slice A L.length c/\L.length<=c/\c<=9223372036854775807:=by
 obtain⟨A,c,rfl,h1,h2⟩:=(IntRow.ints h.rowL).slice
 exact⟨A,c,rfl,h1,h2⟩
theorem append_int_at {ops:Array Oper}{rest:List Oper}{o:Oper}{a:Act}{Q:Exit->Act->World->Prop}{w:World}(hgd:o.guard=none)(s x:Operand)
  (ho:o.op=.call { callee:=.builtin .append,args:=#[s,x],argTypes:=#[22,22] })
  (base:Nat)(v:Value)(l:List Int)(y:Int)(hown:w.ownsRow base 3 1 v l.length (l.map (Value.int .i64)))(hs:a.eval s=v)(hx:a.eval x=.slice (some ⟨w.heap.size,0,none⟩) 1 1)
  (hlen:l.length<1000000000000)(hbase:base<=w.heap.size)
  (h:∀ g cap w',w'.ownsRow base 3 1 (.slice (some ⟨g,0,none⟩) (l.length+1) cap) (l.length+1) (l.map (Value.int .i64)++[Value.int .i64 y])->w.grownBy w' v.ownBlock->(v.ownBlock=some g∨w.heap.size<=g)->wpList Tryz.prog ops Q rest (a.put o.dst (.slice (some ⟨g,0,none⟩) (l.length+1) cap)) w') :
  wpList Tryz.prog ops Q (o :: rest) a (w.alloc (.cells #[.int .i64 y] 3)):=by
 obtain⟨i0,hi,hz0,hz1,hz2⟩:=info_parts info_int
 refine wpList_append_own_at _ hgd s x 22 ho base 3 i0 (.int .i64 0) 1 8 Tryz.underlying22 hi hz0 hz1 hz2 rfl (by decide) v l.length _ hs (World.ownsRow.alloc hown _) ⟨w.heap.size,0,none⟩ 1 1 [.int .i64 y] hx rfl (cell_one_new _ _ _) (by simp [Value.oneCell']) (by unfold maxLen;omega) (by omega) (by simp;omega) fun v' w' h1 h2 _ h4=>?_
 rcases h1.2 with⟨rfl,e⟩ | ⟨g,cap,cur,rfl,_⟩
 · omega
 · refine h g cap w' h1 (World.grownBy.trans (World.grownBy_alloc w _ _) h2) ?_
   rcases h4 with e | e
   · exact .inl e.symm
   · simp only [Value.ownBlock,Option.some.injEq,World.size_alloc] at e
     exact .inr (by omega)
set_option maxRecDepth 100000 in
theorem set_r (B p:Nat)(o:Bool)(S:TS)(i v:Int)(w:World)(h:RAt B w p o S) :
  Calls Tryz.prog 131 #[.pointer (some ⟨p,0,none⟩),.int .i64 i,.int .i64 v] w (RPost encU B p w (st i v) o S):=by
 generalize hR:RPost encU B p w (st i v) o S=R
 have hO:ROwes R encU B p w (st i v) o S:=hR▸rowes _ _ _ _ _ _ _
 clear hR
 cases o with
 | true =>
   have h':=Lib.hid h
   obtain⟨vA,n,vC,vN,vL,hc⟩:=h.cell
   clear h
   go_enter Tryz.func131,Tryz.ntmps131
   go_wp2_with fail
   first | go_end0 | refine bodyPost_ret (results_none rfl _ _ _) rfl ?_
   exact hO.over () h'.out (Keep.refl _ _ _ _)
 | false =>
   by_cases h0:i<0∨32768<=i
   · have hf:R (.returned (encU ())) w:=hO _ _ ⟨(),false,S,rfl,ref_st_out h0 v false S,h,Keep.refl _ _ _ _⟩
     obtain⟨vA,n,vC,vN,vL,hc⟩:=h.cell
     clear h hO
     rcases h0 with h0 | h0
     · go_enter Tryz.func131,Tryz.ntmps131
       go_wp2_with fail
       first | go_end0 | refine bodyPost_ret (results_none rfl _ _ _) rfl ?_
       exact hf
     · go_enter Tryz.func131,Tryz.ntmps131
       go_wp2_with fail
       first | go_end0 | refine bodyPost_ret (results_none rfl _ _ _) rfl ?_
       exact hf
   · obtain⟨i,rfl⟩:∃ n:Nat,i=(n:Int):=⟨i.toNat,by omega⟩
     have hi:i<32768:=by omega
     clear h0
     obtain⟨n,vA,vC,vN,vL,L,h,hn,ho⟩:=h
     have hn':=Lib.hid hn
     have ho':=Lib.hid ho
     have hp:=h.lt
     have hge:=h.ge
     clear hn ho
     have hc:=cell_of_heap h.heap
     obtain⟨i0,hi0,hz0,hz1,hz2⟩:=info_parts info_int
     go_enter Tryz.func131,Tryz.ntmps131
     go_wp2_with fail
     go_loopw [] (fun wr=>∃ (vL:Value) (L:List Int),RMem B wr p S n false vA vC vN vL L/\KeepR B p w wr) (fun wr=>i+1-lenAt wr p)
     case atStart=>exact⟨vL,L,h,Keep.refl _ _ _ _⟩
     case round =>
      clear h hc vL L
      obtain⟨vL,L,h,hK⟩:=hrel
      obtain⟨A,c,rfl,hc1,hc2⟩:=h.slice
      have hc:=cell_of_heap h.heap
      have hLn:=h.locN
      have hLe:=lenAt_of (hc 5)
      by_cases hin:L.length<=i
      · have hL:=Lib.hid h
        have hKh:=Lib.hid hK
        have hM:=Lib.hid hLe
        clear h hK hLe
        go_wp2_with (at_builtin;refine append_int_at rfl _ _ rfl B _ L 0 hL.out.rowL rfl rfl (by omega) (by have:=hL.out.lt;omega) ?_)
        intro g cap w1 hown hgrow hat
        have hp1:=grown_heap hL.out.heap hL.out.cNe.1 hgrow
        have hq1:=cell_of_heap hp1
        have hf1:=frozen_of_heap hp1
        obtain⟨HM,HK⟩:=hL.out.grewL hgrow hat hown (by omega)
        have hM1:=lenAt_of (cell_of_heap HM.heap 5)
        have HMh:=Lib.hid HM
        have HKh:=Lib.hid (hKh.out.trans HK)
        have hM2:=Lib.hid hM1
        clear HM HK hM1 hgrow hat hown hp1
        go_wp2_with fail
        go_roundw
        case rel=>exact⟨_,_,HMh.out,HKh.out⟩
        case measure =>
         rw [hM.out,hM2.out]
         omega
      · obtain⟨g,rfl⟩:∃ g,A=some ⟨g,0,none⟩:=by
         rcases h.rowL.2 with⟨e,h0⟩ | ⟨g,cap,cur,e,_⟩
         · omega
         · injection e with e1 e2 e3
           exact⟨g,e1⟩
        obtain⟨HM,HK⟩:=h.stored i (by omega) v
        have HP:RAt B _ p false (S.upd i v):=⟨_,_,_,_,_,_,HM,by rw [TS.upd_acc,TS.upd_ans];exact hn'.out,by rw [TS.upd_acc,TS.upd_ans];exact ho'.out⟩
        have hf:=hO _ _ ⟨(),false,_,rfl,ref_st i v S,HP,hK.trans HK⟩
        obtain⟨b,off,he,hb,hcell⟩:=(IntRow.ints h.rowL).at_ (show i<L.length by omega)
        injection he with he
        injection he with e1 e2
        subst e1 e2
        rw [Nat.zero_add] at hcell
        have hfz:=h.rowL.frozenAt i
        clear h hK hO HM HK HP hLe
        go_wp2_with fail
        first | go_end0 | refine bodyPost_ret (results_none rfl _ _ _) rfl ?_
        exact hf
theorem within_any (n lo hi:Int)(w:World) :
  Calls Tryz.prog 36 #[.int .i64 n,.int .i64 lo,.int .i64 hi] w fun e w'=>e=.returned (.int .i64 (within n lo hi))/\w=w':=by
 unfold within
 go_enter Tryz.func36,Tryz.ntmps36
 go_wp2
 all_goals go_ret
 all_goals simp [*]
theorem clamp_p (n top:Int)(w:World) :
  Calls Tryz.prog 85 #[.int .i64 n,.int .i64 top] w fun e w'=>e=.returned (.int .i64 (clamp n top))/\w=w':=by
 go_enter Tryz.func85,Tryz.ntmps85
 go_wp2
 all_goals go_ret
 all_goals exact⟨ret_int (by unfold clamp within;omega),rfl⟩
theorem clamp_r (n top:Int)(w:World) :
  Calls Tryz.prog 57 #[.int .i64 n,.int .i64 top] w fun e w'=>e=.returned (.int .i64 (clamp n top))/\w=w':=by
 go_enter Tryz.func57,Tryz.ntmps57
 go_wp2_with (go_at_call 36;refine (within_any _ _ _ _).mono ?_;rintro e w' ⟨rfl,rfl⟩)
 go_ret
 exact⟨rfl,rfl⟩
theorem wrap_r (n top:Int)(w:World) :
  Calls Tryz.prog 11 #[.int .i64 n,.int .i64 top] w fun e w'=>e=.returned (.int .i64 (wrapI n top))/\w=w':=by
 have h1:=within_bd top 0 1099511627776 (by omega)
 have he:=clamp_word top
 have h2:=tmod_neg_fix n (clamp top 1099511627776+1) (by omega)
 have h3:=tmod_pos_fix n (clamp top 1099511627776+1) (by omega)
 have h4:=Int.emod_lt_of_pos n (b:=clamp top 1099511627776+1) (by omega)
 have h5:=Int.emod_nonneg n (b:=clamp top 1099511627776+1) (by omega)
 rw [he] at h2 h3 h4 h5
 have H:Hid ((n.tmod (within top 0 1099511627776+1)<0->wrap64 (n.tmod (within top 0 1099511627776+1)+(within top 0 1099511627776+1))=wrapI n top)/\(0<=n.tmod (within top 0 1099511627776+1)->n.tmod (within top 0 1099511627776+1)=wrapI n top)):=by
  unfold wrapI
  rw [he]
  refine⟨fun h=>?_,fun h=>?_⟩
  · rw [h2 h,w64 _ (by omega) (by omega)]
  · rw [h3 h]
 clear h2 h3 h4 h5 he
 go_enter Tryz.func11,Tryz.ntmps11
 go_wp2_with (go_at_call 36;refine (within_any _ _ _ _).mono ?_;rintro e w' ⟨rfl,rfl⟩)
 all_goals go_ret
 · exact⟨ret_int (H.out.1 ‹_›),rfl⟩
 · exact⟨ret_int (H.out.2 ‹_›),rfl⟩
theorem pack_p (hi lo top:Int)(w:World) :
  Calls Tryz.prog 116 #[.int .i64 hi,.int .i64 lo,.int .i64 top] w fun e w'=>e=.returned (.int .i64 (packI hi lo top))/\w=w':=by
 go_enter Tryz.func116,Tryz.ntmps116
 go_wp2_with fail
 refine (clamp_p _ _ _).mono ?_
 rintro e w' ⟨rfl,rfl⟩
 rw [clamp_room]
 have h1:=room_bd hi
 have h2:=room_bd top
 have h3:=within_bd lo 0 (room top) h2.1
 have h4:0<=room hi*(room top+1):=Int.mul_nonneg h1.1 (by omega)
 have h5:room hi*(room top+1)<=1048576*1048577:=Int.mul_le_mul h1.2 (by omega) (by omega) (by omega)
 go_wp2_with fail
 refine (clamp_p _ _ _).mono ?_
 rintro e w' ⟨rfl,rfl⟩
 rw [clamp_room]
 go_wp2_with fail
 refine (clamp_p _ _ _).mono ?_
 rintro e w' ⟨rfl,rfl⟩
 rw [clamp_of_room]
 go_wp2
 go_ret
 exact⟨rfl,rfl⟩
theorem pack_r (hi lo top:Int)(w:World) :
  Calls Tryz.prog 134 #[.int .i64 hi,.int .i64 lo,.int .i64 top] w fun e w'=>e=.returned (.int .i64 (packI hi lo top))/\w=w':=by
 have h1:=room_bd hi
 have h2:=room_bd top
 have h3:=within_bd lo 0 (room top) h2.1
 have h4:0<=room hi*(room top+1):=Int.mul_nonneg h1.1 (by omega)
 have h5:room hi*(room top+1)<=1048576*1048577:=Int.mul_le_mul h1.2 (by omega) (by omega) (by omega)
 go_enter Tryz.func134,Tryz.ntmps134
 go_wp2_with fail
 refine (within_any _ _ _ _).mono ?_
 rintro e w' ⟨rfl,rfl⟩
 rw [show within top 0 1048576=room top from rfl]
 go_wp2_with fail
 refine (within_any _ _ _ _).mono ?_
 rintro e w' ⟨rfl,rfl⟩
 rw [show within hi 0 1048576=room hi from rfl]
 go_wp2_with fail
 refine (within_any _ _ _ _).mono ?_
 rintro e w' ⟨rfl,rfl⟩
 go_wp2
 go_ret
 exact⟨rfl,rfl⟩
theorem unpack_p (x top:Int)(w:World) :
  Calls Tryz.prog 128 #[.int .i64 x,.int .i64 top] w fun e w'=>e=.returned (.tuple #[.int .i64 (unHi x top),.int .i64 (unLo x top)])/\Drew w w':=by
 have h2:=room_bd top
 have h3:=unX_bd x
 have hx:Hid (max 0 (min x 4398046511104)=unX x):=by unfold unX within;show max 0 (min x 4398046511104)=_;omega
 go_enter Tryz.func128,Tryz.ntmps128
 go_wp2_with fail
 refine (clamp_p _ _ _).mono ?_
 rintro e w' ⟨rfl,rfl⟩
 rw [clamp_room]
 go_wp2
 rw [hx.out]
 go_quiet (fail)
 go_wp2
 go_ret2
 exact⟨rfl,Drew.mk' _ _⟩
theorem unpack_r (x top:Int)(w:World) :
  Calls Tryz.prog 138 #[.int .i64 x,.int .i64 top] w fun e w'=>e=.returned (.tuple #[.int .i64 (unHi x top),.int .i64 (unLo x top)])/\Drew w w':=by
 have h2:=room_bd top
 have h3:=unX_bd x
 have hm1:=Int.mul_ediv_self_le (x:=unX x) (k:=room top+1) (by omega)
 have hm2:=Int.ediv_nonneg h3.1 (b:=room top+1) (by omega)
 have hm3:(room top+1)*(unX x / (room top+1))=unX x / (room top+1)*(room top+1):=Int.mul_comm _ _
 have hm4:=Int.mul_nonneg hm2 (show 0<=room top+1 by omega)
 have e1:IntKind.i64.wrap (unX x / (room top+1)*(room top+1))=unX x / (room top+1)*(room top+1):=IntWalk.i64_in _ (by omega)
 have e2:IntKind.i64.wrap (unX x-unX x / (room top+1)*(room top+1))=unX x-unX x / (room top+1)*(room top+1):=IntWalk.i64_in _ (by omega)
 have H:Hid (unX x-unX x / (room top+1)*(room top+1)=unLo x top):=by
  have:=Int.mul_ediv_add_emod (unX x) (room top+1)
  unfold unLo
  show _=_
  omega
 clear hm1 hm3
 go_enter Tryz.func138,Tryz.ntmps138
 go_wp2_with fail
 refine (within_any _ _ _ _).mono ?_
 rintro e w' ⟨rfl,rfl⟩
 rw [show within top 0 1048576=room top from rfl]
 go_wp2_with fail
 refine (within_any _ _ _ _).mono ?_
 rintro e w' ⟨rfl,rfl⟩
 rw [show within x 0 4398046511104=unX x from rfl]
 go_wp2
 go_quiet (fail)
 go_wp2
 go_ret2
 exact⟨ret_int2 rfl H.out,Drew.mk' _ _⟩
end Go.Proofs.YtbphlkaihfbgeaaGreat
namespace Kv
def tameL (L:List Int) (top:Int):List Int:=(L.take 3000).map fun x=>wrapI x top
def shortN (L:List Int):Nat->Nat
 | 0=>0
 | n+1=>if L.getD n 0=0 then shortN L n else n+1
def shortL (L:List Int):List Int:=L.take (shortN L L.length)
theorem shortN_le (L:List Int):∀ n,shortN L n<=n
 | 0=>Nat.le_refl _
 | n+1=>by
   unfold shortN
   split
   · exact Nat.le_succ_of_le (shortN_le L n)
   · exact Nat.le_refl _
end Kv
namespace Go.Proofs.YtbphlkaihfbgeaaGreat
open Go.RowKit Kv
set_option maxRecDepth 100000 in
theorem tame_r (v:Value)(L:List Int)(top:Int)(w:World)(h:Ints w v L) :
  Calls Tryz.prog 12 #[v,.int .i64 top] w fun e w'=>∃ v',e=.returned v'/\IntRow w' w.heap.size v' (tameL L top)/\Ext w w':=by
 obtain⟨A,c,rfl,q1,q2⟩:=h.slice
 go_enter Tryz.func12,Tryz.ntmps12
 go_wp2_with fail
 go_loopw [5,6] (fun v i wr=>∃ j:Nat,i=.int .i64 j/\j<=L.length/\j<=3000/\IntRow wr w.heap.size v ((L.take j).map fun x=>wrapI x top)/\Ext w wr) (fun _ i _=>3000-(intOf i).toNat)
 case atStart=>exact⟨0,rfl,by omega,by omega,IntRow.nil _ _,Ext.refl _⟩
 case round =>
  obtain⟨j,rfl,hj,hj2,hown,hE⟩:=hrel
  have hsz:=hE.size
  have hlt1:((L.take j).map fun x=>wrapI x top).length<1000000000000:=by simp;omega
  by_cases hl:j<L.length/\j<3000
  · obtain⟨hl1,hl2⟩:=hl
    obtain⟨b,off,rfl,hb,hcell⟩:=(h.ext hE).at_ hl1
    have hs:((L.take (j+1)).map fun x=>wrapI x top)=((L.take j).map fun x=>wrapI x top)++[wrapI (L.getD j 0) top]:=by
     rw [List.take_succ_eq_append_getElem hl1,List.map_append]
     simp [List.getD,hl1]
    have H1:=Lib.hid hs
    clear hs
    generalize L.getD j 0=E at *
    have hEh:=Lib.hid hE
    clear hE
    generalize hM:((L.take j).map fun x=>wrapI x top)=M at *
    clear hM
    have hh:=Lib.hid h
    clear h
    go_wp2_with (first | (go_at_call 11;refine (wrap_r _ _ _).mono ?_;rintro e w' ⟨rfl,rfl⟩) | (at_builtin;refine append_int rfl _ _ rfl w.heap.size _ M (wrapI E top) hown rfl rfl hlt1 hsz ?_))
    intro v' w1 hown' hgrow
    have hE':=hEh.out.appended hown hgrow
    rw [<- H1.out] at hown'
    clear hown hgrow
    go_wp2_with fail
    go_roundw
    case rel=>exact⟨j+1,by go_num,by omega,by omega,hown',hE'⟩
    case measure=>simp [intOf];omega
  · have hf:((L.take j).map fun x=>wrapI x top)=tameL L top:=by
     unfold tameL
     congr 1
     by_cases e:j<L.length
     · rw [show j=3000 by omega]
     · rw [List.take_of_length_le (by omega),List.take_of_length_le (by omega)]
    rw [hf] at hown
    clear hf hlt1
    by_cases e:j<L.length
    · have e3:¬ j<3000:=fun e3=>hl ⟨e,e3⟩
      clear hl h
      go_wp2_with fail
      go_ret
      exact⟨_,rfl,hown,hE⟩
    · clear hl h
      go_wp2_with fail
      go_ret
      exact⟨_,rfl,hown,hE⟩
theorem Ints.take {w:World}{A:Option Addr}{c:Nat}{L:List Int}(h:Ints w (.slice A L.length c) L)(m:Nat)(hm:m<=L.length):Ints w (.slice A m c) (L.take m):=by
 obtain⟨A',c',he,h1,h2,h3⟩:=h
 injection he with e1 e2 e3
 subst e1 e3
 have hl:(L.take m).length=m:=by rw [List.length_take];omega
 refine⟨A,c,by rw [hl],by omega,h2,fun hne=>?_⟩
 obtain⟨b,off,rfl,hb,hc⟩:=h3 (fun e=>hne (by rw [e];simp))
 refine⟨b,off,rfl,hb,fun i x hi=>hc i x ?_⟩
 rw [List.getElem?_take] at hi
 split at hi
 · exact hi
 · cases hi
set_option maxRecDepth 100000 in
theorem short_at (A:Option Addr)(c:Nat)(L:List Int)(w:World)(h:Ints w (.slice A L.length c) L)(q1:L.length<=c)(q2:c<=9223372036854775807) :
  Calls Tryz.prog 45 #[.slice A L.length c] w fun e w'=>e=.returned (.slice A (shortN L L.length) c)/\w=w':=by
 go_enter Tryz.func45,Tryz.ntmps45
 go_wp2_with fail
 go_loopw [0] (fun v wr=>∃ n:Nat,v=.slice A n c/\n<=L.length/\Hid (shortN L n=shortN L L.length)/\w=wr) (fun v _=>match v with
  | .slice _ n _=>n
  | _=>0)
 case atStart=>exact⟨L.length,rfl,by omega,rfl,rfl⟩
 case round =>
  obtain⟨n,rfl,hn,hs,rfl⟩:=hrel
  cases n with
  | zero =>
    have hf:=Lib.hid (show shortN L L.length=0 from hs.out.symm)
    clear hs h
    go_wp2_with fail
    go_ret
    exact⟨by rw [hf.out];rfl,rfl⟩
  | succ n =>
    obtain⟨b,off,rfl,hb,hcell⟩:=h.at_ (show n<L.length by omega)
    by_cases e:L.getD n 0=0
    · have hs2:Hid (shortN L n=shortN L L.length):=Lib.hid (by rw [<- hs.out];show _=(if L.getD n 0=0 then shortN L n else n+1);rw [if_pos e])
      rw [e] at hcell
      clear hs e h
      go_wp2_with fail
      exact⟨⟨n,rfl,by omega,hs2,by trivial⟩,Nat.lt_succ_self n⟩
    · have hf:=Lib.hid (show shortN L L.length=n+1 from by rw [<- hs.out];show (if L.getD n 0=0 then shortN L n else n+1)=_;rw [if_neg e])
      have e2:(L.getD n 0==0)=false:=by rw [beq_eq_false_iff_ne];exact e
      generalize L.getD n 0=E at *
      clear hs e h
      go_wp2_with fail
      go_ret
      exact⟨by rw [hf.out];rfl,rfl⟩
theorem shortL_ints {w:World}{A:Option Addr}{c:Nat}{L:List Int}(h:Ints w (.slice A L.length c) L):Ints w (.slice A (shortN L L.length) c) (shortL L):=h.take _ (shortN_le _ _)
set_option maxRecDepth 100000 in
theorem append_all {ops:Array Oper}{rest:List Oper}{o:Oper}{a:Act}{Q:Exit->Act->World->Prop}{w:World}(hgd:o.guard=none)(s x:Operand)
  (ho:o.op=.call { callee:=.builtin .append,args:=#[s,x],argTypes:=#[22,22] })
  (ad:Addr)(c:Nat)(L:List Int)(hL:Ints w (.slice (some ad) L.length c) L)(hs:a.eval s=.slice (some ⟨w.heap.size,0,none⟩) 0 0)(hx:a.eval x=.slice (some ad) L.length c)
  (hlen:L.length<1000000)
  (h:∀ v' w',IntRow w' w.heap.size v' L->Ext w w'->wpList Tryz.prog ops Q rest (a.put o.dst v') w') :
  wpList Tryz.prog ops Q (o :: rest) a (w.alloc (.cells #[] 3)):=by
 obtain⟨i0,hi,hz0,hz1,hz2⟩:=info_parts info_int
 have hown:(w.alloc (.cells #[] 3)).ownsRow w.heap.size 3 1 (.slice (some ⟨w.heap.size,0,none⟩) 0 0) 0 [] :=
  ⟨rfl,.inr ⟨w.heap.size,0,#[],rfl,Nat.le_refl _,heap_alloc_new _ _,Nat.le_refl _,Nat.zero_le _,rfl,rfl⟩⟩
 refine wpList_append_own_at _ hgd s x 22 ho w.heap.size 3 i0 (.int .i64 0) 1 8 Tryz.underlying22 hi hz0 hz1 hz2 rfl (by decide) _ 0 [] hs hown ad L.length c (L.map (Value.int .i64)) hx (by simp) ?_ (by simp [Value.oneCell']) (by unfold maxLen;omega) (by omega) (by simp) fun v' w' h1 h2 _ _=>?_
 · intro j u hu
   obtain⟨A',c',he,_,_,h3⟩:=hL.ext ((Ext.refl w).alloc (.cells #[] 3))
   rw [List.getElem?_map] at hu
   cases hj:L[j]? with
   | none=>rw [hj] at hu;cases hu
   | some y =>
     rw [hj] at hu
     obtain⟨b,off,rfl,_,hc⟩:=h3 (fun e=>by rw [e] at hj;cases hj)
     injection he with e1 e2 e3
     injection e1 with e1
     subst e1
     rw [Addr.add_lit]
     rw [hc j y hj]
     simpa using hu
 · rw [List.nil_append,Nat.zero_add] at h1
   exact h v' w' h1 (Below.grown ((Ext.refl w).alloc (.cells #[] 3)) h2 (by simp) (fun k hk=>by simp [Value.ownBlock] at hk;omega))
set_option maxRecDepth 100000 in
theorem clone_x (a:Addr)(c:Nat)(L:List Int)(w:World)(h:Ints w (.slice (some a) L.length c) L)(hl:L.length<1000000) :
  Calls Tryz.prog 37 #[.slice (some a) L.length c] w fun e w'=>∃ v',e=.returned v'/\IntRow w' w.heap.size v' L/\Ext w w':=by
 have hcmp:∀ (n:Nat) (w:World),(binOp .eql 22 (.slice (some a) n c) (.slice none 0 0)).run Tryz.prog w=.ok (.bool false) w:=fun _ _=>rfl
 go_enter Tryz.func37,Tryz.ntmps37
 go_wp2_with (at_builtin;refine append_all rfl _ _ rfl a c L h rfl rfl hl ?_)
 intro v' w' h1 h2
 go_wp2_with fail
 go_ret
 exact⟨v',rfl,h1,h2⟩
set_option maxRecDepth 100000 in
theorem clone_nil (c:Nat)(w:World):Calls Tryz.prog 37 #[.slice none 0 c] w fun e w'=>e=.returned (.slice none 0 0)/\w=w':=by
 have hcmp:∀ (n:Nat) (w:World),(binOp .eql 22 (.slice none n c) (.slice none 0 0)).run Tryz.prog w=.ok (.bool true) w:=fun _ _=>rfl
 go_enter Tryz.func37,Tryz.ntmps37
 go_wp2_with fail
 go_ret
 exact⟨rfl,rfl⟩
theorem clone_any (A:Option Addr)(c:Nat)(L:List Int)(w:World)(h:Ints w (.slice A L.length c) L)(hl:L.length<1000000) :
  Calls Tryz.prog 37 #[.slice A L.length c] w fun e w'=>∃ v',e=.returned v'/\IntRow w' w.heap.size v' L/\Ext w w':=by
 cases A with
 | some a=>exact clone_x a c L w h hl
 | none =>
   have hL:L=[]:=by
    obtain⟨A',c',he,_,_,h3⟩:=h
    by_cases e:L=[]
    · exact e
    · obtain⟨b,off,rfl,_⟩:=h3 e
      cases he
   subst hL
   refine (clone_nil c w).mono ?_
   rintro e w' ⟨rfl,rfl⟩
   exact⟨_,rfl,IntRow.nil _ _,Ext.refl _⟩
set_option maxRecDepth 100000 in
theorem tshort_p (A:Option Addr)(c:Nat)(L:List Int)(w:World)(h:Ints w (.slice A L.length c) L)(q1:L.length<=c)(_q2:c<=9223372036854775807)(_q3:L.length<1000000) :
  Calls Tryz.prog 39 #[.slice A L.length c] w fun e w'=>∃ v',e=.returned v'/\IntRow w' w.heap.size v' (shortL L)/\Ext w w':=by
 go_enter Tryz.func39,Tryz.ntmps39
 go_wp2_with fail
 go_loopw [3] (fun v wr=>∃ n:Nat,v=.int .i64 n/\n<=L.length/\Hid (shortN L n=shortN L L.length)/\w=wr) (fun v _=>(intOf v).toNat)
 case atStart=>exact⟨L.length,rfl,by omega,rfl,rfl⟩
 case round =>
  obtain⟨n,rfl,hn,hs,rfl⟩:=hrel
  have hlen:∀ m,m<=L.length->(L.take m).length=m:=fun m hm=>by rw [List.length_take];omega
  cases n with
  | zero =>
    have hf:L.take 0=shortL L:=by unfold shortL;rw [<- hs.out];rfl
    have hT:=clone_any A c (L.take 0) w (by have:=h.take 0 (by omega);rw [hlen 0 (by omega)];exact this) (by simp)
    rw [hlen 0 (by omega),hf] at hT
    clear hs h hf hlen
    go_wp2_with fail
    refine hT.mono ?_
    rintro e w1 ⟨v',rfl,h1,h2⟩
    go_wp2_with fail
    go_ret
    exact⟨v',rfl,h1,h2⟩
  | succ n =>
    obtain⟨b,off,rfl,hb,hcell⟩:=h.at_ (show n<L.length by omega)
    by_cases e:L.getD n 0=0
    · have hs2:Hid (shortN L n=shortN L L.length):=Lib.hid (by rw [<- hs.out];show _=(if L.getD n 0=0 then shortN L n else n+1);rw [if_pos e])
      rw [e] at hcell
      clear hs e h hlen
      go_wp2_with fail
      exact⟨⟨n,rfl,by omega,hs2,by trivial⟩,by simp [intOf]⟩
    · have e3:=Lib.hid (show shortN L L.length=n+1 from by rw [<- hs.out];show (if L.getD n 0=0 then shortN L n else n+1)=_;rw [if_neg e])
      have hf:L.take (n+1)=shortL L:=by unfold shortL;rw [e3.out]
      have hT:=clone_any (some ⟨b,off,none⟩) c (L.take (n+1)) w (by have:=h.take (n+1) (by omega);rw [hlen (n+1) (by omega)];exact this) (by rw [hlen (n+1) (by omega)];omega)
      rw [hlen (n+1) (by omega),hf] at hT
      have e2:(L.getD n 0==0)=false:=by rw [beq_eq_false_iff_ne];exact e
      generalize L.getD n 0=E at *
      clear hs e h hf hlen
      go_wp2_with fail
      refine hT.mono ?_
      rintro e w1 ⟨v',rfl,h1,h2⟩
      go_wp2_with fail
      go_ret
      exact⟨v',rfl,h1,h2⟩
end Go.Proofs.YtbphlkaihfbgeaaGreat
