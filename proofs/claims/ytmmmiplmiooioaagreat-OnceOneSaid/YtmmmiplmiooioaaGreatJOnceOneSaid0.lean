/-
  OnceOneSaid: part 0 of its proof.
-/
import Derived.Lib.ItoaNum
import Derived.Lib.BitFns
import Derived.Test.YtmmmiplmiooioaaGreatProg
import Derived.WalkKit
import Derived.WalkLawsBesides
import Derived.WalkSpells
import Derived.Lib.MinMax
import Derived.Lib.Hide
import Derived.Deep.QuietTactic
import Derived.BigQuiet
import Derived.RegionTactic
import Derived.Deep.RegionWith
import Derived.Deep.LoopGhost
import Derived.ShutString
import Derived.WalkSmall
import Derived.Lib.AppendIntMem
import Derived.OrdersHeld
import Derived.Maps.AppendAt
import Derived.OneCell
import Derived.Deep.RegionLaw
import Derived.Deep.AppendLies
import Derived.Laws.AppendOwn
import Derived.OwnWalk
import Derived.WalkMore
import Derived.ScopeJumps
import Derived.Deep.RegionHeld2
import Derived.RowKit
import Derived.RangeFuncBox
import Derived.RangeFuncFrom
import Derived.RangeFuncNested
import Derived.OwnWalkIn
import Derived.TacticsInMore
import Derived.LoopNIn
import Derived.LoopIn
import Derived.RangeFuncCalls
import Derived.OrdersIn
import Derived.Shelf.Abstract
import Derived.Laws.StructEq
import Derived.Deep.DeepCutAuto
import Derived.Defers
import Derived.Recover
import Derived.LaidEqlPtr
namespace Kv
def within (n lo hi:Int):Int:=if n<lo then lo else if hi<n then hi else n
def clamp (n top:Int):Int:=within n 0 (within top 0 1099511627776)
def room (top:Int):Int:=within top 0 1048576
end Kv
namespace Go.Proofs.YtmmmiplmiooioaaGreat
open Go.RowKit Kv
@[go_sem high] theorem run_min_ints3 {P:Program} (w:World) (ts:Array TypeId) (t:TypeId) (k k' k'':IntKind) (x y z:Int) :
  (Builtin.min_ ts t #[.int k x,.int k' y,.int k'' z]).run P w=.ok (.int k (min (min x y) z)) w:=by
 have e:∀ a b:Int,(if b<a then b else a)=min a b:=by intro a b;rw [Int.min_def];split <;> split <;> omega
 simp [Builtin.min_,Builtin.min2,e]
def Drew (w w':World):Prop:=∃ n,w'=w.drewN n
theorem Drew.trans {a b c:World}(h:Drew a b)(k:Drew b c):Drew a c:=by
 obtain⟨n,rfl⟩:=h
 obtain⟨m,rfl⟩:=k
 exact⟨n+m,by simp⟩
theorem Drew.below {w w':World}(B:Nat)(h:Drew w w'):Below B w w':=by
 obtain⟨n,rfl⟩:=h
 exact⟨rfl,rfl,rfl,Nat.le_refl _,fun _ _=>rfl⟩
def Ext (w w':World):Prop:=Below w.heap.size w w'
theorem Ext.refl (w:World):Ext w w:=Below.refl _ _
theorem Ext.size {w w':World}(h:Ext w w'):w.heap.size<=w'.heap.size:=Below.size h
theorem Ext.trans {a b c:World}(h:Ext a b)(k:Ext b c):Ext a c:=Below.trans h (Below.mono k (Ext.size h))
theorem Ext.drewN {a b:World}(h:Ext a b)(n:Nat):Ext a (b.drewN n):=Below.trans h ⟨rfl,rfl,rfl,Nat.le_refl _,fun _ _=>rfl⟩
theorem Ext.drew {a b:World}(h:Ext a b):Ext a b.drew:=Below.drew h
theorem Ext.alloc {a b:World}(h:Ext a b)(o:Obj):Ext a (b.alloc o):=Below.alloc h (Ext.size h) o
theorem Ext.setCell {a b:World}(h:Ext a b){p:Addr}(hp:a.heap.size<=p.block)(u:Value):Ext a (b.setCell p u):=Below.setCell h hp u
theorem Ext.grow {a b:World}(h:Ext a b)(k:Nat)(os:Array Obj):Ext a (Go.Sort.grow (b.drewN k) os):=by
 refine Ext.trans h ⟨rfl,rfl,rfl,?_,fun i hi=>?_⟩
 · show b.heap.size<=(b.heap++os).size
   simp
 · show (b.heap++os)[i]?=b.heap[i]?
   rw [Array.getElem?_append_left hi]
theorem Drew.ext {w w':World}(h:Drew w w'):Ext w w':=Drew.below _ h
theorem Ext.cell {w w':World}(h:Ext w w'){p:Addr}(hp:p.block<w.heap.size):w'.cell? p=w.cell? p:=Below.cell h hp
end Go.Proofs.YtmmmiplmiooioaaGreat
namespace Go.Proofs.YtmmmiplmiooioaaGreat
open Go.RowKit
theorem tk {P:Program}{ops:Array Oper}{Q:Exit->Act->World->Prop}{md:Region.Mode}{S:World->Prop}(i:Nat){oi:Oper}{v:Value}{fuel:Nat}{listed:Array Bool}{a:Act}{w:World}(hi:ops[i]?=some oi)
  (hc:(Region.noSelect ops&&Region.free md ops listed i&&(Region.ready md ops listed).contains i&&Region.wanted oi (yielded ops a.tmps))=true)
  (hQ:∀ c a w,Q (.panic c) (a.put oi.dst v) w->Q (.panic c) a w)(hS:S w)(hy:∀ w,S w->(execOp a.eval oi).run P w=.ok (.value v) w)
  (h:wpAnyH P md ops Q S fuel (listed.setIfInBounds i true) (a.put oi.dst v) w):wpAnyH P md ops Q S (fuel+1) listed a w:=by
 simp only [Bool.and_eq_true] at hc
 exact wpAnyH_take hi hc.1.1.1 hc.1.1.2 hc.1.2 hQ (Or.inl ⟨hc.2,hy⟩) hS h
def AnyN (_:Nat) (p:Prop):Prop:=p
theorem tkb {p:Prop}(i:Nat)(h:AnyN i p):p:=h
theorem tke {p:Prop}{i:Nat}(h:p):AnyN i p:=h
theorem tkn {P:Program}{ops:Array Oper}{Q:Exit->Act->World->Prop}{md:Region.Mode}{S:World->Prop}{i:Nat}{oi:Oper}{v:Value}{fuel:Nat}{listed:Array Bool}{a:Act}{w:World}(hi:ops[i]?=some oi)
  (hc:(Region.noSelect ops&&Region.free md ops listed i&&(Region.ready md ops listed).contains i&&Region.wanted oi (yielded ops a.tmps))=true)
  (hQ:∀ c a w,Q (.panic c) (a.put oi.dst v) w->Q (.panic c) a w)(hS:S w)(hy:∀ w,S w->(execOp a.eval oi).run P w=.ok (.value v) w)
  (h:AnyN (i+1) (wpAnyH P md ops Q S fuel (listed.setIfInBounds i true) (a.put oi.dst v) w)):AnyN i (wpAnyH P md ops Q S (fuel+1) listed a w):=tk i hi hc hQ hS hy h
end Go.Proofs.YtmmmiplmiooioaaGreat
namespace Kv
structure Acc where
 kind:Int
 cell:Int
 val:Int
structure Nt where
 kind:Int
 pos:Int
structure TS where
 ans:List Int
 acc:List Acc
 nts:List Nt
 loc:Nat->Int
inductive Prog (α:Type):Type where
 | ret (a:α):Prog α
 | read (c:Int) (k:Int->Prog α):Prog α
 | write (c v:Int) (k:Unit->Prog α):Prog α
 | get (i:Int) (k:Int->Prog α):Prog α
 | set (i v:Int) (k:Unit->Prog α):Prog α
 | note (n:Int) (k:Unit->Prog α):Prog α
namespace Prog
def bind {α β:Type}:Prog α->(α->Prog β)->Prog β
 | ret a,f=>f a
 | read c k,f=>read c fun x=>(k x).bind f
 | write c v k,f=>write c v fun x=>(k x).bind f
 | get i k,f=>get i fun x=>(k x).bind f
 | set i v k,f=>set i v fun x=>(k x).bind f
 | note n k,f=>note n fun x=>(k x).bind f
theorem bind_id {α:Type}:∀ p:Prog α,p.bind ret=p
 | ret _=>rfl
 | read c k=>by simp only [bind];congr 1;funext x;exact bind_id (k x)
 | write c v k=>by simp only [bind];congr 1;funext x;exact bind_id (k x)
 | get c k=>by simp only [bind];congr 1;funext x;exact bind_id (k x)
 | set c v k=>by simp only [bind];congr 1;funext x;exact bind_id (k x)
 | note c k=>by simp only [bind];congr 1;funext x;exact bind_id (k x)
theorem bind_assoc {α β γ:Type}(f:α->Prog β)(g:β->Prog γ):∀ p:Prog α,(p.bind f).bind g=p.bind fun x=>(f x).bind g
 | ret _=>rfl
 | read c k=>by simp only [bind];congr 1;funext x;exact bind_assoc f g (k x)
 | write c v k=>by simp only [bind];congr 1;funext x;exact bind_assoc f g (k x)
 | get c k=>by simp only [bind];congr 1;funext x;exact bind_assoc f g (k x)
 | set c v k=>by simp only [bind];congr 1;funext x;exact bind_assoc f g (k x)
 | note c k=>by simp only [bind];congr 1;funext x;exact bind_assoc f g (k x)
end Prog
def rd (c:Int):Prog Int:=.read c .ret
def wr (c v:Int):Prog Unit:=.write c v .ret
def st (i v:Int):Prog Unit:=.set i v .ret
def nt (n:Int):Prog Unit:=.note n .ret
def TS.put (S:TS) (a:Acc):TS:={ S with acc:=S.acc++[a] }
def TS.noted (S:TS) (n:Int):TS:={ S with nts:=S.nts++[⟨n,(S.acc.length:Int)⟩] }
def TS.next (S:TS):Option Int:=S.ans[S.acc.length]?
def TS.got (S:TS) (i:Int):Int:=if i<0 then 0 else S.loc i.toNat
def TS.upd (S:TS) (i v:Int):TS :=
 if 0<=i/\i<32768 then { S with loc:=fun j=>if j=i.toNat then v else S.loc j } else S
def Prog.run {α:Type}:Prog α->TS->Option α × TS
 | .ret a,S=>(some a,S)
 | .read c k,S=>match S.next with
   | some v=>(k v).run (S.put ⟨1,c,0⟩)
   | none=>(none,S.put ⟨1,c,0⟩)
 | .write c v k,S=>match S.next with
   | some _=>(k ()).run (S.put ⟨2,c,v⟩)
   | none=>(none,S.put ⟨2,c,v⟩)
 | .get i k,S=>(k (S.got i)).run S
 | .set i v k,S=>(k ()).run (S.upd i v)
 | .note n k,S=>(k ()).run (S.noted n)
def thenR {α β:Type} (r:Option α × TS) (f:α->Prog β):Option β × TS :=
 match r with
 | (some a,S1)=>(f a).run S1
 | (none,S1)=>(none,S1)
theorem Prog.run_bind {α β:Type}(f:α->Prog β):∀ (p:Prog α) (S:TS),(p.bind f).run S=thenR (p.run S) f
 | .ret a,S=>rfl
 | .read c k,S=>by
   simp only [Prog.bind,Prog.run]
   cases S.next with
   | none=>rfl
   | some v=>exact run_bind f (k v) _
 | .write c v k,S=>by
   simp only [Prog.bind,Prog.run]
   cases S.next with
   | none=>rfl
   | some _=>exact run_bind f (k ()) _
 | .get i k,S=>run_bind f (k _) _
 | .set i v k,S=>run_bind f (k ()) _
 | .note n k,S=>run_bind f (k ()) _
theorem Prog.run_bind_some {α β:Type}{p:Prog α}{f:α->Prog β}{S S1:TS}{a:α}(h:p.run S=(some a,S1)):(p.bind f).run S=(f a).run S1:=by
 rw [run_bind,h];rfl
theorem Prog.run_bind_none {α β:Type}{p:Prog α}{f:α->Prog β}{S S1:TS}(h:p.run S=(none,S1)):(p.bind f).run S=(none,S1):=by
 rw [run_bind,h];rfl
theorem TS.upd_ans (S:TS)(i v:Int):(S.upd i v).ans=S.ans:=by unfold TS.upd;split <;> rfl
theorem TS.upd_acc (S:TS)(i v:Int):(S.upd i v).acc=S.acc:=by unfold TS.upd;split <;> rfl
theorem TS.upd_nts (S:TS)(i v:Int):(S.upd i v).nts=S.nts:=by unfold TS.upd;split <;> rfl
theorem Prog.run_ans {α:Type}:∀ (p:Prog α) (S:TS),(p.run S).2.ans=S.ans
 | .ret a,S=>rfl
 | .read c k,S=>by
   simp only [Prog.run]
   cases S.next with
   | none=>rfl
   | some v=>exact run_ans (k v) _
 | .write c v k,S=>by
   simp only [Prog.run]
   cases S.next with
   | none=>rfl
   | some _=>exact run_ans (k ()) _
 | .get i k,S=>run_ans (k _) _
 | .set i v k,S=>(run_ans (k ()) _).trans (TS.upd_ans S i v)
 | .note n k,S=>run_ans (k ()) _
theorem Prog.run_acc {α:Type}:∀ (p:Prog α) (S:TS),∃ l,(p.run S).2.acc=S.acc++l
 | .ret a,S=>⟨[],by simp [Prog.run]⟩
 | .read c k,S=>by
   simp only [Prog.run]
   cases S.next with
   | none=>exact⟨_,rfl⟩
   | some v =>
     obtain⟨l,h⟩:=run_acc (k v) (S.put ⟨1,c,0⟩)
     exact⟨⟨1,c,0⟩ :: l,by rw [h];simp [TS.put]⟩
 | .write c v k,S=>by
   simp only [Prog.run]
   cases S.next with
   | none=>exact⟨_,rfl⟩
   | some _ =>
     obtain⟨l,h⟩:=run_acc (k ()) (S.put ⟨2,c,v⟩)
     exact⟨⟨2,c,v⟩ :: l,by rw [h];simp [TS.put]⟩
 | .get i k,S=>run_acc (k _) _
 | .set i v k,S=>by
   obtain⟨l,h⟩:=run_acc (k ()) (S.upd i v)
   exact⟨l,by rw [<- TS.upd_acc S i v];exact h⟩
 | .note n k,S=>run_acc (k ()) (S.noted n)
inductive Prog.Notes {α:Type}:Prog α->Nat->Prop
 | ret (a:α) (n:Nat):Notes (.ret a) n
 | read (c:Int) {k:Int->Prog α} {n:Nat}:(∀ x,Notes (k x) n)->Notes (.read c k) n
 | write (c v:Int) {k:Unit->Prog α} {n:Nat}:Notes (k ()) n->Notes (.write c v k) n
 | get (i:Int) {k:Int->Prog α} {n:Nat}:(∀ x,Notes (k x) n)->Notes (.get i k) n
 | set (i v:Int) {k:Unit->Prog α} {n:Nat}:Notes (k ()) n->Notes (.set i v k) n
 | note (m:Int) {k:Unit->Prog α} {n:Nat}:Notes (k ()) n->Notes (.note m k) (n+1)
theorem Prog.Notes.mono {α:Type}{p:Prog α}{n:Nat}(h:p.Notes n):∀ {m},n<=m->p.Notes m:=by
 induction h with
 | ret a n=>intro m _;exact .ret a m
 | read c _ ih=>intro m hm;exact .read c fun x=>ih x hm
 | write c v _ ih=>intro m hm;exact .write c v (ih hm)
 | get c _ ih=>intro m hm;exact .get c fun x=>ih x hm
 | set c v _ ih=>intro m hm;exact .set c v (ih hm)
 | note k _ ih =>
   intro m hm
   cases m with
   | zero=>omega
   | succ m=>exact .note k (ih (by omega))
theorem Prog.Notes.bind {α β:Type}{p:Prog α}{f:α->Prog β}{n m:Nat}(h:p.Notes n)(hf:∀ a,(f a).Notes m):(p.bind f).Notes (n+m):=by
 induction h with
 | ret a n=>exact (hf a).mono (by omega)
 | read c _ ih=>exact .read c fun x=>ih x
 | write c v _ ih=>exact .write c v ih
 | get c _ ih=>exact .get c fun x=>ih x
 | set c v _ ih=>exact .set c v ih
 | @note k _ n _ ih=>rw [show n+1+m=(n+m)+1 from by omega];exact .note k ih
theorem Prog.Notes.bind0 {α β:Type}{p:Prog α}{f:α->Prog β}{m:Nat}(h:p.Notes 0)(hf:∀ a,(f a).Notes m):(p.bind f).Notes m:=by
 have:=h.bind hf;rwa [Nat.zero_add] at this
theorem notes_rd (c:Int):(rd c).Notes 0:=.read c fun x=>.ret x 0
theorem notes_wr (c v:Int):(wr c v).Notes 0:=.write c v (.ret () 0)
theorem notes_nt (c:Int):(nt c).Notes 1:=.note c (.ret () 0)
theorem Prog.Notes.run {α:Type}{p:Prog α}{n:Nat}(h:p.Notes n):∀ S:TS,(p.run S).2.nts.length<=S.nts.length+n:=by
 induction h with
 | ret a n=>intro S;simp [Prog.run]
 | read c _ ih =>
   intro S
   simp only [Prog.run]
   cases S.next with
   | none=>simp [TS.put]
   | some v=>exact ih v _
 | write c v _ ih =>
   intro S
   simp only [Prog.run]
   cases S.next with
   | none=>simp [TS.put]
   | some _=>exact ih _
 | get i _ ih=>intro S;exact ih _ _
 | set i v _ ih=>intro S;have:=ih (S.upd i v);rw [TS.upd_nts] at this;exact this
 | note k _ ih =>
   intro S
   have h1:=ih (S.noted k)
   have h2:(S.noted k).nts.length=S.nts.length+1:=by simp [TS.noted]
   simp only [Prog.run]
   omega
inductive Ref {α:Type} (p:Prog α):Bool->TS->α->Bool->TS->Prop
 | over (S:TS) (a:α):Ref p true S a true S
 | done {S S1:TS} {a:α}:p.run S=(some a,S1)->Ref p false S a false S1
 | stop {S S1:TS} (a:α):p.run S=(none,S1)->Ref p false S a true S1
theorem Ref.bind {α β:Type}{p:Prog α}{f:α->Prog β}{o o1 o2:Bool}{S S1 S2:TS}{a:α}{b:β}
  (h:Ref p o S a o1 S1)(k:Ref (f a) o1 S1 b o2 S2):Ref (p.bind f) o S b o2 S2:=by
 cases h with
 | over=>cases k;exact .over _ _
 | done h =>
   cases k with
   | done k=>exact .done ((Prog.run_bind_some h).trans k)
   | stop _ k=>exact .stop _ ((Prog.run_bind_some h).trans k)
 | stop _ h=>cases k;exact .stop _ (Prog.run_bind_none h)
theorem Ref.ret {α:Type}(a:α)(o:Bool)(S:TS):Ref (.ret a) o S a o S:=by
 cases o with
 | true=>exact .over _ _
 | false=>exact .done rfl
theorem Ref.any {α β:Type}{p:Prog α}{S S':TS}{a:α}{o:Bool}(h:Ref p true S a o S')(q:Prog β)(b:β):Ref q true S b o S':=by
 cases h;exact .over _ _
end Kv
namespace Go.Proofs.YtmmmiplmiooioaaGreat
open Go.RowKit Kv
def Ints (w:World) (v:Value) (l:List Int):Prop :=
 ∃ A c,v=.slice A l.length c/\l.length<=c/\c<=9223372036854775807/\(l≠[]->∃ b off,A=some ⟨b,off,none⟩/\b<w.heap.size/\∀ i x,l[i]?=some x->w.cell? ⟨b,off+i,none⟩=some (.int .i64 x))
theorem Ints.ext {w w':World}{v:Value}{l:List Int}(h:Ints w v l)(hx:Ext w w'):Ints w' v l:=by
 obtain⟨A,c,rfl,h1,h2,h3⟩:=h
 refine⟨A,c,rfl,h1,h2,fun hl=>?_⟩
 obtain⟨b,off,rfl,hb,hc⟩:=h3 hl
 exact⟨b,off,rfl,Nat.lt_of_lt_of_le hb (Ext.size hx),fun i x hi=>(Ext.cell hx (p:=⟨b,off+i,none⟩) hb).trans (hc i x hi)⟩
theorem Ints.nil (w:World):Ints w (.slice none 0 0) []:=⟨none,0,rfl,by simp,by omega,fun h=>absurd rfl h⟩
theorem Ints.at_ {w:World}{A:Option Addr}{n c:Nat}{l:List Int}(h:Ints w (.slice A n c) l){i:Nat}(hi:i<n) :
  ∃ b off,A=some ⟨b,off,none⟩/\b<w.heap.size/\w.cell? ⟨b,off+i,none⟩=some (.int .i64 (l.getD i 0)):=by
 obtain⟨A',c',he,h1,h2,h3⟩:=h
 injection he with e1 e2 e3
 subst e1 e2 e3
 have hl:l≠[]:=by rintro rfl;simp at hi
 obtain⟨b,off,rfl,hb,hc⟩:=h3 hl
 refine⟨b,off,rfl,hb,?_⟩
 have:l[i]?=some (l.getD i 0):=by simp [List.getD,List.getElem?_eq_getElem hi]
 exact hc i _ this
theorem Ints.slice {w:World}{v:Value}{l:List Int}(h:Ints w v l):∃ A c,v=.slice A l.length c/\l.length<=c/\c<=9223372036854775807:=by
 obtain⟨A,c,rfl,h1,h2,_⟩:=h
 exact⟨A,c,rfl,h1,h2⟩
def IntRow (w:World) (base:Nat) (v:Value) (l:List Int):Prop:=w.ownsRow base 3 1 v l.length (l.map (Value.int .i64))
theorem IntRow.nil (w:World)(base:Nat):IntRow w base (.slice none 0 0) []:=World.ownsRow_nil _ _ _ _
theorem IntRow.ints {w:World}{base:Nat}{v:Value}{l:List Int}(h:IntRow w base v l):Ints w v l:=by
 have h':=h
 obtain⟨hl,h2⟩:=h
 rcases h2 with⟨rfl,h0⟩ | ⟨g,cap,cur,rfl,hg,hh,hn,hm,hs,ht⟩
 · obtain rfl:l=[]:=List.eq_nil_of_length_eq_zero h0
   exact Ints.nil w
 · refine⟨_,_,rfl,hn,by unfold maxLen at hm;exact hm,fun _=>⟨g,0,rfl,?_,fun i x hi=>?_⟩⟩
   · rcases Nat.lt_or_ge g w.heap.size with hlt | hge
     · exact hlt
     · rw [Array.getElem?_eq_none hge] at hh;cases hh
   · have hc:=World.ownsRow.cells h' (g:=g) rfl i (.int .i64 x) (by rw [List.getElem?_map,hi];rfl)
     rw [Addr.add_lit] at hc
     exact hc
theorem info_int:(Tryz.prog.info? 3).map (fun i=>(i.zero,i.size,i.bytes))=some (some (.int .i64 0),1,8):=by kernel_rfl
theorem cell_of_heap {w:World}{b:Nat}{cs:Array Value}{t:TypeId}{fz:Nat × Nat}(h:w.heap[b]?=some (.cells cs t fz))(i:Nat):w.cell? ⟨b,i,none⟩=cs[i]?:=by
 simp [World.cell?,h]
def ownR (ix:List Nat) (w:World) (p b:Nat):Prop:=b=p∨∃ i∈ix,∃ v,w.cell? ⟨p,i,none⟩=some v/\v.ownBlock=some b
theorem ownR_same {ix:List Nat}{w w':World}{p:Nat}(h:w'.heap[p]?=w.heap[p]?)(b:Nat):ownR ix w' p b↔ownR ix w p b:=by
 unfold ownR
 have e:∀ i,w'.cell? ⟨p,i,none⟩=w.cell? ⟨p,i,none⟩:=fun i=>World.cell?_of_block (w:=w) (a:=⟨p,i,none⟩) h
 simp only [e]
structure Keep (ix:List Nat) (B p:Nat) (w w':World):Prop where
 below:Below B w w'
 rest:∀ b,b<w.heap.size->¬ ownR ix w p b->w'.heap[b]?=w.heap[b]?/\¬ ownR ix w' p b
section
variable {ix:List Nat} {B p:Nat} {w w' w'':World}
theorem Keep.refl (ix:List Nat)(B p:Nat)(w:World):Keep ix B p w w:=⟨Below.refl _ _,fun _ _ h=>⟨rfl,h⟩⟩
theorem Keep.size (h:Keep ix B p w w'):w.heap.size<=w'.heap.size:=h.below.size
theorem Keep.trans (h:Keep ix B p w w')(k:Keep ix B p w' w''):Keep ix B p w w'' :=
 ⟨h.below.trans k.below,fun b hb ho=>by
  obtain⟨h1,h2⟩:=h.rest b hb ho
  obtain⟨h3,h4⟩:=k.rest b (Nat.lt_of_lt_of_le hb h.size) h2
  exact⟨h3.trans h1,h4⟩⟩
theorem Keep.of_ext (h:Ext w w')(hp:p<w.heap.size)(hB:B<=w.heap.size):Keep ix B p w w' :=
 ⟨Below.mono h hB,fun b hb ho=>⟨Below.block h b hb,fun h'=>ho ((ownR_same (Below.block h p hp) b).1 h')⟩⟩
theorem Keep.alloc (o:Obj)(hp:p<w.heap.size)(hB:B<=w.heap.size):Keep ix B p w (w.alloc o):=Keep.of_ext ((Ext.refl w).alloc o) hp hB
theorem Keep.drewN (n:Nat)(h:Keep ix B p w w'):Keep ix B p w (w'.drewN n):=⟨⟨h.below.os,h.below.tape,h.below.output,h.below.size,h.below.block⟩,h.rest⟩
def Held (ix:List Nat) (w:World) (p b:Nat) (o:Obj):Prop:=w.heap[b]?=some o/\¬ ownR ix w p b
theorem Held.lt {b:Nat}{o:Obj}(h:Held ix w p b o):b<w.heap.size:=(Array.getElem?_eq_some_iff.1 h.1).1
theorem Held.keep {b:Nat}{o:Obj}(h:Held ix w p b o)(k:Keep ix B p w w'):Held ix w' p b o:=by
 obtain⟨h1,h2⟩:=k.rest b h.lt h.2
 exact⟨h1.trans h.1,h2⟩
theorem Held.ext {b:Nat}{o:Obj}(h:Held ix w p b o)(k:Ext w w')(hp:p<w.heap.size):Held ix w' p b o :=
 h.keep (B:=0) (Keep.of_ext k hp (Nat.zero_le _))
theorem Held.alloc {b:Nat}{o:Obj}(h:Held ix w p b o)(o':Obj)(hp:p<w.heap.size):Held ix (w.alloc o') p b o:=h.ext ((Ext.refl w).alloc o') hp
theorem Held.cells {b:Nat}{cs:Array Value}{t:TypeId}{fz:Nat × Nat}(h:Held ix w p b (.cells cs t fz))(i:Nat):w.cell? ⟨b,i,none⟩=cs[i]?:=cell_of_heap h.1 i
end
theorem row_ext {w w':World}{base e size n:Nat}{v:Value}{xs:List Value}(h:w.ownsRow base e size v n xs)(hx:Ext w w'):w'.ownsRow base e size v n xs :=
 h.kept (row:=none) ⟨hx.os,hx.tape,hx.output,hx.size,fun k hk _=>hx.block k hk⟩ (by cases v.ownBlock <;> simp)
theorem rows_apart {w:World}{B B' e e' s s' n n':Nat}{v v':Value}{xs xs':List Value}(h:w.ownsRow B e s v n xs)(h':w.ownsRow B' e' s' v' n' xs')(he:e≠e') :
  v.ownBlock=none∨v.ownBlock≠v'.ownBlock:=by
 rcases h.2 with⟨rfl,_⟩ | ⟨g,cap,cur,rfl,_,hg,_⟩
 · exact .inl rfl
 · refine .inr fun hb=>?_
   rcases h'.2 with⟨rfl,_⟩ | ⟨g',cap',cur',rfl,_,hg',_⟩
   · simp [Value.ownBlock] at hb
   · simp only [Value.ownBlock,Option.some.injEq] at hb
     subst hb
     rw [hg] at hg'
     injection hg' with hg'
     injection hg' with _ e2
     exact he e2
theorem row_not {w:World}{B e s n:Nat}{v:Value}{xs:List Value}(h:w.ownsRow B e s v n xs){b:Nat}{cs:Array Value}{t:TypeId}{fz:Nat × Nat}(hb:w.heap[b]?=some (.cells cs t fz))(he:e≠t) :
  v.ownBlock≠some b:=by
 intro hv
 rcases h.2 with⟨rfl,_⟩ | ⟨g,cap,cur,rfl,_,hg,_⟩
 · simp [Value.ownBlock] at hv
 · simp only [Value.ownBlock,Option.some.injEq] at hv
   subst hv
   rw [hg] at hb
   injection hb with hb
   injection hb with _ e2
   exact he e2
def accVals (l:List Acc):List Value:=l.flatMap fun a=>[.int .i64 a.kind,.int .i64 a.cell,.int .i64 a.val]
def ntVals (l:List Nt):List Value:=l.flatMap fun a=>[.int .i64 a.kind,.int .i64 a.pos]
def LocIs (L:List Int) (f:Nat->Int):Prop:=∀ i,f i=L.getD i 0
def maxAns:Nat:=1000000000
structure PMem (B:Nat) (w:World) (p:Nat) (S:TS) (st:Int) (vA vL vC vN:Value) (L:List Int):Prop where
 ge:B<=p
 heap:w.heap[p]?=some (.cells #[.int .i64 st,vA,vL,vC,vN] 87 (0,0))
 ans:Ints w vA S.ans
 ansB:∀ b,vA.ownBlock=some b->b<B
 rowL:w.ownsRow B 3 1 vL L.length (L.map (Value.int .i64))
 rowC:w.ownsRow B 50 3 vC S.acc.length (accVals S.acc)
 rowN:w.ownsRow B 145 2 vN S.nts.length (ntVals S.nts)
 loc:LocIs L S.loc
 locN:L.length<=32768
 accN:S.acc.length<=S.ans.length+1
 ansN:S.ans.length<=maxAns
 ntsN:S.nts.length<=maxAns
def Plays (B:Nat) (w:World) (p:Nat) (S:TS):Prop:=S.acc.length<=S.ans.length/\∃ vA vL vC vN L,PMem B w p S 1 vA vL vC vN L
def Stops (B:Nat) (w:World) (p:Nat) (S:TS):Prop:=∃ vA vL vC vN L,PMem B w p S 2 vA vL vC vN L
abbrev KeepP (B p:Nat) (w w':World):Prop:=Keep [2,3,4] B p w w'
abbrev HeldP (w:World) (p b:Nat) (o:Obj):Prop:=Held [2,3,4] w p b o
section
variable {B p:Nat} {w w':World} {S:TS} {st:Int} {vA vL vC vN:Value} {L:List Int}
theorem PMem.lt (h:PMem B w p S st vA vL vC vN L):p<w.heap.size:=(Array.getElem?_eq_some_iff.1 h.heap).1
theorem PMem.own (h:PMem B w p S st vA vL vC vN L){b:Nat}(hb:ownR [2,3,4] w p b):B<=b/\b<w.heap.size:=by
 rcases hb with rfl | ⟨i,hi,v,hv,hvb⟩
 · exact⟨h.ge,h.lt⟩
 · have e:=cell_of_heap h.heap i
   simp only [List.mem_cons,List.not_mem_nil,or_false] at hi
   rcases hi with rfl | rfl | rfl
   · obtain rfl:vL=v:=by rw [e] at hv;simpa using hv
     exact h.rowL.lt b hvb
   · obtain rfl:vC=v:=by rw [e] at hv;simpa using hv
     exact h.rowC.lt b hvb
   · obtain rfl:vN=v:=by rw [e] at hv;simpa using hv
     exact h.rowN.lt b hvb
theorem PMem.ext (h:PMem B w p S st vA vL vC vN L)(hx:Ext w w'):PMem B w' p S st vA vL vC vN L :=
 { h with heap:=(Below.block hx p h.lt).trans h.heap,ans:=h.ans.ext hx,rowL:=row_ext h.rowL hx,rowC:=row_ext h.rowC hx,rowN:=row_ext h.rowN hx }
theorem Plays.ext (h:Plays B w p S)(hx:Ext w w'):Plays B w' p S:=by
 obtain⟨h0,vA,vL,vC,vN,L,h⟩:=h
 exact⟨h0,vA,vL,vC,vN,L,h.ext hx⟩
theorem Plays.alloc (h:Plays B w p S)(o:Obj):Plays B (w.alloc o) p S:=h.ext ((Ext.refl w).alloc o)
theorem Plays.lt (h:Plays B w p S):p<w.heap.size:=by obtain⟨_,_,_,_,_,_,h⟩:=h;exact h.lt
theorem Plays.le (h:Plays B w p S):B<=w.heap.size:=by obtain⟨_,_,_,_,_,_,h⟩:=h;have:=h.lt;have:=h.ge;omega
theorem Plays.held (h:Plays B w p S)(o:Obj):HeldP (w.alloc o) p w.heap.size o:=by
 refine⟨heap_alloc_new w o,fun ho=>?_⟩
 obtain⟨_,_,_,_,_,_,h⟩:=h
 have h1:=(ownR_same (w:=w) (Below.heap_alloc w o p h.lt) _).1 ho
 have:=(h.own h1).2
 omega
end
theorem Plays.entry {B p:Nat}{S:TS}{w:World}(h:Plays B w p S)(a:Obj):HeldP (w.alloc a) p w.heap.size a/\Keep [2,3,4] B p w (w.alloc a)/\Plays B (w.alloc a) p S :=
 ⟨h.held a,(Keep.refl [2,3,4] B p w).trans (Keep.alloc a h.lt h.le),h.alloc a⟩
theorem Plays.entry2 {B p:Nat}{S:TS}{w:World}(h:Plays B w p S)(a b:Obj):HeldP ((w.alloc a).alloc b) p w.heap.size a/\HeldP ((w.alloc a).alloc b) p (w.heap.size+1) b/\Keep [2,3,4] B p w ((w.alloc a).alloc b)/\Plays B ((w.alloc a).alloc b) p S:=by
 have h2:=(h.alloc a).held b
 rw [World.size_alloc] at h2
 exact⟨(h.held a).alloc b (h.alloc a).lt,h2,((Keep.refl [2,3,4] B p w).trans (Keep.alloc a h.lt h.le)).trans (Keep.alloc b (h.alloc a).lt (h.alloc a).le),(h.alloc a).alloc b⟩
theorem info_acc:(Tryz.prog.info? 50).map (fun i=>(i.zero,i.size,i.bytes))=some (some (.agg #[.int .i64 0,.int .i64 0,.int .i64 0]),3,24):=by kernel_rfl
theorem info_note:(Tryz.prog.info? 145).map (fun i=>(i.zero,i.size,i.bytes))=some (some (.agg #[.int .i64 0,.int .i64 0]),2,16):=by kernel_rfl
theorem accVals_snoc (l:List Acc)(a:Acc):accVals (l++[a])=accVals l++[.int .i64 a.kind,.int .i64 a.cell,.int .i64 a.val]:=by simp [accVals]
theorem ntVals_snoc (l:List Nt)(a:Nt):ntVals (l++[a])=ntVals l++[.int .i64 a.kind,.int .i64 a.pos]:=by simp [ntVals]
theorem heap_setCell {w:World}{b i:Nat}{cs:Array Value}{t:TypeId}{fz:Nat × Nat}(h:w.heap[b]?=some (.cells cs t fz))(v:Value) :
  (w.setCell ⟨b,i,none⟩ v).heap[b]?=some (.cells (cs.setIfInBounds i v) t fz):=by
 simp [World.setCell,Array.getElem?_modify,h]
theorem heap_setCell_ne (w:World){b i k:Nat}(v:Value)(h:k≠b):(w.setCell ⟨b,i,none⟩ v).heap[k]?=w.heap[k]?:=Below.heap_setCell _ _ _ _ h
theorem frozen_of_heap {w:World}{b:Nat}{cs:Array Value}{t:TypeId}(h:w.heap[b]?=some (.cells cs t (0,0)))(i:Nat):w.frozen? ⟨b,i,none⟩=false:=by
 simp [World.frozen?,h]
theorem grown_heap {w w1:World}{b:Nat}{o:Obj}{row:Option Nat}(h:w.heap[b]?=some o)(hv:row≠some b)(hg:w.grownBy w1 row):w1.heap[b]?=some o:=by
 have hb:=(Array.getElem?_eq_some_iff.1 h).1
 rw [hg.block b hb (fun e=>hv e.symm),h]
theorem ints_grown {w w1:World}{v:Value}{l:List Int}{row:Option Nat}(h:Ints w v l)(hg:w.grownBy w1 row)(hv:∀ b,v.ownBlock=some b->row≠some b):Ints w1 v l:=by
 obtain⟨A,c,rfl,h1,h2,h3⟩:=h
 refine⟨A,c,rfl,h1,h2,fun hl=>?_⟩
 obtain⟨b,off,rfl,hb,hc⟩:=h3 hl
 refine⟨b,off,rfl,Nat.lt_of_lt_of_le hb hg.size,fun i x hi=>?_⟩
 rw [<- hc i x hi]
 exact World.cell?_of_block (w:=w) (hg.block b hb (fun e=>hv b rfl e.symm))
theorem ints_set {w:World}{v:Value}{l:List Int}(h:Ints w v l)(a:Addr)(u:Value)(hv:∀ b,v.ownBlock=some b->b≠a.block):Ints (w.setCell a u) v l:=by
 obtain⟨A,c,rfl,h1,h2,h3⟩:=h
 refine⟨A,c,rfl,h1,h2,fun hl=>?_⟩
 obtain⟨b,off,rfl,hb,hc⟩:=h3 hl
 refine⟨b,off,rfl,by simpa using hb,fun i x hi=>?_⟩
 rw [<- hc i x hi]
 exact World.cell?_of_block (w:=w) (Below.heap_setCell _ _ _ _ (hv b rfl))
section
variable {B p:Nat} {w w1:World} {S:TS} {st:Int} {vA vL vC vN:Value} {L:List Int}
theorem PMem.cNe (h:PMem B w p S st vA vL vC vN L):vL.ownBlock≠some p/\vC.ownBlock≠some p/\vN.ownBlock≠some p :=
 ⟨row_not h.rowL h.heap (by decide),row_not h.rowC h.heap (by decide),row_not h.rowN h.heap (by decide)⟩
theorem keep_field {B p:Nat}{w w1:World}{cs cs':Array Value}{t:TypeId}{ix:List Nat}{row:Option Nat}{u:Value}{i:Nat}(hB:B<=p)(hp:w.heap[p]?=some (.cells cs t (0,0)))(hg:w.grownBy w1 row)(hr:∀ b,row=some b->B<=b/\ownR ix w p b)
  (hne:row≠some p)(_:cs'=cs.setIfInBounds i u)(hu:∀ b,u.ownBlock=some b->ownR ix w p b∨w.heap.size<=b):Keep ix B p w (w1.setCell ⟨p,i,none⟩ u):=by
 have hp1:=grown_heap hp hne hg
 have hp2:=heap_setCell (i:=i) hp1 u
 refine⟨⟨hg.os,hg.tape,hg.output,by have:=hg.size;simpa using this,fun k hk=>?_⟩,fun b hb ho=>⟨?_,fun h'=>?_⟩⟩
 · rw [heap_setCell_ne _ _ (by omega),hg.block k (by have:=(Array.getElem?_eq_some_iff.1 hp).1;omega) (fun e=>by have:=(hr k e.symm).1;omega)]
 · rw [heap_setCell_ne _ _ (fun e=>ho (.inl e)),hg.block b hb (fun e=>ho (hr b e.symm).2)]
 · rcases h' with rfl | ⟨j,hj,v,hv,hvb⟩
   · exact ho (.inl rfl)
   · rw [cell_of_heap hp2] at hv
     by_cases e:i=j
     · subst e
       rw [Array.getElem?_setIfInBounds] at hv
       split at hv
       · split at hv
         · injection hv with hv
           subst hv
           rcases hu b hvb with h1 | h1
           · exact ho h1
           · omega
         · cases hv
       · rename_i e;exact e rfl
     · rw [Array.getElem?_setIfInBounds_ne e] at hv
       exact ho (.inr ⟨j,hj,v,(cell_of_heap hp j).trans hv,hvb⟩)
theorem row_set {B e s n p i:Nat}{v u:Value}{xs:List Value}(h:w1.ownsRow B e s v n xs)(hne:v.ownBlock≠some p):(w1.setCell ⟨p,i,none⟩ u).ownsRow B e s v n xs :=
 ownsRow_setCell_other h (a:=⟨p,i,none⟩) hne u
theorem ownR_at {cs:Array Value}{t:TypeId}{ix:List Nat}{i:Nat}{v:Value}(hp:w.heap[p]?=some (.cells cs t (0,0)))(hi:i∈ix)(hv:cs[i]?=some v){b:Nat}(hb:v.ownBlock=some b):ownR ix w p b :=
 .inr ⟨i,hi,v,(cell_of_heap hp i).trans hv,hb⟩
theorem PMem.state (h:PMem B w p S st vA vL vC vN L)(st':Int):PMem B (w.setCell ⟨p,0,none⟩ (.int .i64 st')) p S st' vA vL vC vN L/\KeepP B p w (w.setCell ⟨p,0,none⟩ (.int .i64 st')):=by
 obtain⟨nL,nC,nN⟩:=h.cNe
 refine⟨{ h with heap:=heap_setCell h.heap _,ans:=ints_set h.ans _ _ ?_,rowL:=row_set h.rowL nL,rowC:=row_set h.rowC nC,rowN:=row_set h.rowN nN },?_⟩
 · intro b hb
   have:=h.ansB b hb
   have:=h.ge
   show b≠p
   omega
 · exact keep_field (row:=none) h.ge h.heap (World.grownBy.refl _ _) (fun b hb=>by cases hb) (by simp) rfl (fun b hb=>by simp [Value.ownBlock] at hb)
theorem PMem.grewC (h:PMem B w p S st vA vL vC vN L)(a:Acc){g cap:Nat}(hg:w.grownBy w1 vC.ownBlock)(hat:vC.ownBlock=some g∨w.heap.size<=g)
  (hown:w1.ownsRow B 50 3 (.slice (some ⟨g,0,none⟩) (S.acc.length+1) cap) (S.acc.length+1) (accVals S.acc++[.int .i64 a.kind,.int .i64 a.cell,.int .i64 a.val]))(hl:S.acc.length<=S.ans.length) :
  PMem B (w1.setCell ⟨p,3,none⟩ (.slice (some ⟨g,0,none⟩) (S.acc.length+1) cap)) p (S.put a) st vA vL (.slice (some ⟨g,0,none⟩) (S.acc.length+1) cap) vN L /\
   KeepP B p w (w1.setCell ⟨p,3,none⟩ (.slice (some ⟨g,0,none⟩) (S.acc.length+1) cap)):=by
 obtain⟨nL,nC,nN⟩:=h.cNe
 have hp1:=grown_heap h.heap nC hg
 have hgp:(Value.slice (some ⟨g,0,none⟩) (S.acc.length+1) cap).ownBlock≠some p:=row_not hown hp1 (by decide)
 refine⟨?_,?_⟩
 · refine { ge:=h.ge,heap:=heap_setCell hp1 _,ans:=ints_set (ints_grown h.ans hg ?_) _ _ ?_,ansB:=h.ansB,rowL:=row_set (h.rowL.kept hg (rows_apart h.rowL h.rowC (by decide))) nL,rowC:=?_,rowN:=row_set (h.rowN.kept hg (rows_apart h.rowN h.rowC (by decide))) nN,loc:=h.loc,locN:=h.locN,accN:=?_,ansN:=h.ansN,ntsN:=h.ntsN }
   · intro b hb e
     have:=h.ansB b hb
     have:=(h.rowC.lt b e).1
     omega
   · intro b hb
     have:=h.ansB b hb
     have:=h.ge
     show b≠p
     omega
   · have e:(S.put a).acc=S.acc++[a]:=rfl
     rw [e,accVals_snoc,List.length_append,List.length_singleton]
     exact row_set hown hgp
   · have e:(S.put a).acc=S.acc++[a]:=rfl
     rw [e,List.length_append,List.length_singleton]
     show S.acc.length+1<=S.ans.length+1
     omega
 · refine keep_field h.ge h.heap hg (fun b hb=>⟨(h.rowC.lt b hb).1,ownR_at h.heap (by simp) (i:=3) rfl hb⟩) nC rfl fun b hb=>?_
   obtain rfl:g=b:=by simpa [Value.ownBlock] using hb
   rcases hat with h1 | h1
   · exact .inl (ownR_at h.heap (by simp) (i:=3) rfl h1)
   · exact .inr h1
theorem PMem.grewN (h:PMem B w p S st vA vL vC vN L)(n:Int){g cap:Nat}(hg:w.grownBy w1 vN.ownBlock)(hat:vN.ownBlock=some g∨w.heap.size<=g)
  (hown:w1.ownsRow B 145 2 (.slice (some ⟨g,0,none⟩) (S.nts.length+1) cap) (S.nts.length+1) (ntVals S.nts++[.int .i64 n,.int .i64 (S.acc.length:Nat)]))(hl:S.nts.length<maxAns) :
  PMem B (w1.setCell ⟨p,4,none⟩ (.slice (some ⟨g,0,none⟩) (S.nts.length+1) cap)) p (S.noted n) st vA vL vC (.slice (some ⟨g,0,none⟩) (S.nts.length+1) cap) L /\
   KeepP B p w (w1.setCell ⟨p,4,none⟩ (.slice (some ⟨g,0,none⟩) (S.nts.length+1) cap)):=by
 obtain⟨nL,nC,nN⟩:=h.cNe
 have hp1:=grown_heap h.heap nN hg
 have hgp:(Value.slice (some ⟨g,0,none⟩) (S.nts.length+1) cap).ownBlock≠some p:=row_not hown hp1 (by decide)
 refine⟨?_,?_⟩
 · refine { ge:=h.ge,heap:=heap_setCell hp1 _,ans:=ints_set (ints_grown h.ans hg ?_) _ _ ?_,ansB:=h.ansB,rowL:=row_set (h.rowL.kept hg (rows_apart h.rowL h.rowN (by decide))) nL,rowN:=?_,rowC:=row_set (h.rowC.kept hg (rows_apart h.rowC h.rowN (by decide))) nC,loc:=h.loc,locN:=h.locN,accN:=h.accN,ansN:=h.ansN,ntsN:=?_ }
   · intro b hb e
     have:=h.ansB b hb
     have:=(h.rowN.lt b e).1
     omega
   · intro b hb
     have:=h.ansB b hb
     have:=h.ge
     show b≠p
     omega
   · have e:(S.noted n).nts=S.nts++[⟨n,(S.acc.length:Int)⟩]:=rfl
     rw [e,ntVals_snoc,List.length_append,List.length_singleton]
     exact row_set hown hgp
   · have e:(S.noted n).nts=S.nts++[⟨n,(S.acc.length:Int)⟩]:=rfl
     rw [e,List.length_append,List.length_singleton]
     omega
 · refine keep_field h.ge h.heap hg (fun b hb=>⟨(h.rowN.lt b hb).1,ownR_at h.heap (by simp) (i:=4) rfl hb⟩) nN rfl fun b hb=>?_
   obtain rfl:g=b:=by simpa [Value.ownBlock] using hb
   rcases hat with h1 | h1
   · exact .inl (ownR_at h.heap (by simp) (i:=4) rfl h1)
   · exact .inr h1
end
theorem cells_new2 (w:World)(O:Obj)(cs:Array Value)(t:TypeId):∀ (j:Nat) (u:Value),cs.toList[j]?=some u->(((w.alloc O).alloc (.cells cs t)).drew).cell? ((⟨w.heap.size+1,0,none⟩:Addr).add j)=some u:=by
 intro j u hu
 rw [Addr.add_lit,Nat.zero_add]
 refine (cell_of_heap (w:=((w.alloc O).alloc (.cells cs t)).drew) (b:=w.heap.size+1) (cs:=cs) (t:=t) (fz:=(0,0)) ?_ j).trans (by simpa using hu)
 have:=heap_alloc_new (w.alloc O) (.cells cs t)
 rw [World.size_alloc] at this
 exact this
theorem cells_new1 (w:World)(cs:Array Value)(t:TypeId):∀ (j:Nat) (u:Value),cs.toList[j]?=some u->((w.alloc (.cells cs t)).drew).cell? ((⟨w.heap.size,0,none⟩:Addr).add j)=some u:=by
 intro j u hu
 rw [Addr.add_lit,Nat.zero_add]
 exact (cell_of_heap (w:=(w.alloc (.cells cs t)).drew) (b:=w.heap.size) (cs:=cs) (t:=t) (fz:=(0,0)) (heap_alloc_new w (.cells cs t)) j).trans (by simpa using hu)
theorem grown1 {w w1:World}{O:Obj}{row:Option Nat}(hg:((w.alloc O).drew).grownBy w1 row):w.grownBy w1 row :=
 World.grownBy.trans (World.grownBy_alloc w O row) ⟨hg.os,hg.tape,hg.output,hg.size,hg.block⟩
theorem grown2 {w w1:World}{O O':Obj}{row:Option Nat}(hg:(((w.alloc O).alloc O').drew).grownBy w1 row):w.grownBy w1 row :=
 World.grownBy.trans (World.grownBy_alloc w O row) (World.grownBy.trans (World.grownBy_alloc _ O' row) ⟨hg.os,hg.tape,hg.output,hg.size,hg.block⟩)
set_option maxRecDepth 100000 in
theorem ask_p (B p:Nat)(S:TS)(k c v x:Int)(w:World)(h:Plays B w p S)(hx:S.next=some x) :
  Calls Tryz.prog 87 #[.pointer (some ⟨p,0,none⟩),.agg #[.int .i64 k,.int .i64 c,.int .i64 v]] w fun e w'=>e=.returned (.int .i64 x)/\Plays B w' p (S.put ⟨k,c,v⟩)/\KeepP B p w w':=by
 obtain⟨h1,vA,vL,vC,vN,L,h⟩:=h
 have hlt:S.acc.length<S.ans.length:=by
  unfold TS.next at hx
  exact (List.getElem?_eq_some_iff.1 hx).1
 have hx2:=Lib.hid (show S.ans.getD S.acc.length 0=x by
  unfold TS.next at hx
  simp [List.getD,hx])
 clear hx
 have hc:=cell_of_heap h.heap
 have hbo:=h.ansN
 unfold maxAns at hbo
 have hle:=h.lt
 have hge:=h.ge
 obtain⟨Aa,ca,rfl,ha1,ha2⟩:=h.ans.slice
 obtain⟨Ac,cc,hvC⟩:∃ A c,vC=.slice A S.acc.length c:=by
  rcases h.rowC.2 with⟨rfl,h0⟩ | ⟨g,cap,cur,rfl,_⟩
  · exact⟨none,0,by rw [h0]⟩
  · exact⟨_,_,rfl⟩
 subst hvC
 have hL:=Lib.hid h
 have hlt2:=Lib.hid hlt
 clear h hlt
 obtain⟨i0,hi,hz0,hz1,hz2⟩:=info_parts info_acc
 go_enter Tryz.func87,Tryz.ntmps87
 go_wp2_with fail
 go_region_law ((refine step_append_lies _ (by rfl) _ _ _ (by rfl) B 50 i0 _ 3 24 Tryz.underlying43 hi hz0 hz1 hz2 rfl (by omega) (Value.slice Ac S.acc.length cc) S.acc.length (accVals S.acc) (by rfl) (((World.ownsRow.alloc hL.out.rowC _).drew).alloc _) ⟨w.heap.size+1,0,none⟩ 1 1 [.int .i64 k,.int .i64 c,.int .i64 v] (by rfl) (by rfl) (cells_new2 w _ _ _) (by simp [Value.oneCell']) (by omega) (by unfold maxLen;omega) (by omega) (by simp;omega) (w.heap.size+2) (by simp) ?_;intro gg cap w1 hown1 hgrow hat hlt;have hp1:=grown_heap hL.out.heap hL.out.cNe.2.1 (grown2 hgrow);have hq1:=cell_of_heap hp1;have hf1:=frozen_of_heap hp1))
 all_goals
  obtain⟨HM,HK⟩:=hL.out.grewC ⟨k,c,v⟩ (grown2 hgrow) (hat.imp id (by omega)) hown1 h1
  clear hown1 hgrow hat hlt hp1 hq1 hf1 hc
  generalize hv':(Value.slice (some ⟨gg,0,none⟩) (S.acc.length+1) cap)=v' at *
  generalize w1.setCell ⟨p,3,none⟩ v'=W at *
  clear hv' w1
  have hq:=cell_of_heap HM.heap
  have hlt:=hlt2.out
  obtain⟨b,off,rfl,hb,hcell⟩:=HM.ans.at_ (show S.acc.length<S.ans.length from hlt)
  rw [show (S.put ⟨k,c,v⟩).ans.getD S.acc.length 0=x from hx2.out] at hcell
  have HF:Plays B W p (S.put ⟨k,c,v⟩):=⟨by show (S.acc++_).length<=S.ans.length;simp;omega,_,_,_,_,_,HM⟩
  have HKh:=Lib.hid HK
  clear HM HK
  go_wp2_with fail
  go_ret
  exact⟨rfl,HF,HKh.out⟩
set_option maxRecDepth 100000 in
theorem ask_s (B p:Nat)(S:TS)(k c v:Int)(w:World)(h:Plays B w p S)(hx:S.next=none) :
  Calls Tryz.prog 87 #[.pointer (some ⟨p,0,none⟩),.agg #[.int .i64 k,.int .i64 c,.int .i64 v]] w fun e w'=>e=.panicked [{ v:=.iface 90 (.agg #[.pointer (some ⟨p,0,none⟩)]),recovered:=false }]/\Stops B w' p (S.put ⟨k,c,v⟩)/\KeepP B p w w':=by
 obtain⟨h1,vA,vL,vC,vN,L,h⟩:=h
 have hlt:S.acc.length=S.ans.length:=by
  unfold TS.next at hx
  have:=List.getElem?_eq_none_iff.1 hx
  omega
 clear hx
 have hc:=cell_of_heap h.heap
 have hbo:=h.ansN
 unfold maxAns at hbo
 have hle:=h.lt
 have hge:=h.ge
 obtain⟨Aa,ca,rfl,ha1,ha2⟩:=h.ans.slice
 obtain⟨Ac,cc,hvC⟩:∃ A c,vC=.slice A S.acc.length c:=by
  rcases h.rowC.2 with⟨rfl,h0⟩ | ⟨g,cap,cur,rfl,_⟩
  · exact⟨none,0,by rw [h0]⟩
  · exact⟨_,_,rfl⟩
 subst hvC
 have hL:=Lib.hid h
 have hlt2:=Lib.hid hlt
 clear h hlt
 obtain⟨i0,hi,hz0,hz1,hz2⟩:=info_parts info_acc
 go_enter Tryz.func87,Tryz.ntmps87
 go_wp2_with fail
 go_region_law ((refine step_append_lies _ (by rfl) _ _ _ (by rfl) B 50 i0 _ 3 24 Tryz.underlying43 hi hz0 hz1 hz2 rfl (by omega) (Value.slice Ac S.acc.length cc) S.acc.length (accVals S.acc) (by rfl) (((World.ownsRow.alloc hL.out.rowC _).drew).alloc _) ⟨w.heap.size+1,0,none⟩ 1 1 [.int .i64 k,.int .i64 c,.int .i64 v] (by rfl) (by rfl) (cells_new2 w _ _ _) (by simp [Value.oneCell']) (by omega) (by unfold maxLen;omega) (by omega) (by simp;omega) (w.heap.size+2) (by simp) ?_;intro gg cap w1 hown1 hgrow hat hlt;have hp1:=grown_heap hL.out.heap hL.out.cNe.2.1 (grown2 hgrow);have hq1:=cell_of_heap hp1;have hf1:=frozen_of_heap hp1))
 all_goals
  obtain⟨HM,HK⟩:=hL.out.grewC ⟨k,c,v⟩ (grown2 hgrow) (hat.imp id (by omega)) hown1 h1
  clear hown1 hgrow hat hlt hp1 hq1 hf1 hc
  generalize hv':(Value.slice (some ⟨gg,0,none⟩) (S.acc.length+1) cap)=v' at *
  generalize w1.setCell ⟨p,3,none⟩ v'=W at *
  clear hv' w1
  have hq:=cell_of_heap HM.heap
  have hle:S.ans.length<=S.acc.length:=by have:=hlt2.out;omega
  have hfz:=frozen_of_heap HM.heap
  have HMh:=Lib.hid HM
  have HKh:=Lib.hid HK
  clear HM HK
  go_wp2_with fail
  obtain⟨HM2,HK2⟩:=HMh.out.state 2
  exact⟨rfl,rfl,⟨_,_,_,_,_,HM2⟩,HKh.out.trans HK2⟩
theorem got_at {S:TS}{L:List Int}(h:LocIs L S.loc)(i:Nat):S.got i=L.getD i 0:=by
 unfold TS.got
 rw [if_neg (by omega),Int.toNat_natCast]
 exact h i
theorem got_out {S:TS}{L:List Int}(h:LocIs L S.loc)(i:Nat)(hi:L.length<=i):S.got i=0:=by
 rw [got_at h];simp [List.getD,List.getElem?_eq_none hi]
theorem got_neg {S:TS}{i:Int}(h:i<0):S.got i=0:=by unfold TS.got;rw [if_pos h]
theorem get_p (B p:Nat)(S:TS)(i:Int)(w:World)(h:Plays B w p S) :
  Calls Tryz.prog 40 #[.pointer (some ⟨p,0,none⟩),.int .i64 i] w fun e w'=>e=.returned (.int .i64 (S.got i))/\w=w':=by
 obtain⟨_,vA,vL,vC,vN,L,h⟩:=h
 have hc:=cell_of_heap h.heap
 have hI:Ints w vL L:=IntRow.ints h.rowL
 by_cases h0:i<0
 · rw [got_neg h0]
   go_enter Tryz.func40,Tryz.ntmps40
   go_wp2_with fail
   go_ret
   exact⟨rfl,rfl⟩
 · obtain⟨i,rfl⟩:∃ n:Nat,i=(n:Int):=⟨i.toNat,by omega⟩
   obtain⟨A,c,rfl,hc1,hc2⟩:=hI.slice
   by_cases h1:i<L.length
   · obtain⟨b,off,rfl,hb,hcell⟩:=hI.at_ h1
     rw [got_at h.loc]
     clear h hI
     go_enter Tryz.func40,Tryz.ntmps40
     go_wp2_with fail
     go_ret
     exact⟨rfl,rfl⟩
   · rw [got_out h.loc i (by omega)]
     clear h hI
     go_enter Tryz.func40,Tryz.ntmps40
     go_wp2_with fail
     go_ret
     exact⟨rfl,rfl⟩
end Go.Proofs.YtmmmiplmiooioaaGreat
namespace Go.Proofs.YtmmmiplmiooioaaGreat
section
variable {P:Program} (w:World)
theorem zeroCells_one (z:Value)(m:Nat):(Builtin.zeroCells #[z] m)=(List.replicate m z).toArray:=by
 apply Array.ext'
 simp only [Builtin.zeroCells,Array.toList_map,Array.toList_range]
 apply List.ext_getElem?
 intro j
 by_cases hj:j<m
 · simp [hj,Nat.mod_one]
 · simp [hj]
theorem run_append_zeros (t u ty:TypeId)(base:Nat)(e:TypeId)(i:TypeInfo)(z:Value)(bytes:Nat)(k:IntKind)(ht:P.underlying t=some (.slice e))(hu:P.underlying u=some (.int k))(hi:P.info? e=some i)(hz:i.zero=some z)
  (hsize:i.size=1)(hby:i.bytes=bytes)(hzs:z.cells=#[z])(hz1:z.oneCell'=true)
  (v:Value)(n:Nat)(xs:List Value)(hown:w.ownsRow base e 1 v n xs)(m:Nat)(hm:0<m)(h63:n+m<=maxLen)(hbytes:(n+m)*bytes<=140737488355328)(hbase:base<=w.heap.size) :
  ∃ g cap w',(Builtin.append_ #[t,u] ty #[v,.int k m]).run P w=.ok (.slice (some ⟨g,0,none⟩) (n+m) cap) w' /\
   w'.ownsRow base e 1 (.slice (some ⟨g,0,none⟩) (n+m) cap) (n+m) (xs++List.replicate m z)/\w.grownBy w' v.ownBlock/\(v.ownBlock=some g∨g=w.heap.size):=by
 subst hby
 have hsmall:n+m<=9223372036854775807:=by simpa only [maxLen] using h63
 have hw64:IntKind.i64.wrap (m:Int)=m:=by rw [IntKind.wrap_i64];omega
 have hm0:¬ ((m:Int)<0):=by omega
 have hmb:¬ (281474976710656<(m:Int)*(i.bytes:Int)):=by
  have h1:m*i.bytes<=(n+m)*i.bytes:=Nat.mul_le_mul_right _ (by omega)
  have h2:((m*i.bytes:Nat):Int)<=140737488355328:=by omega
  rw [Int.natCast_mul] at h2
  omega
 have hmz:¬ (m=0):=by omega
 have hlen:(xs++List.replicate m z).length=(n+m)*1:=by rw [List.length_append,hown.1,List.length_replicate];omega
 have hxs:xs.length=n:=by have:=hown.1;omega
 have hzc:=zeroCells_one z
 have grown:∀ (old:Nat),old<n+m->∀ (row:Option Nat),
   (w.drew.alloc (.cells (xs.toArray++(List.replicate m z).toArray++Builtin.zeroCells z.cells (grownCap w (n+m) old e-(n+m))) e)).ownsRow base e 1
     (.slice (some ⟨w.heap.size,0,none⟩) (n+m) (grownCap w (n+m) old e)) (n+m) (xs++List.replicate m z) /\
   w.grownBy (w.drew.alloc (.cells (xs.toArray++(List.replicate m z).toArray++Builtin.zeroCells z.cells (grownCap w (n+m) old e-(n+m))) e)) row:=by
  intro old ho row
  have hge:=grownCap_ge w (n+m) old e
  have hcm:grownCap w (n+m) old e<=maxLen:=grownCap_le_maxLen w (n+m) old e h63
  refine⟨⟨hlen,.inr ⟨w.heap.size,_,_,rfl,hbase,heap_alloc_new w.drew _,hge,hcm,?_,?_⟩⟩,⟨rfl,rfl,rfl,by simp,fun k hk _=>Go.RowKit.Below.heap_alloc w.drew _ k hk⟩⟩
  · simp only [Array.size_append,List.size_toArray,size_zeroCells,hzs,List.length_replicate,hxs]
    simp
    omega
  · simp only [Array.toList_append,List.append_assoc]
    rw [<- List.append_assoc,<- hlen]
    exact List.take_left
 rcases hown.2 with⟨rfl,rfl⟩ | ⟨g,cap,cur,rfl,hbg,hg,hnc,hcm,hcs,htake⟩
 · obtain rfl:xs=[]:=List.eq_nil_of_length_eq_zero hxs
   have hgr:=grown 0 (by omega) (Value.ownBlock (.slice none 0 0))
   refine⟨w.heap.size,grownCap w (0+m) 0 e,_,?_,hgr.1,hgr.2,.inr rfl⟩
   have h63':¬ (9223372036854775807<(m:Int)):=by omega
   have h48':¬ (281474976710656<Builtin.nextslicecap m 0*i.bytes):=by rw [nextslicecap_zero hm];simp only [Nat.zero_add] at hbytes;omega
   simp [Builtin.append_,run_underlying ht,run_underlying hu,sizeOf,typeInfo,zeroValue,hi,hz,hsize,hw64,hm0,hmb,hmz,h63',h48',Question.forced,Builtin.firstCells,newRow,grownCap,asInt,asIntOf,hzs,hzc]
 · by_cases hroom:n+m<=cap
   · have hfit:n*1+(List.replicate m z).length<=cur.size:=by rw [List.length_replicate,hcs];omega
     have h1:∀ u∈List.replicate m z,u.oneCell'=true:=fun u hu=>by rw [List.eq_of_mem_replicate hu];exact hz1
     have hst:=run_storeCells_at P g (n*1) e (List.replicate m z) 0 cur w hg (by simpa using hfit) h1
     simp only [Nat.add_zero,Nat.mul_one] at hst
     refine⟨g,cap,w.setRow g (cur.toList.take n++List.replicate m z++cur.toList.drop (n+(List.replicate m z).length)).toArray,?_,⟨hlen,.inr ⟨g,cap,_,rfl,hbg,setRow_heap w g cur _ e _ hg,hroom,hcm,?_,?_⟩⟩,⟨rfl,rfl,rfl,by simp,fun k _ hk=>setRow_other w g k _ (fun e=>hk (by simp [Value.ownBlock,e]))⟩,.inl rfl⟩
     · simp [Builtin.append_,run_underlying ht,run_underlying hu,sizeOf,typeInfo,zeroValue,hi,hz,hsize,hw64,hm0,hmb,hmz,hroom,Addr.add_lit,hst,asInt,asIntOf,hzs,hzc]
     · simp only [List.size_toArray,List.length_append,List.length_take,List.length_drop,Array.length_toList]
       simp only [List.length_replicate] at hfit ⊢
       omega
     · have e:((cur.toList.take n++List.replicate m z++cur.toList.drop (n+(List.replicate m z).length)).toArray).toList=(xs++List.replicate m z)++cur.toList.drop (n+(List.replicate m z).length):=by
        rw [<- htake,Nat.mul_one]
       rw [e,<- hlen]
       exact List.take_left
   · have holds:∀ j u,xs[j]?=some u->w.cell? ((⟨g,0,none⟩:Addr).add j)=some u:=hown.cells (g:=g) rfl
     have hgr:=grown cap (by omega) (Value.ownBlock (.slice (some ⟨g,0,none⟩) n cap))
     refine⟨w.heap.size,grownCap w (n+m) cap e,_,?_,hgr.1,hgr.2,.inr rfl⟩
     have hfo:=run_firstCells_some (P:=P) w.drew 1 n ⟨g,0,none⟩ n cap xs (by omega) (by simpa using holds)
     have h63':¬ (9223372036854775807<((n:Int)+(m:Int))):=by omega
     have h48':¬ (281474976710656<Builtin.nextslicecap (n+m) cap*i.bytes):=by have:=growslice_fits (show cap<n+m by omega) hbytes;omega
     simp [Builtin.append_,run_underlying ht,run_underlying hu,sizeOf,typeInfo,zeroValue,hi,hz,hsize,hw64,hm0,hmb,hmz,hroom,h63',h48',Question.forced,hfo,newRow,grownCap,asInt,asIntOf,hzs,hzc]
theorem step_append_zeros {ops:Array Oper}{o:Oper}{a:Act}{K:Act->World->Prop}{Q:Exit->Act->World->Prop}{E:Prop}(hgd:o.guard=none)(s x:Operand)(t u:TypeId)
  (ho:o.op=.call { callee:=.builtin .append,args:=#[s,x],argTypes:=#[t,u] })
  (base:Nat)(e:TypeId)(i:TypeInfo)(z:Value)(bytes:Nat)(k:IntKind)(ht:P.underlying t=some (.slice e))(hu:P.underlying u=some (.int k))(hi:P.info? e=some i)(hz:i.zero=some z)
  (hsize:i.size=1)(hby:i.bytes=bytes)(hzs:z.cells=#[z])(hz1:z.oneCell'=true)
  (v:Value)(n:Nat)(xs:List Value)(hs:a.eval s=v)(hown:w.ownsRow base e 1 v n xs)(m:Nat)(hx:a.eval x=.int k m)(hm:0<m)(h63:n+m<=maxLen)(hbytes:(n+m)*bytes<=140737488355328)(hbase:base<=w.heap.size)
  (h:∀ g cap w',w'.ownsRow base e 1 (.slice (some ⟨g,0,none⟩) (n+m) cap) (n+m) (xs++List.replicate m z)->w.grownBy w' v.ownBlock->(v.ownBlock=some g∨g=w.heap.size)->K (a.put o.dst (.slice (some ⟨g,0,none⟩) (n+m) cap)) w') :
  if Region.wanted o (yielded ops a.tmps)=true then Oper.wp P o a w K Q else E:=by
 have hw:Region.wanted o (yielded ops a.tmps)=true:=by simp [Region.wanted,hgd]
 rw [if_pos hw]
 obtain⟨g,cap,w',hr,h2,h3,h4⟩:=run_append_zeros (P:=P) w t u o.type base e i z bytes k ht hu hi hz hsize hby hzs hz1 v n xs hown m hm h63 hbytes hbase
 unfold Oper.wp execOp
 simp only [ho,resolve,invoke,builtin,Sem.run_bind,Sem.run_pure,Result.andThen_ok,List.map_toArray,List.map_cons,List.map_nil,hs,hx,hr]
 exact h g cap w' h2 h3 h4
end
end Go.Proofs.YtmmmiplmiooioaaGreat
namespace Go.Proofs.YtmmmiplmiooioaaGreat
open Go.RowKit Kv
theorem grown0 {w w1:World}{row:Option Nat}(hg:(w.drew).grownBy w1 row):w.grownBy w1 row:=⟨hg.os,hg.tape,hg.output,hg.size,hg.block⟩
section
variable {B p:Nat} {w w1:World} {S:TS} {st:Int} {vA vL vC vN:Value} {L:List Int}
theorem LocIs.set {L:List Int}{f:Nat->Int}(h:LocIs L f)(i:Nat)(hi:i<L.length)(v:Int):LocIs (L.set i v) (fun j=>if j=i then v else f j):=by
 intro j
 by_cases e:j=i
 · subst e;simp [List.getD,hi]
 · simp [List.getD,e,Ne.symm e,h j]
theorem LocIs.zeros {L:List Int}{f:Nat->Int}(h:LocIs L f)(n:Nat):LocIs (L++List.replicate n 0) f:=by
 intro j
 rw [h j]
 simp only [List.getD_eq_getElem?_getD,List.getElem?_append,List.getElem?_replicate]
 split
 · rfl
 · rename_i hj
   rw [List.getElem?_eq_none (by omega)]
   split <;> rfl
theorem TS.upd_in {S:TS}{i:Nat}(h:i<32768)(v:Int):S.upd i v={ S with loc:=fun j=>if j=i then v else S.loc j }:=by
 unfold TS.upd
 rw [if_pos (by omega),Int.toNat_natCast]
theorem TS.upd_out {S:TS}{i v:Int}(h:i<0∨32768<=i):S.upd i v=S:=by
 unfold TS.upd
 rw [if_neg (by omega)]
theorem TS.upd_zero {S:TS}{L:List Int}(h:LocIs L S.loc){i:Nat}(hi:L.length<=i):S.upd i 0=S:=by
 unfold TS.upd
 split
 · obtain⟨a,c,n,f⟩:=S
   congr 1
   funext j
   show (if j=(i:Int).toNat then 0 else f j)=f j
   split
   · subst j
     have h2:f ((i:Int).toNat)=L.getD ((i:Int).toNat) 0:=h _
     rw [h2]
     simp [List.getD,List.getElem?_eq_none (show L.length<=i from hi)]
   · rfl
 · rfl
theorem PMem.stored {g cap:Nat}(h:PMem B w p S st vA (.slice (some ⟨g,0,none⟩) L.length cap) vC vN L)(i:Nat)(hi:i<L.length)(v:Int) :
  PMem B (w.setCell ⟨g,i,none⟩ (.int .i64 v)) p (S.upd i v) st vA (.slice (some ⟨g,0,none⟩) L.length cap) vC vN (L.set i v)/\KeepP B p w (w.setCell ⟨g,i,none⟩ (.int .i64 v)):=by
 obtain⟨nL,nC,nN⟩:=h.cNe
 have hgp:g≠p:=fun e=>nL (by rw [e];rfl)
 obtain⟨hs1,hs2⟩:=h.rowL.stored i (.int .i64 v)
 have hlt:=h.locN
 have hu:=TS.upd_in (S:=S) (show i<32768 by omega) v
 have hgB:=(h.rowL.lt g rfl).1
 refine⟨{ ge:=h.ge,heap:=?_,ans:=?_,ansB:=h.ansB,rowL:=?_,rowC:=?_,rowN:=?_,loc:=?_,locN:=by simpa using h.locN,accN:=?_,ansN:=?_,ntsN:=?_ },?_⟩
 · rw [heap_setCell_ne _ _ (Ne.symm hgp)];exact h.heap
 · rw [hu]
   exact ints_set h.ans _ _ (fun b hb=>by have:=h.ansB b hb;show b≠g;omega)
 · rw [List.map_set,List.length_set];exact hs1
 · rw [hu]
   exact row_set h.rowC (fun e=>by
    have:=rows_apart h.rowC h.rowL (by decide)
    rw [e] at this
    simp [Value.ownBlock] at this)
 · rw [hu]
   exact row_set h.rowN (fun e=>by
    have:=rows_apart h.rowN h.rowL (by decide)
    rw [e] at this
    simp [Value.ownBlock] at this)
 · rw [hu];exact h.loc.set i hi v
 · rw [hu];exact h.accN
 · rw [hu];exact h.ansN
 · rw [hu];exact h.ntsN
 · have ho:ownR [2,3,4] w p g:=ownR_at h.heap (by simp) (i:=2) rfl rfl
   refine⟨⟨rfl,rfl,rfl,by simp,fun k hk=>heap_setCell_ne _ _ (by omega)⟩,fun b hb hn=>⟨heap_setCell_ne _ _ (fun e=>hn (e▸ho)),fun h'=>hn ?_⟩⟩
   exact (ownR_same (heap_setCell_ne _ _ (Ne.symm hgp)) b).1 h'
theorem PMem.grewL (h:PMem B w p S st vA vL vC vN L)(n:Nat){g cap:Nat}(hg:w.grownBy w1 vL.ownBlock)(hat:vL.ownBlock=some g∨w.heap.size<=g)
  (hown:w1.ownsRow B 3 1 (.slice (some ⟨g,0,none⟩) (L.length+n) cap) (L.length+n) (L.map (Value.int .i64)++(List.replicate n (Value.int .i64 0))))(hl:L.length+n<=32768) :
  PMem B (w1.setCell ⟨p,2,none⟩ (.slice (some ⟨g,0,none⟩) (L.length+n) cap)) p S st vA (.slice (some ⟨g,0,none⟩) (L.length+n) cap) vC vN (L++List.replicate n 0) /\
   KeepP B p w (w1.setCell ⟨p,2,none⟩ (.slice (some ⟨g,0,none⟩) (L.length+n) cap)):=by
 obtain⟨nL,nC,nN⟩:=h.cNe
 have hp1:=grown_heap h.heap nL hg
 have hgp:(Value.slice (some ⟨g,0,none⟩) (L.length+n) cap).ownBlock≠some p:=row_not hown hp1 (by decide)
 refine⟨?_,?_⟩
 · refine { ge:=h.ge,heap:=heap_setCell hp1 _,ans:=ints_set (ints_grown h.ans hg ?_) _ _ ?_,ansB:=h.ansB,rowC:=row_set (h.rowC.kept hg (rows_apart h.rowC h.rowL (by decide))) nC,rowL:=?_,rowN:=row_set (h.rowN.kept hg (rows_apart h.rowN h.rowL (by decide))) nN,loc:=h.loc.zeros n,locN:=by simpa using hl,accN:=h.accN,ansN:=h.ansN,ntsN:=h.ntsN }
   · intro b hb e
     have:=h.ansB b hb
     have:=(h.rowL.lt b e).1
     omega
   · intro b hb
     have:=h.ansB b hb
     have:=h.ge
     show b≠p
     omega
   · rw [List.length_append,List.length_replicate,List.map_append,List.map_replicate]
     exact row_set hown hgp
 · refine keep_field h.ge h.heap hg (fun b hb=>⟨(h.rowL.lt b hb).1,ownR_at h.heap (by simp) (i:=2) rfl hb⟩) nL rfl fun b hb=>?_
   obtain rfl:g=b:=by simpa [Value.ownBlock] using hb
   rcases hat with h1 | h1
   · exact .inl (ownR_at h.heap (by simp) (i:=2) rfl h1)
   · exact .inr h1
end
set_option maxRecDepth 100000 in
theorem set_p (B p:Nat)(S:TS)(i v:Int)(w:World)(h:Plays B w p S) :
  Calls Tryz.prog 44 #[.pointer (some ⟨p,0,none⟩),.int .i64 i,.int .i64 v] w fun e w'=>e=.returned (.tuple #[])/\Plays B w' p (S.upd i v)/\KeepP B p w w':=by
 by_cases h0:i<0∨32768<=i
 · rw [TS.upd_out h0]
   have h':=Lib.hid h
   obtain⟨h1,vA,vL,vC,vN,L,h⟩:=h
   have hc:=cell_of_heap h.heap
   clear h
   rcases h0 with h0 | h0
   · go_enter Tryz.func44,Tryz.ntmps44
     go_wp2_with fail
     first | go_end0 | refine bodyPost_ret (results_none rfl _ _ _) rfl ?_
     exact⟨rfl,h'.out,Keep.refl _ _ _ _⟩
   · go_enter Tryz.func44,Tryz.ntmps44
     go_wp2_with fail
     first | go_end0 | refine bodyPost_ret (results_none rfl _ _ _) rfl ?_
     exact⟨rfl,h'.out,Keep.refl _ _ _ _⟩
 · obtain⟨i,rfl⟩:∃ n:Nat,i=(n:Int):=⟨i.toNat,by omega⟩
   have hi:i<32768:=by omega
   clear h0
   have h':=Lib.hid h
   obtain⟨h1,vA,vL,vC,vN,L,h⟩:=h
   have hc:=cell_of_heap h.heap
   have hI:Ints w vL L:=IntRow.ints h.rowL
   have hLn:=h.locN
   obtain⟨A,c,rfl,hc1,hc2⟩:=hI.slice
   by_cases hin:i<L.length
   · obtain⟨g,rfl⟩:∃ g,A=some ⟨g,0,none⟩:=by
      rcases h.rowL.2 with⟨e,h0⟩ | ⟨g,cap,cur,e,_⟩
      · omega
      · injection e with e1 e2 e3
        exact⟨g,e1⟩
     obtain⟨HM,HK⟩:=h.stored i hin v
     obtain⟨b,off,he,hb,hcell⟩:=hI.at_ hin
     injection he with he
     injection he with e1 e2
     subst e1 e2
     rw [Nat.zero_add] at hcell
     have hfz:=h.rowL.frozenAt i
     have HP:Plays B _ p (S.upd i v):=⟨by rw [TS.upd_acc,TS.upd_ans];exact h1,_,_,_,_,_,HM⟩
     have HPh:=Lib.hid HP
     have HKh:=Lib.hid HK
     clear HM HK HP h hI
     go_enter Tryz.func44,Tryz.ntmps44
     go_wp2_with fail
     first | go_end0 | refine bodyPost_ret (results_none rfl _ _ _) rfl ?_
     exact⟨rfl,HPh.out,HKh.out⟩
   · by_cases hv:v=0
     · subst hv
       rw [TS.upd_zero h.loc (by omega)]
       clear h hI
       go_enter Tryz.func44,Tryz.ntmps44
       go_wp2_with fail
       first | go_end0 | refine bodyPost_ret (results_none rfl _ _ _) rfl ?_
       exact⟨rfl,h'.out,Keep.refl _ _ _ _⟩
     · have hvb:(v==0)=false:=by rw [beq_eq_false_iff_ne];exact hv
       obtain⟨i0,hi0,hz0,hz1,hz2⟩:=info_parts info_int
       obtain⟨m,hm⟩:∃ m,L.length+m=i+1:=⟨i+1-L.length,by omega⟩
       have hw:IntKind.i64.wrap (IntKind.i64.wrap ((i:Int)+1)-(L.length:Int))=(m:Int):=by rw [IntKind.wrap_i64,IntKind.wrap_i64];omega
       have hL:=Lib.hid h
       have hmh:=Lib.hid hm
       clear h hI hm
       have hm0:0<m:=by have:=hmh.out;omega
       go_enter Tryz.func44,Tryz.ntmps44
       go_wp2_with fail
       go_region_law ((refine step_append_zeros _ (by rfl) _ _ _ _ (by rfl) B 3 i0 (.int .i64 0) 8 .i64 Tryz.underlying33 Tryz.underlying3 hi0 hz0 hz1 hz2 rfl rfl (Value.slice A L.length c) L.length (L.map (Value.int .i64)) (by rfl) (World.ownsRow.drew hL.out.rowL) m (by first | rfl | (simp only [hw];done)) hm0 (by have:=hmh.out;unfold maxLen;omega) (by have:=hmh.out;omega) (by have:=hL.out.lt;have:=hL.out.ge;simp;omega) ?_;intro gg cap w1 hown1 hgrow hat;have hp1:=grown_heap hL.out.heap hL.out.cNe.1 (grown0 hgrow);have hq1:=cell_of_heap hp1;have hf1:=frozen_of_heap hp1))
       all_goals
        obtain⟨HM,HK⟩:=hL.out.grewL m (grown0 hgrow) (hat.imp id (fun e=>Nat.le_of_eq e.symm)) hown1 (by have:=hmh.out;omega)
        clear hown1 hgrow hat hp1 hq1 hf1 hc hL
        generalize w1.setCell ⟨p,2,none⟩ (.slice (some ⟨gg,0,none⟩) (L.length+m) cap)=W at *
        clear w1
        have hlen:L.length+m=(L++List.replicate m (0:Int)).length:=by simp
        rw [hlen] at HM ⊢
        have hi2:i<(L++List.replicate m (0:Int)).length:=by have:=hmh.out;omega
        generalize L++List.replicate m (0:Int)=L2 at *
        have hq:=cell_of_heap HM.heap
        obtain⟨HM2,HK2⟩:=HM.stored i hi2 v
        have hfz:=HM.rowL.frozenAt i
        have hcl:W.cell? ⟨gg,i,none⟩=some (.int .i64 (L2.getD i 0)):=by
         obtain⟨b,off,he,_,hcell⟩:=(IntRow.ints HM.rowL).at_ hi2
         injection he with he
         injection he with e1 e2
         subst e1 e2
         rw [Nat.zero_add] at hcell
         exact hcell
        have HP:Plays B _ p (S.upd i v):=⟨by rw [TS.upd_acc,TS.upd_ans];exact h1,_,_,_,_,_,HM2⟩
        have HPh:=Lib.hid HP
        have HKh:=Lib.hid (HK.trans HK2)
        clear HM HK HP HM2 HK2 hlen hmh hm0 hw hin hLn
        go_wp2_with fail
        first | go_end0 | refine bodyPost_ret (results_none rfl _ _ _) rfl ?_
        exact⟨rfl,HPh.out,HKh.out⟩
abbrev KeepR (B p:Nat) (w w':World):Prop:=Keep [3,4,5] B p w w'
section
variable {B p:Nat} {w w' w1:World} {S:TS} {n:Nat} {o:Bool} {vA vL vC vN:Value} {L:List Int}
end
theorem Plays.drew {B p:Nat}{w:World}{S:TS}(h:Plays B w p S):Plays B w.drew p S:=h.ext (Ext.refl w).drew
theorem Keep.drew {ix:List Nat}{B p:Nat}{w w':World}(h:Keep ix B p w w'):Keep ix B p w w'.drew:=⟨⟨h.below.os,h.below.tape,h.below.output,h.below.size,h.below.block⟩,h.rest⟩
theorem Held.drew {ix:List Nat}{p b:Nat}{w:World}{o:Obj}(h:Held ix w p b o):Held ix w.drew p b o:=h
def stopE (p:Nat):Ending:=.panicked [{ v:=.iface 90 (.agg #[.pointer (some ⟨p,0,none⟩)]),recovered:=false }]
def Post {α:Type} (enc:α->Value) (B p:Nat) (w0:World) (r:Option α × TS) (e:Ending) (w':World):Prop :=
 match r.1 with
 | some v=>e=.returned (enc v)/\Plays B w' p r.2/\KeepP B p w0 w'
 | none=>e=stopE p/\Stops B w' p r.2/\KeepP B p w0 w'
def Owes {α:Type} (R:Ending->World->Prop) (enc:α->Value) (B p:Nat) (w0:World) (r:Option α × TS):Prop:=∀ e w',Post enc B p w0 r e w'->R e w'
theorem owes {α:Type}(enc:α->Value)(B p:Nat)(w0:World)(r:Option α × TS):Owes (Post enc B p w0 r) enc B p w0 r:=fun _ _ h=>h
def encI (x:Int):Value:=.int .i64 x
def encU (_:Unit):Value:=.tuple #[]
def encB (b:Bool):Value:=.bool b
@[go_sem] theorem encI_eq (x:Int):encI x=.int .i64 x:=rfl
@[go_sem] theorem encU_eq (x:Unit):encU x=.tuple #[]:=rfl
@[go_sem] theorem encB_eq (x:Bool):encB x=.bool x:=rfl
section
variable {α β:Type} {B p:Nat} {w0 w:World} {S:TS} {R:Ending->World->Prop}
theorem Owes.done {enc:α->Value}{v:α}{w':World}(h:Owes R enc B p w0 (some v,S))(h1:Plays B w' p S)(h2:KeepP B p w0 w'):R (.returned (enc v)) w':=h _ _ ⟨rfl,h1,h2⟩
theorem Owes.stop {enc:α->Value}{w':World}(h:Owes R enc B p w0 (none,S))(h1:Stops B w' p S)(h2:KeepP B p w0 w'):R (stopE p) w':=h _ _ ⟨rfl,h1,h2⟩
theorem tstep {P:Program}{f:FuncId}{args:Array Value}{K:Ending->World->Prop}{enc:α->Value}{enc':β->Value}{T:Prog α}{g:α->Prog β}
  (hO:Owes R enc' B p w0 ((T.bind g).run S))(hB:KeepP B p w0 w)(h:Calls P f args w (Post enc B p w (T.run S)))(hp:∀ w',R (stopE p) w'->K (stopE p) w')
  (hk:∀ v S1 w1,T.run S=(some v,S1)->Plays B w1 p S1->KeepP B p w w1->KeepP B p w0 w1->Owes R enc' B p w0 ((g v).run S1)->K (.returned (enc v)) w1):Calls P f args w K:=by
 refine h.mono fun e w1 hp1=>?_
 unfold Post at hp1
 generalize hr:T.run S=r at hp1
 obtain⟨o,S1⟩:=r
 cases o with
 | some v =>
   obtain⟨rfl,h1,h2⟩:=hp1
   rw [Prog.run_bind_some hr] at hO
   exact hk v S1 w1 hr h1 h2 (hB.trans h2) hO
 | none =>
   obtain⟨rfl,h1,h2⟩:=hp1
   rw [Prog.run_bind_none hr] at hO
   exact hp w1 (hO.stop h1 (hB.trans h2))
theorem tlast {P:Program}{f:FuncId}{args:Array Value}{K:Ending->World->Prop}{enc enc':α->Value}{T:Prog α}
  (hO:Owes R enc' B p w0 (T.run S))(hB:KeepP B p w0 w)(h:Calls P f args w (Post enc B p w (T.run S)))(hp:∀ w',R (stopE p) w'->K (stopE p) w')
  (hk:∀ v S1 w1,T.run S=(some v,S1)->Plays B w1 p S1->KeepP B p w w1->KeepP B p w0 w1->Owes R enc' B p w0 (some v,S1)->K (.returned (enc v)) w1):Calls P f args w K:=by
 rw [<- Prog.bind_id T] at hO
 exact tstep hO hB h hp hk
end
theorem read_p (B p:Nat)(S:TS)(c:Int)(w:World)(h:Plays B w p S):Calls Tryz.prog 45 #[.pointer (some ⟨p,0,none⟩),.int .i64 c] w (Post encI B p w ((rd c).run S)):=by
 cases hx:S.next with
 | some x =>
   have hr:(rd c).run S=(some x,S.put ⟨1,c,0⟩):=by simp [rd,Prog.run,hx]
   rw [hr]
   have hA:=ask_p B p S 1 c 0 x w h hx
   clear hr hx
   go_enter Tryz.func45,Tryz.ntmps45
   go_wp2_with fail
   refine hA.mono ?_
   rintro e w' ⟨rfl,h1,h2⟩
   have HH:Hid (Plays B w' p (S.put ⟨1,c,0⟩)/\KeepP B p w w'):=⟨h1,h2⟩
   clear h1 h2
   go_wp2_with fail
   go_ret
   exact⟨rfl,HH.out.1,HH.out.2⟩
 | none =>
   have hr:(rd c).run S=(none,S.put ⟨1,c,0⟩):=by simp [rd,Prog.run,hx]
   rw [hr]
   have hA:=ask_s B p S 1 c 0 w h hx
   clear hr hx
   go_enter Tryz.func45,Tryz.ntmps45
   go_wp2_with fail
   refine hA.mono ?_
   rintro e w' ⟨rfl,h1,h2⟩
   exact⟨rfl,rfl,h1,h2⟩
theorem write_p (B p:Nat)(S:TS)(c v:Int)(w:World)(h:Plays B w p S):Calls Tryz.prog 42 #[.pointer (some ⟨p,0,none⟩),.int .i64 c,.int .i64 v] w (Post encU B p w ((wr c v).run S)):=by
 cases hx:S.next with
 | some x =>
   have hr:(wr c v).run S=(some (),S.put ⟨2,c,v⟩):=by simp [wr,Prog.run,hx]
   rw [hr]
   have hA:=ask_p B p S 2 c v x w h hx
   clear hr hx
   go_enter Tryz.func42,Tryz.ntmps42
   go_wp2_with fail
   refine hA.mono ?_
   rintro e w' ⟨rfl,h1,h2⟩
   have HH:Hid (Plays B w' p (S.put ⟨2,c,v⟩)/\KeepP B p w w'):=⟨h1,h2⟩
   clear h1 h2
   go_wp2_with fail
   first | go_end0 | refine bodyPost_ret (results_none rfl _ _ _) rfl ?_
   exact⟨rfl,HH.out.1,HH.out.2⟩
 | none =>
   have hr:(wr c v).run S=(none,S.put ⟨2,c,v⟩):=by simp [wr,Prog.run,hx]
   rw [hr]
   have hA:=ask_s B p S 2 c v w h hx
   clear hr hx
   go_enter Tryz.func42,Tryz.ntmps42
   go_wp2_with fail
   refine hA.mono ?_
   rintro e w' ⟨rfl,h1,h2⟩
   exact⟨rfl,rfl,h1,h2⟩
theorem setO {B p:Nat}{S:TS}{i v:Int}{w:World}(h:Plays B w p S):Calls Tryz.prog 44 #[.pointer (some ⟨p,0,none⟩),.int .i64 i,.int .i64 v] w (Post encU B p w ((st i v).run S)) :=
 (set_p B p S i v w h).mono fun _ _ ⟨h1,h2,h3⟩=>⟨h1,h2,h3⟩
end Go.Proofs.YtmmmiplmiooioaaGreat
namespace Kv
open Go Go.RowKit
structure Reg where
 kind:Int
 base:Int
 loc:Int
 n:Int
 wr:Int
 rd:Int
 top:Int
def forP {σ:Type} (T:Int->σ->Prog σ):List Int->σ->Prog σ
 | [],x=>.ret x
 | a :: l,x=>(T a x).bind fun y=>forP T l y
def ranksFrom (but:Int):Nat->Int->List Int
 | 0,_=>[]
 | n+1,i=>if i=but then ranksFrom but n (i+1) else i :: ranksFrom but n (i+1)
structure Reg.ok (r:Reg):Prop where
 kind:r.kind=1∨r.kind=6∨r.kind=7
 base:0<=r.base/\r.base<=32768
 loc:0<=r.loc/\r.loc<=32768
 n:1<=r.n/\r.n<=8
 wr:r.kind=6->0<=r.wr/\r.wr<r.n
end Kv
namespace Kv
inductive Prog.Asks {α:Type}:Prog α->Prop
 | read (c:Int) (k:Int->Prog α):Asks (.read c k)
 | write (c v:Int) (k:Unit->Prog α):Asks (.write c v k)
 | get (i:Int) {k:Int->Prog α}:(∀ x,Asks (k x))->Asks (.get i k)
 | set (i v:Int) {k:Unit->Prog α}:Asks (k ())->Asks (.set i v k)
 | note (m:Int) {k:Unit->Prog α}:Asks (k ())->Asks (.note m k)
theorem Prog.Asks.bind {α β:Type}{p:Prog α}(h:p.Asks)(f:α->Prog β):(p.bind f).Asks:=by
 induction h with
 | read c k=>exact .read _ _
 | write c v k=>exact .write _ _ _
 | get i _ ih=>exact .get i fun x=>ih x
 | set i v _ ih=>exact .set i v ih
 | note m _ ih=>exact .note m ih
theorem Prog.Asks.then {α β:Type}{f:α->Prog β}(h:∀ a,(f a).Asks):∀ p:Prog α,(p.bind f).Asks
 | .ret a=>h a
 | .read _ _=>.read _ _
 | .write _ _ _=>.write _ _ _
 | .get i k=>.get i fun x=>Asks.then h (k x)
 | .set i v k=>.set i v (Asks.then h (k ()))
 | .note m k=>.note m (Asks.then h (k ()))
theorem Prog.run_len {α:Type}(p:Prog α)(S:TS):S.acc.length<=(p.run S).2.acc.length:=by
 obtain⟨l,h⟩:=Prog.run_acc p S
 rw [h];simp
theorem Prog.Asks.run {α:Type}{p:Prog α}(h:p.Asks):∀ S:TS,S.acc.length<(p.run S).2.acc.length:=by
 induction h with
 | read c k =>
   intro S
   simp only [Prog.run]
   cases S.next with
   | none=>simp [TS.put]
   | some v=>have:=Prog.run_len (k v) (S.put ⟨1,c,0⟩);simp [TS.put] at this ⊢;omega
 | write c v k =>
   intro S
   simp only [Prog.run]
   cases S.next with
   | none=>simp [TS.put]
   | some _=>have:=Prog.run_len (k ()) (S.put ⟨2,c,v⟩);simp [TS.put] at this ⊢;omega
 | get i _ ih=>intro S;exact ih _ _
 | set i v _ ih=>intro S;have:=ih (S.upd i v);rw [TS.upd_acc] at this;exact this
 | note m _ ih=>intro S;exact ih (S.noted m)
def TS.left (S:TS):Nat:=S.ans.length-S.acc.length
theorem Prog.run_left {α:Type}(p:Prog α)(S:TS):(p.run S).2.left<=S.left:=by
 have h1:=Prog.run_ans p S
 have h2:=Prog.run_len p S
 unfold TS.left
 rw [h1];omega
theorem Prog.Asks.left {α:Type}{p:Prog α}(h:p.Asks){S S1:TS}{a:α}(hr:p.run S=(some a,S1))(hl:S1.acc.length<=S1.ans.length):S1.left<S.left:=by
 have h1:=Prog.run_ans p S
 have h2:=h.run S
 rw [hr] at h1 h2
 simp only at h1 h2
 unfold TS.left
 rw [<- h1];omega
theorem asks_rd (c:Int):(rd c).Asks:=.read _ _
theorem asks_wr (c v:Int):(wr c v).Asks:=.write _ _ _
def Reg.told (r:Reg) (me:Int):Prop:=r.kind=1∨(r.kind=6/\me≠r.wr)∨(r.kind=7/\2<=r.n)
def shortN (L:List Int):Nat->Nat
 | 0=>0
 | n+1=>if L.getD n 0=0 then shortN L n else n+1
def shortL (L:List Int):List Int:=L.take (shortN L L.length)
theorem shortN_le (L:List Int):∀ n,shortN L n<=n
 | 0=>Nat.le_refl _
 | n+1=>by
   unfold shortN
   split
   · exact Nat.le_succ_of_le (shortN_le L n)
   · exact Nat.le_refl _
end Kv
namespace Go.Proofs.YtmmmiplmiooioaaGreat
open Go.RowKit Kv
theorem Ints.take {w:World}{A:Option Addr}{c:Nat}{L:List Int}(h:Ints w (.slice A L.length c) L)(m:Nat)(hm:m<=L.length):Ints w (.slice A m c) (L.take m):=by
 obtain⟨A',c',he,h1,h2,h3⟩:=h
 injection he with e1 e2 e3
 subst e1 e3
 have hl:(L.take m).length=m:=by rw [List.length_take];omega
 refine⟨A,c,by rw [hl],by omega,h2,fun hne=>?_⟩
 obtain⟨b,off,rfl,hb,hc⟩:=h3 (fun e=>hne (by rw [e];simp))
 refine⟨b,off,rfl,hb,fun i x hi=>hc i x ?_⟩
 rw [List.getElem?_take] at hi
 split at hi
 · exact hi
 · cases hi
end Go.Proofs.YtmmmiplmiooioaaGreat
namespace Kv
end Kv
namespace Go.Proofs.YtmmmiplmiooioaaGreat
open Go.RowKit Kv
def Blk (w:World) (b:Nat) (o:Obj):Prop:=w.heap[b]?=some o
theorem Blk.lt {w:World}{b:Nat}{o:Obj}(h:Blk w b o):b<w.heap.size:=(Array.getElem?_eq_some_iff.1 h).1
theorem Blk.new (w:World)(o:Obj):Blk (w.alloc o) w.heap.size o:=heap_alloc_new w o
theorem Blk.ext {w w':World}{b:Nat}{o:Obj}(h:Blk w b o)(hx:Ext w w'):Blk w' b o:=(Below.block hx b (Array.getElem?_eq_some_iff.1 h).1).trans h
theorem Blk.alloc {w:World}{b:Nat}{o:Obj}(h:Blk w b o)(o':Obj):Blk (w.alloc o') b o:=h.ext ((Ext.refl w).alloc o')
theorem Blk.drew {w:World}{b:Nat}{o:Obj}(h:Blk w b o):Blk w.drew b o:=h
theorem Blk.cells {w:World}{b:Nat}{cs:Array Value}{t:TypeId}{fz:Nat × Nat}(h:Blk w b (.cells cs t fz))(i:Nat):w.cell? ⟨b,i,none⟩=cs[i]?:=cell_of_heap h i
end Go.Proofs.YtmmmiplmiooioaaGreat
namespace Kv
theorem shortN_zero (L:List Int):∀ n i,shortN L n<=i->i<n->L.getD i 0=0
 | 0,i,_,h=>absurd h (Nat.not_lt_zero i)
 | n+1,i,h1,h2=>by
   unfold shortN at h1
   split at h1
   · rename_i e
     by_cases hi:i=n
     · rw [hi];exact e
     · exact shortN_zero L n i h1 (by omega)
   · omega
theorem shortN_last (L:List Int):∀ n,shortN L n=0∨L.getD (shortN L n-1) 0≠0
 | 0=>.inl rfl
 | n+1=>by
   unfold shortN
   split
   · exact shortN_last L n
   · rename_i e;exact .inr e
theorem shortL_zero (L:List Int)(i:Nat)(h:shortN L L.length<=i):L.getD i 0=0:=by
 by_cases hi:i<L.length
 · exact shortN_zero L _ i h hi
 · simp [List.getD,List.getElem?_eq_none (show L.length<=i by omega)]
theorem shortN_eq {L L':List Int}(h:∀ i,L.getD i 0=L'.getD i 0):shortN L L.length=shortN L' L'.length:=by
 have a:=shortN_last L L.length
 have b:=shortN_last L' L'.length
 have a2:=shortL_zero L
 have b2:=shortL_zero L'
 generalize shortN L L.length=N at *
 generalize shortN L' L'.length=N' at *
 rcases Nat.lt_trichotomy N N' with e | e | e
 · rcases b with b | b
   · omega
   · exact absurd ((h _).symm.trans (a2 (N'-1) (by omega))) b
 · exact e
 · rcases a with a | a
   · omega
   · exact absurd ((h _).trans (b2 (N-1) (by omega))) a
theorem shortL_eq {L L':List Int}(h:∀ i,L.getD i 0=L'.getD i 0):shortL L=shortL L':=by
 have e:=shortN_eq h
 have l1:=shortN_le L L.length
 have l2:=shortN_le L' L'.length
 unfold shortL
 apply List.ext_getElem?
 intro i
 rw [List.getElem?_take,List.getElem?_take,e]
 split
 · rename_i hi
   have hh:=h i
   rw [List.getD_eq_getElem?_getD,List.getD_eq_getElem?_getD] at hh
   rw [List.getElem?_eq_getElem (show i<L.length by omega),List.getElem?_eq_getElem (show i<L'.length by omega)] at hh ⊢
   simpa using hh
 · rfl
end Kv
namespace Go.Proofs.YtmmmiplmiooioaaGreat
open Go.RowKit Kv
def Vals (w:World) (A:Option Addr) (vals:List Value):Prop:=vals≠[]->∃ b,A=some ⟨b,0,none⟩/\b<w.heap.size/\∀ i u,vals[i]?=some u->w.cell? ⟨b,i,none⟩=some u
theorem Vals.ext {w w':World}{A:Option Addr}{vals:List Value}(h:Vals w A vals)(hx:Ext w w'):Vals w' A vals:=by
 intro hne
 obtain⟨b,rfl,hb,hc⟩:=h hne
 exact⟨b,rfl,Nat.lt_of_lt_of_le hb hx.size,fun i u hu=>(hx.cell (p:=⟨b,i,none⟩) hb).trans (hc i u hu)⟩
theorem vals_row {w:World}{B e size n:Nat}{v:Value}{xs:List Value}(h:w.ownsRow B e size v n xs):∃ A c,v=.slice A n c/\n<=c/\c<=9223372036854775807/\Vals w A xs:=by
 have h':=h
 obtain⟨hl,h2⟩:=h
 rcases h2 with⟨rfl,h0⟩ | ⟨g,cap,cur,rfl,hg,hh,hn,hm,hs,ht⟩
 · subst h0
   refine⟨none,0,rfl,Nat.le_refl _,by omega,fun hne=>absurd ?_ hne⟩
   simpa using hl
 · refine⟨_,_,rfl,hn,by unfold maxLen at hm;exact hm,fun _=>⟨g,rfl,(Array.getElem?_eq_some_iff.1 hh).1,fun i u hi=>?_⟩⟩
   have hc:=World.ownsRow.cells h' (g:=g) rfl i u hi
   rw [Addr.add_lit,Nat.zero_add] at hc
   exact hc
theorem accVals_at:∀ (l:List Acc) (i:Nat) (a:Acc),l[i]?=some a->(accVals l)[3*i]?=some (.int .i64 a.kind)/\(accVals l)[3*i+1]?=some (.int .i64 a.cell)/\(accVals l)[3*i+2]?=some (.int .i64 a.val)
 | [],i,a,h=>by simp at h
 | x :: l,0,a,h=>by
   obtain rfl:x=a:=by simpa using h
   exact⟨rfl,rfl,rfl⟩
 | x :: l,i+1,a,h=>by
   have:=accVals_at l i a (by simpa using h)
   rw [show accVals (x :: l)=[.int .i64 x.kind,.int .i64 x.cell,.int .i64 x.val]++accVals l from rfl]
   refine⟨?_,?_,?_⟩
   · rw [List.getElem?_append_right (by simp;omega)];simpa [show 3*(i+1)-3=3*i by omega] using this.1
   · rw [List.getElem?_append_right (by simp;omega)];simpa [show 3*(i+1)+1-3=3*i+1 by omega] using this.2.1
   · rw [List.getElem?_append_right (by simp;omega)];simpa [show 3*(i+1)+2-3=3*i+2 by omega] using this.2.2
theorem ntVals_at:∀ (l:List Nt) (i:Nat) (a:Nt),l[i]?=some a->(ntVals l)[2*i]?=some (.int .i64 a.kind)/\(ntVals l)[2*i+1]?=some (.int .i64 a.pos)
 | [],i,a,h=>by simp at h
 | x :: l,0,a,h=>by
   obtain rfl:x=a:=by simpa using h
   exact⟨rfl,rfl⟩
 | x :: l,i+1,a,h=>by
   have:=ntVals_at l i a (by simpa using h)
   rw [show ntVals (x :: l)=[.int .i64 x.kind,.int .i64 x.pos]++ntVals l from rfl]
   refine⟨?_,?_⟩
   · rw [List.getElem?_append_right (by simp;omega)];simpa [show 2*(i+1)-2=2*i by omega] using this.1
   · rw [List.getElem?_append_right (by simp;omega)];simpa [show 2*(i+1)+1-2=2*i+1 by omega] using this.2
def AccAt (w:World) (A:Option Addr) (l:List Acc):Prop:=Vals w A (accVals l)
def NtAt (w:World) (A:Option Addr) (l:List Nt):Prop:=Vals w A (ntVals l)
theorem AccAt.at_ {w:World}{A:Option Addr}{l:List Acc}(h:AccAt w A l){i:Nat}{a:Acc}(hi:l[i]?=some a) :
  ∃ b,A=some ⟨b,0,none⟩/\b<w.heap.size/\w.cell? ⟨b,i*3,none⟩=some (.int .i64 a.kind)/\w.cell? ⟨b,i*3+1,none⟩=some (.int .i64 a.cell)/\w.cell? ⟨b,i*3+2,none⟩=some (.int .i64 a.val):=by
 obtain⟨h0,h1,h2⟩:=accVals_at l i a hi
 obtain⟨b,rfl,hb,hc⟩:=h (fun e=>by rw [e] at h0;simp at h0)
 rw [Nat.mul_comm i 3]
 exact⟨b,rfl,hb,hc _ _ h0,hc _ _ h1,hc _ _ h2⟩
theorem NtAt.at_ {w:World}{A:Option Addr}{l:List Nt}(h:NtAt w A l){i:Nat}{a:Nt}(hi:l[i]?=some a) :
  ∃ b,A=some ⟨b,0,none⟩/\b<w.heap.size/\w.cell? ⟨b,i*2,none⟩=some (.int .i64 a.kind)/\w.cell? ⟨b,i*2+1,none⟩=some (.int .i64 a.pos):=by
 obtain⟨h0,h1⟩:=ntVals_at l i a hi
 obtain⟨b,rfl,hb,hc⟩:=h (fun e=>by rw [e] at h0;simp at h0)
 rw [Nat.mul_comm i 2]
 exact⟨b,rfl,hb,hc _ _ h0,hc _ _ h1⟩
structure OutIs (w:World) (d:Bool) (S:TS) (A:Option Addr) (c:Nat) (A':Option Addr) (c':Nat) (vs:Value) (L:List Int):Prop where
 accs:AccAt w A S.acc
 nts:NtAt w A' S.nts
 locs:Ints w vs (shortL L)
 is:LocIs L S.loc
 len:L.length<=32768
 accc:S.acc.length<=c/\c<=9223372036854775807
 ntsc:S.nts.length<=c'/\c'<=9223372036854775807
def outV (d:Bool) (S:TS) (A:Option Addr) (c:Nat) (A':Option Addr) (c':Nat) (vs:Value):Value:=.agg #[.bool d,.slice A S.acc.length c,.slice A' S.nts.length c',vs]
theorem OutIs.ext {w w':World}{d:Bool}{S:TS}{A:Option Addr}{c:Nat}{A':Option Addr}{c':Nat}{vs:Value}{L:List Int}(h:OutIs w d S A c A' c' vs L)(hx:Ext w w'):OutIs w' d S A c A' c' vs L :=
 { h with accs:=Vals.ext h.accs hx,nts:=Vals.ext h.nts hx,locs:=h.locs.ext hx }
def Outs (w:World) (v:Value) (d:Bool) (S:TS):Prop:=∃ A c A' c' vs L,v=outV d S A c A' c' vs/\OutIs w d S A c A' c' vs L
theorem Outs.ext {w w':World}{v:Value}{d:Bool}{S:TS}(h:Outs w v d S)(hx:Ext w w'):Outs w' v d S:=by
 obtain⟨A,c,A',c',vs,L,rfl,h⟩:=h
 exact⟨A,c,A',c',vs,L,rfl,h.ext hx⟩
theorem outs_of {w:World}{B:Nat}{d:Bool}{S:TS}{vC vN vs:Value}{L:List Int}(h1:w.ownsRow B 50 3 vC S.acc.length (accVals S.acc))(h2:w.ownsRow B 145 2 vN S.nts.length (ntVals S.nts))(h3:Ints w vs (shortL L))(h4:LocIs L S.loc)(h5:L.length<=32768) :
  Outs w (.agg #[.bool d,vC,vN,vs]) d S:=by
 obtain⟨A,c,rfl,q1,q2,q3⟩:=vals_row h1
 obtain⟨A',c',rfl,r1,r2,r3⟩:=vals_row h2
 exact⟨A,c,A',c',vs,L,rfl,q3,r3,h3,h4,h5,⟨q1,q2⟩,⟨r1,r2⟩⟩
end Go.Proofs.YtmmmiplmiooioaaGreat
namespace Kv
structure Want where
 wr:Int
 top:Int
def topM (t:Int):Int:=if clamp t 255=0 then 1 else clamp t 255
def kindM (mode w:Int):Int:=if mode=2 then (if 0<=w then 6 else 7) else 1
def regOf (n mode b l:Int) (q:Want):Reg:=⟨kindM mode q.wr,b,l,n,q.wr,-1,topM q.top⟩
def cellsM (r:Reg):Int:=if r.kind=1 then 1 else if r.kind=6 then 16*(r.n-1)*(r.n-1) else 16*(r.n-1)*(r.n-1)*r.n
def localsM (r:Reg):Int:=if r.kind=1 then 0 else if r.kind=6 then 2+18*(r.n-1)*(r.n-1) else r.n*(2+18*(r.n-1)*(r.n-1))
def fineM (r:Reg):Bool:=decide (r.base<=32768)&&decide (r.loc<=32768)&&decide (r.base+cellsM r<=32768)&&decide (r.loc+localsM r<=32768)
structure Laid (n mode:Int) (q:Want) (r:Reg):Prop where
 is:∃ b c,r=regOf n mode b c q/\0<=b/\0<=c
 fine:fineM r=true
theorem Laid.ok {n mode:Int}{q:Want}{r:Reg}(h:Laid n mode q r)(hn:1<=n/\n<=8)(hw:-1<=q.wr/\q.wr<n):r.ok/\r.n=n/\r.wr=q.wr:=by
 obtain⟨⟨b,c,rfl,hb,hc⟩,hf⟩:=h
 have hf2:b<=32768/\c<=32768:=by
  unfold fineM regOf at hf
  simp only [Bool.and_eq_true,decide_eq_true_eq] at hf
  omega
 refine⟨⟨?_,⟨hb,hf2.1⟩,⟨hc,hf2.2⟩,hn,fun hk=>?_⟩,rfl,rfl⟩
 · show kindM mode q.wr=1∨kindM mode q.wr=6∨kindM mode q.wr=7
   unfold kindM
   split
   · split <;> omega
   · omega
 · show 0<=q.wr/\q.wr<n
   have hk:kindM mode q.wr=6:=hk
   unfold kindM at hk
   split at hk
   · split at hk <;> omega
   · omega
end Kv
namespace Go.Proofs.YtmmmiplmiooioaaGreat
theorem put_pack:(∀ (a:Act) (d:Nat) (v:Value),a.put (some d) v={ a with tmps:=a.tmps.setIfInBounds d v })/\(∀ (a:Act) (v:Value),a.put none v=a)/\(∀ (l:List Value) (i:Nat) (v:Value),l.toArray.setIfInBounds i v=(l.set i v).toArray) /\
  (∀ (l:List Value) (x v:Value),(x :: l).set 0 v=v :: l)/\(∀ (l:List Value) (i:Nat) (x v:Value),(x :: l).set (i+1) v=x :: l.set i v) :=
 ⟨fun _ _ _=>rfl,fun _ _=>rfl,fun _ _ _=>List.setIfInBounds_toArray ..,fun _ _ _=>rfl,fun _ _ _ _=>rfl⟩
end Go.Proofs.YtmmmiplmiooioaaGreat
namespace Go.Proofs.YtmmmiplmiooioaaGreat
open Go.RowKit Kv
structure KeepX (X:Nat->Prop) (ix:List Nat) (B p:Nat) (w w':World):Prop where
 below:Below B w w'
 rest:∀ b,b<w.heap.size->¬ ownR ix w p b->¬ X b->w'.heap[b]?=w.heap[b]?/\¬ ownR ix w' p b
section
variable {X:Nat->Prop} {ix:List Nat} {B p:Nat} {w w' w'':World}
theorem Keep.x (h:Keep ix B p w w')(X:Nat->Prop):KeepX X ix B p w w':=⟨h.below,fun b h1 h2 _=>h.rest b h1 h2⟩
theorem KeepX.trans (h:KeepX X ix B p w w')(k:KeepX X ix B p w' w''):KeepX X ix B p w w'' :=
 ⟨h.below.trans k.below,fun b hb ho hx=>by
  obtain⟨h1,h2⟩:=h.rest b hb ho hx
  obtain⟨h3,h4⟩:=k.rest b (Nat.lt_of_lt_of_le hb h.below.size) h2 hx
  exact⟨h3.trans h1,h4⟩⟩
theorem KeepX.held {b:Nat}{o:Obj}(h:Held ix w p b o)(k:KeepX X ix B p w w')(hx:¬ X b):Held ix w' p b o:=by
 obtain⟨h1,h2⟩:=k.rest b h.lt h.2 hx
 exact⟨h1.trans h.1,h2⟩
theorem KeepX.put {l:Nat}{o:Obj}(h:KeepX X ix B p w w')(hl:w.heap.size<=l)(hn:¬ ownR ix w' p l)(hB:B<=w.heap.size):KeepX X ix B p w (w'.putObj l o):=by
 have hp:(w'.putObj l o).heap[p]?=w'.heap[p]?:=World.putObj_heap_other (fun e=>hn (.inl e.symm))
 refine⟨⟨h.below.os,h.below.tape,h.below.output,by have:=h.below.size;simpa using this,fun k hk=>(World.putObj_heap_other (by omega)).trans (h.below.block k hk)⟩,fun b hb ho hx=>?_⟩
 obtain⟨h1,h2⟩:=h.rest b hb ho hx
 exact⟨(World.putObj_heap_other (by omega)).trans h1,fun h'=>h2 ((ownR_same hp b).1 h')⟩
theorem Keep.put {l:Nat}{o:Obj}(h:Keep ix B p w w')(hl:w.heap.size<=l)(hn:¬ ownR ix w' p l)(hB:B<=w.heap.size):Keep ix B p w (w'.putObj l o):=by
 have hp:(w'.putObj l o).heap[p]?=w'.heap[p]?:=World.putObj_heap_other (fun e=>hn (.inl e.symm))
 refine⟨⟨h.below.os,h.below.tape,h.below.output,by have:=h.below.size;simpa using this,fun k hk=>(World.putObj_heap_other (by omega)).trans (h.below.block k hk)⟩,fun b hb ho=>?_⟩
 obtain⟨h1,h2⟩:=h.rest b hb ho
 exact⟨(World.putObj_heap_other (by omega)).trans h1,fun h'=>h2 ((ownR_same hp b).1 h')⟩
theorem Held.put {b l:Nat}{o o':Obj}(h:Held ix w p b o)(hb:b≠l)(hn:¬ ownR ix w p l):Held ix (w.putObj l o') p b o :=
 ⟨(World.putObj_heap_other hb).trans h.1,fun h'=>h.2 ((ownR_same (World.putObj_heap_other (fun e=>hn (.inl e.symm))) b).1 h')⟩
end
theorem row_put {w:World}{B e s n l:Nat}{v:Value}{xs:List Value}{o:Obj}(h:w.ownsRow B e s v n xs)(hl:v.ownBlock≠some l):(w.putObj l o).ownsRow B e s v n xs:=by
 refine⟨h.1,?_⟩
 rcases h.2 with h2 | ⟨g,cap,cur,rfl,hb,hg,r⟩
 · exact .inl h2
 · exact .inr ⟨g,cap,cur,rfl,hb,(World.putObj_heap_other (fun e=>hl (by rw [<- e];rfl))).trans hg,r⟩
section
variable {B p:Nat} {w:World} {S:TS}
theorem PMem.put {st:Int}{vA vL vC vN:Value}{L:List Int}{l:Nat}(h:PMem B w p S st vA vL vC vN L)(o:Obj)(hn:¬ ownR [2,3,4] w p l)(hB:B<=l):PMem B (w.putObj l o) p S st vA vL vC vN L :=
 { h with
  heap:=(World.putObj_heap_other (fun e=>hn (.inl e.symm))).trans h.heap
  ans:=by
   obtain⟨A,c,rfl,h1,h2,h3⟩:=h.ans
   refine⟨A,c,rfl,h1,h2,fun hl=>?_⟩
   obtain⟨b,off,rfl,hb,hc⟩:=h3 hl
   have hbB:=h.ansB b rfl
   refine⟨b,off,rfl,by simpa using hb,fun i x hi=>?_⟩
   rw [<- hc i x hi]
   exact World.cell?_of_block (w:=w) (World.putObj_heap_other (show b≠l by omega))
  rowL:=row_put h.rowL (fun e=>hn (ownR_at h.heap (by simp) (i:=2) rfl e))
  rowC:=row_put h.rowC (fun e=>hn (ownR_at h.heap (by simp) (i:=3) rfl e))
  rowN:=row_put h.rowN (fun e=>hn (ownR_at h.heap (by simp) (i:=4) rfl e)) }
theorem Plays.put {l:Nat}(h:Plays B w p S)(o:Obj)(hn:¬ ownR [2,3,4] w p l)(hB:B<=l):Plays B (w.putObj l o) p S:=by
 obtain⟨h0,vA,vL,vC,vN,L,h⟩:=h
 exact⟨h0,vA,vL,vC,vN,L,h.put o hn hB⟩
theorem Stops.put {l:Nat}(h:Stops B w p S)(o:Obj)(hn:¬ ownR [2,3,4] w p l)(hB:B<=l):Stops B (w.putObj l o) p S:=by
 obtain⟨vA,vL,vC,vN,L,h⟩:=h
 exact⟨vA,vL,vC,vN,L,h.put o hn hB⟩
end
attribute [local go_sem] Oper.semAt_some
structure OneB (l:Nat) (w w':World):Prop where
 os:w'.os=w.os
 tape:w'.tape=w.tape
 output:w'.output=w.output
 size:w'.heap.size=w.heap.size
 block:∀ k,k≠l->w'.heap[k]?=w.heap[k]?
theorem OneB.setCell (w:World)(b i:Nat)(v:Value):OneB b w (w.setCell ⟨b,i,none⟩ v):=⟨rfl,rfl,rfl,by simp,fun k hk=>heap_setCell_ne w v hk⟩
section
variable {X:Nat->Prop} {ix:List Nat} {B p l:Nat} {w w' w'':World} {S:TS}
theorem Keep.one (h:Keep ix B p w w')(o:OneB l w' w'')(hl:w.heap.size<=l)(hn:¬ ownR ix w' p l)(hB:B<=w.heap.size):Keep ix B p w w'':=by
 have hp:w''.heap[p]?=w'.heap[p]?:=o.block p (fun e=>hn (.inl e.symm))
 refine⟨⟨o.os.trans h.below.os,o.tape.trans h.below.tape,o.output.trans h.below.output,by rw [o.size];exact h.below.size,fun k hk=>(o.block k (by omega)).trans (h.below.block k hk)⟩,fun b hb ho=>?_⟩
 obtain⟨h1,h2⟩:=h.rest b hb ho
 exact⟨(o.block b (by omega)).trans h1,fun h'=>h2 ((ownR_same hp b).1 h')⟩
theorem Held.one {b:Nat}{ob:Obj}(h:Held ix w p b ob)(o:OneB l w w')(hb:b≠l)(hn:¬ ownR ix w p l):Held ix w' p b ob :=
 ⟨(o.block b hb).trans h.1,fun h'=>h.2 ((ownR_same (o.block p (fun e=>hn (.inl e.symm))) b).1 h')⟩
theorem PMem.one {st:Int}{vA vL vC vN:Value}{L:List Int}(h:PMem B w p S st vA vL vC vN L)(o:OneB l w w')(hn:¬ ownR [2,3,4] w p l)(hB:B<=l):PMem B w' p S st vA vL vC vN L :=
 { h with
  heap:=(o.block p (fun e=>hn (.inl e.symm))).trans h.heap
  ans:=by
   obtain⟨A,c,rfl,h1,h2,h3⟩:=h.ans
   refine⟨A,c,rfl,h1,h2,fun hl=>?_⟩
   obtain⟨b,off,rfl,hb,hc⟩:=h3 hl
   have hbB:=h.ansB b rfl
   refine⟨b,off,rfl,by rw [o.size];exact hb,fun i x hi=>?_⟩
   rw [<- hc i x hi]
   exact World.cell?_of_block (w:=w) (o.block b (show b≠l by omega))
  rowL:=h.rowL.kept (row:=some l) ⟨o.os,o.tape,o.output,by rw [o.size];exact Nat.le_refl _,fun k _ hk=>o.block k (fun e=>hk (by rw [e]))⟩ (.inr (fun e=>hn (ownR_at h.heap (by simp) (i:=2) rfl e)))
  rowC:=h.rowC.kept (row:=some l) ⟨o.os,o.tape,o.output,by rw [o.size];exact Nat.le_refl _,fun k _ hk=>o.block k (fun e=>hk (by rw [e]))⟩ (.inr (fun e=>hn (ownR_at h.heap (by simp) (i:=3) rfl e)))
  rowN:=h.rowN.kept (row:=some l) ⟨o.os,o.tape,o.output,by rw [o.size];exact Nat.le_refl _,fun k _ hk=>o.block k (fun e=>hk (by rw [e]))⟩ (.inr (fun e=>hn (ownR_at h.heap (by simp) (i:=4) rfl e))) }
theorem Plays.one (h:Plays B w p S)(o:OneB l w w')(hn:¬ ownR [2,3,4] w p l)(hB:B<=l):Plays B w' p S:=by
 obtain⟨h0,vA,vL,vC,vN,L,h⟩:=h
 exact⟨h0,vA,vL,vC,vN,L,h.one o hn hB⟩
end
end Go.Proofs.YtmmmiplmiooioaaGreat
namespace Go.Proofs.YtmmmiplmiooioaaGreat
open Go.RowKit Kv
def RowX (n0 p:Nat) (w:World) (v:Value) (l:List Int):Prop:=w.ownsRow n0 3 1 v l.length (l.map (Value.int .i64))/\∀ g,v.ownBlock=some g->¬ ownR [3,4,5] w p g
section
variable {n0 B p:Nat} {w w' w1 w0:World} {o:Bool} {S:TS} {v:Value} {l:List Int}
theorem RowX.nil (n0 p:Nat)(w:World):RowX n0 p w (.slice none 0 0) []:=⟨World.ownsRow_nil _ _ _ _,fun g h=>by simp [Value.ownBlock] at h⟩
theorem RowX.keep (h:RowX n0 p w v l)(k:KeepR B p w w'):RowX n0 p w' v l:=by
 obtain⟨⟨h1,h2⟩,h3⟩:=h
 rcases h2 with h2 | ⟨g,cap,cur,rfl,hg,hh,r1,r2,r3,r4⟩
 · exact⟨⟨h1,.inl h2⟩,fun g e=>by rw [h2.1] at e;simp [Value.ownBlock] at e⟩
 · obtain⟨k1,k2⟩:=k.rest g (Array.getElem?_eq_some_iff.1 hh).1 (h3 g rfl)
   exact⟨⟨h1,.inr ⟨g,cap,cur,rfl,hg,k1.trans hh,r1,r2,r3,r4⟩⟩,fun b e=>by simp only [Value.ownBlock,Option.some.injEq] at e;subst e;exact k2⟩
end
def encP (q:Int × Int):Value:=.agg #[.int .i64 q.1,.int .i64 q.2]
@[go_sem] theorem encP_eq (q:Int × Int):encP q=.agg #[.int .i64 q.1,.int .i64 q.2]:=rfl
end Go.Proofs.YtmmmiplmiooioaaGreat
namespace Kv
open Go Go.RowKit
end Kv
namespace Go.Proofs.YtmmmiplmiooioaaGreat
open Go.RowKit Kv
def regVals (r:Reg):List Value:=[.int .i64 r.kind,.int .i64 r.base,.int .i64 r.loc,.int .i64 r.n,.int .i64 r.wr,.int .i64 r.rd,.int .i64 r.top]
structure RegsAt (ix:List Nat) (w:World) (p b:Nat) (l:List Reg):Prop where
 lt:b<w.heap.size
 own:¬ ownR ix w p b
 cells:∀ j u,(l.flatMap regVals)[j]?=some u->w.cell? ⟨b,j,none⟩=some u
theorem RegsAt.keep {ix:List Nat}{B p b:Nat}{w w':World}{l:List Reg}(h:RegsAt ix w p b l)(k:Keep ix B p w w'):RegsAt ix w' p b l:=by
 obtain⟨h1,h2⟩:=k.rest b h.lt h.own
 exact⟨Nat.lt_of_lt_of_le h.lt k.size,h2,fun j u hu=>(World.cell?_of_block (w:=w) (a:=⟨b,j,none⟩) h1).trans (h.cells j u hu)⟩
theorem RegsAt.two {ix:List Nat}{p b:Nat}{w:World}{x y:Reg}(h:RegsAt ix w p b [x,y]) :
  (w.cell? ⟨b,0,none⟩=some (.int .i64 x.kind)/\w.cell? ⟨b,1,none⟩=some (.int .i64 x.base)/\w.cell? ⟨b,2,none⟩=some (.int .i64 x.loc)/\w.cell? ⟨b,3,none⟩=some (.int .i64 x.n)/\w.cell? ⟨b,4,none⟩=some (.int .i64 x.wr)/\w.cell? ⟨b,5,none⟩=some (.int .i64 x.rd)/\w.cell? ⟨b,6,none⟩=some (.int .i64 x.top)) /\
    (w.cell? ⟨b,7,none⟩=some (.int .i64 y.kind)/\w.cell? ⟨b,8,none⟩=some (.int .i64 y.base)/\w.cell? ⟨b,9,none⟩=some (.int .i64 y.loc)/\w.cell? ⟨b,10,none⟩=some (.int .i64 y.n)/\w.cell? ⟨b,11,none⟩=some (.int .i64 y.wr)/\w.cell? ⟨b,12,none⟩=some (.int .i64 y.rd)/\w.cell? ⟨b,13,none⟩=some (.int .i64 y.top)) :=
 ⟨⟨h.cells 0 _ rfl,h.cells 1 _ rfl,h.cells 2 _ rfl,h.cells 3 _ rfl,h.cells 4 _ rfl,h.cells 5 _ rfl,h.cells 6 _ rfl⟩,⟨h.cells 7 _ rfl,h.cells 8 _ rfl,h.cells 9 _ rfl,h.cells 10 _ rfl,h.cells 11 _ rfl,h.cells 12 _ rfl,h.cells 13 _ rfl⟩⟩
theorem eqIn_acc (a b c a' b' c':Int)(w:World):(Op.equalIn 10000 50 (.agg #[.int .i64 a,.int .i64 b,.int .i64 c]) (.agg #[.int .i64 a',.int .i64 b',.int .i64 c'])).run Tryz.prog w=.ok (decide (a=a'/\b=b'/\c=c')) w:=by
 rw [run_equalIn_struct w 9999 50 _ _ (by kernel_rfl) (by kernel_rfl)]
 have hu:Tryz.prog.underlying 3=some (.int .i64):=Tryz.underlying3
 simp only [Program.fieldsOf,Tryz.underlying50,Op.eqFields]
 simp [go_sem,run_equalIn_int,hu]
 by_cases h0:a=a' <;> by_cases h1:b=b' <;> by_cases h2:c=c' <;> simp [h0,h1,h2]
@[go_sem] theorem eql_acc (a b c a' b' c':Int) (w:World):(binOp .eql 50 (.agg #[.int .i64 a,.int .i64 b,.int .i64 c]) (.agg #[.int .i64 a',.int .i64 b',.int .i64 c'])).run Tryz.prog w=.ok (.bool (decide (a=a'/\b=b'/\c=c'))) w:=by
 rw [run_eql_struct,eqIn_acc];rfl
@[go_sem] theorem neq_acc (a b c a' b' c':Int) (w:World):(binOp .neq 50 (.agg #[.int .i64 a,.int .i64 b,.int .i64 c]) (.agg #[.int .i64 a',.int .i64 b',.int .i64 c'])).run Tryz.prog w=.ok (.bool (!decide (a=a'/\b=b'/\c=c'))) w:=by
 rw [run_neq_struct,eqIn_acc];rfl
theorem eqIn_nt (a b a' b':Int)(w:World):(Op.equalIn 10000 145 (.agg #[.int .i64 a,.int .i64 b]) (.agg #[.int .i64 a',.int .i64 b'])).run Tryz.prog w=.ok (decide (a=a'/\b=b')) w:=by
 rw [run_equalIn_struct w 9999 145 _ _ (by kernel_rfl) (by kernel_rfl)]
 have hu:Tryz.prog.underlying 3=some (.int .i64):=Tryz.underlying3
 simp only [Program.fieldsOf,Tryz.underlying145,Op.eqFields]
 simp [go_sem,run_equalIn_int,hu]
 by_cases h0:a=a' <;> by_cases h1:b=b' <;> simp [h0,h1]
@[go_sem] theorem eql_nt (a b a' b':Int) (w:World):(binOp .eql 145 (.agg #[.int .i64 a,.int .i64 b]) (.agg #[.int .i64 a',.int .i64 b'])).run Tryz.prog w=.ok (.bool (decide (a=a'/\b=b'))) w:=by
 rw [run_eql_struct,eqIn_nt];rfl
@[go_sem] theorem neq_nt (a b a' b':Int) (w:World):(binOp .neq 145 (.agg #[.int .i64 a,.int .i64 b]) (.agg #[.int .i64 a',.int .i64 b'])).run Tryz.prog w=.ok (.bool (!decide (a=a'/\b=b'))) w:=by
 rw [run_neq_struct,eqIn_nt];rfl
theorem eqIn_want (a b a' b':Int)(w:World):(Op.equalIn 10000 151 (.agg #[.int .i64 a,.int .i64 b]) (.agg #[.int .i64 a',.int .i64 b'])).run Tryz.prog w=.ok (decide (a=a'/\b=b')) w:=by
 rw [run_equalIn_struct w 9999 151 _ _ (by kernel_rfl) (by kernel_rfl)]
 have hu:Tryz.prog.underlying 3=some (.int .i64):=Tryz.underlying3
 simp only [Program.fieldsOf,Tryz.underlying151,Op.eqFields]
 simp [go_sem,run_equalIn_int,hu]
 by_cases h0:a=a' <;> by_cases h1:b=b' <;> simp [h0,h1]
@[go_sem] theorem eql_want (a b a' b':Int) (w:World):(binOp .eql 151 (.agg #[.int .i64 a,.int .i64 b]) (.agg #[.int .i64 a',.int .i64 b'])).run Tryz.prog w=.ok (.bool (decide (a=a'/\b=b'))) w:=by
 rw [run_eql_struct,eqIn_want];rfl
@[go_sem] theorem neq_want (a b a' b':Int) (w:World):(binOp .neq 151 (.agg #[.int .i64 a,.int .i64 b]) (.agg #[.int .i64 a',.int .i64 b'])).run Tryz.prog w=.ok (.bool (!decide (a=a'/\b=b'))) w:=by
 rw [run_neq_struct,eqIn_want];rfl
theorem flat_at {α:Type}(f:α->List Value)(k:Nat)(hf:∀ a,(f a).length=k):∀ (l:List α) (i j:Nat) (a:α),l[i]?=some a->j<k->(l.flatMap f)[k*i+j]?=(f a)[j]?
 | [],i,j,a,h,_=>by simp at h
 | x :: l,0,j,a,h,hj=>by
   obtain rfl:x=a:=by simpa using h
   rw [List.flatMap_cons,Nat.mul_zero,Nat.zero_add,List.getElem?_append_left (by rw [hf];exact hj)]
 | x :: l,i+1,j,a,h,hj=>by
   have:=flat_at f k hf l i j a (by simpa using h) hj
   rw [List.flatMap_cons,List.getElem?_append_right (by rw [hf,Nat.mul_add];omega),hf,show k*(i+1)+j-k=k*i+j by rw [Nat.mul_add];omega]
   exact this
def Recs (w:World) (v:Value) (n:Nat) (vals:List Value):Prop:=∃ A c,v=.slice A n c/\n<=c/\c<=9223372036854775807/\Vals w A vals
theorem Recs.ext {w w':World}{v:Value}{n:Nat}{vals:List Value}(h:Recs w v n vals)(hx:Ext w w'):Recs w' v n vals:=by
 obtain⟨A,c,e,h1,h2,h3⟩:=h
 exact⟨A,c,e,h1,h2,h3.ext hx⟩
structure RegCells (w:World) (b o:Nat) (r:Reg):Prop where
 kind:w.cell? ⟨b,o,none⟩=some (.int .i64 r.kind)
 base:w.cell? ⟨b,o+1,none⟩=some (.int .i64 r.base)
 loc:w.cell? ⟨b,o+2,none⟩=some (.int .i64 r.loc)
 n:w.cell? ⟨b,o+3,none⟩=some (.int .i64 r.n)
 wr:w.cell? ⟨b,o+4,none⟩=some (.int .i64 r.wr)
 rd:w.cell? ⟨b,o+5,none⟩=some (.int .i64 r.rd)
 top:w.cell? ⟨b,o+6,none⟩=some (.int .i64 r.top)
theorem reg_cells {w:World}{b:Nat}{l:List Reg}(hc:∀ (i:Nat) u,(l.flatMap regVals)[i]?=some u->w.cell? ⟨b,i,none⟩=some u){i:Nat}{r:Reg}(hi:l[i]?=some r):RegCells w b (i*7) r:=by
 have f:=fun j hj=>flat_at regVals 7 (fun _=>rfl) l i j r hi hj
 rw [Nat.mul_comm i 7]
 exact⟨hc _ _ (f 0 (by omega)),hc _ _ (f 1 (by omega)),hc _ _ (f 2 (by omega)),hc _ _ (f 3 (by omega)),hc _ _ (f 4 (by omega)),hc _ _ (f 5 (by omega)),hc _ _ (f 6 (by omega))⟩
def lenOf:Option Value->Nat
 | some (.slice _ n _)=>n
 | _=>0
def leftW (i j:Nat) (w:World) (p:Nat):Nat:=lenOf (w.cell? ⟨p,i,none⟩)-lenOf (w.cell? ⟨p,j,none⟩)
theorem row_slice {w:World}{B e size n:Nat}{v:Value}{xs:List Value}(h:w.ownsRow B e size v n xs):∃ A c,v=.slice A n c:=by
 rcases h.2 with⟨rfl,h0⟩ | ⟨g,cap,cur,rfl,_⟩
 · exact⟨none,0,by rw [h0]⟩
 · exact⟨_,_,rfl⟩
theorem Plays.left {B p:Nat}{w:World}{S:TS}(h:Plays B w p S):leftW 1 3 w p=S.left:=by
 obtain⟨_,vA,vL,vC,vN,L,h⟩:=h
 obtain⟨A,c,rfl,_⟩:=h.ans.slice
 obtain⟨C,d,rfl⟩:=row_slice h.rowC
 unfold leftW TS.left
 rw [cell_of_heap h.heap,cell_of_heap h.heap]
 rfl
theorem Plays.len {B p:Nat}{w:World}{S:TS}(h:Plays B w p S):S.acc.length<=S.ans.length:=h.1
theorem RegsAt.four {ix:List Nat}{p b:Nat}{w:World}{x y z u:Reg}(h:RegsAt ix w p b [x,y,z,u]) :
  RegCells w b 0 x/\RegCells w b 7 y/\RegCells w b 14 z/\RegCells w b 21 u :=
 ⟨⟨h.cells 0 _ rfl,h.cells 1 _ rfl,h.cells 2 _ rfl,h.cells 3 _ rfl,h.cells 4 _ rfl,h.cells 5 _ rfl,h.cells 6 _ rfl⟩,⟨h.cells 7 _ rfl,h.cells 8 _ rfl,h.cells 9 _ rfl,h.cells 10 _ rfl,h.cells 11 _ rfl,h.cells 12 _ rfl,h.cells 13 _ rfl⟩,
  ⟨h.cells 14 _ rfl,h.cells 15 _ rfl,h.cells 16 _ rfl,h.cells 17 _ rfl,h.cells 18 _ rfl,h.cells 19 _ rfl,h.cells 20 _ rfl⟩,⟨h.cells 21 _ rfl,h.cells 22 _ rfl,h.cells 23 _ rfl,h.cells 24 _ rfl,h.cells 25 _ rfl,h.cells 26 _ rfl,h.cells 27 _ rfl⟩⟩
end Go.Proofs.YtmmmiplmiooioaaGreat
namespace Kv
theorem notes_forP {σ:Type}{T:Int->σ->Prog σ}(h:∀ a x,(T a x).Notes 0):∀ (l:List Int) (x:σ),(forP T l x).Notes 0
 | [],x=>.ret x 0
 | a :: l,x=>(h a x).bind0 fun y=>notes_forP h l y
theorem Prog.Notes.keep {α:Type}{p:Prog α}{n:Nat}(h:p.Notes 0){S S1:TS}{a:Option α}(hr:p.run S=(a,S1))(hn:S.nts.length<=n):S1.nts.length<=n:=by
 have:=h.run S
 rw [hr] at this
 simp only at this
 omega
end Kv
namespace Go.Proofs.YtmmmiplmiooioaaGreat
open Go.RowKit Kv
set_option maxRecDepth 100000 in
theorem note_p (B p:Nat)(S:TS)(n:Int)(w:World)(h:Plays B w p S)(hl:S.nts.length<maxAns) :
  Calls Tryz.prog 138 #[.pointer (some ⟨p,0,none⟩),.int .i64 n] w fun e w'=>e=.returned (.tuple #[])/\Plays B w' p (S.noted n)/\KeepP B p w w':=by
 obtain⟨h1,vA,vL,vC,vN,L,h⟩:=h
 have hc:=cell_of_heap h.heap
 have hbo:=h.ansN
 have hbn:=h.ntsN
 unfold maxAns at hbo hbn hl
 have hle:=h.lt
 have hge:=h.ge
 obtain⟨An,cn,hvN⟩:∃ A c,vN=.slice A S.nts.length c:=by
  rcases h.rowN.2 with⟨rfl,h0⟩ | ⟨g,cap,cur,rfl,_⟩
  · exact⟨none,0,by rw [h0]⟩
  · exact⟨_,_,rfl⟩
 subst hvN
 obtain⟨Ac,cc,hvC⟩:∃ A c,vC=.slice A S.acc.length c:=by
  rcases h.rowC.2 with⟨rfl,h0⟩ | ⟨g,cap,cur,rfl,_⟩
  · exact⟨none,0,by rw [h0]⟩
  · exact⟨_,_,rfl⟩
 subst hvC
 have hL:=Lib.hid h
 clear h
 obtain⟨i0,hi,hz0,hz1,hz2⟩:=info_parts info_note
 go_enter Tryz.func138,Tryz.ntmps138
 go_wp2_with fail
 go_region_law ((refine step_append_lies _ (by rfl) _ _ _ (by rfl) B 145 i0 _ 2 16 Tryz.underlying44 hi hz0 hz1 hz2 rfl (by omega) (Value.slice An S.nts.length cn) S.nts.length (ntVals S.nts) (by rfl) ((World.ownsRow.drew hL.out.rowN).alloc _) ⟨w.heap.size,0,none⟩ 1 1 [.int .i64 n,.int .i64 S.acc.length] (by rfl) (by rfl) (cells_new1 w _ _) (by simp [Value.oneCell']) (by omega) (by unfold maxLen;omega) (by omega) (by simp;omega) (w.heap.size+1) (by simp) ?_;intro gg cap w1 hown1 hgrow hat hlt;have hp1:=grown_heap hL.out.heap hL.out.cNe.2.2 (grown1 hgrow);have hq1:=cell_of_heap hp1;have hf1:=frozen_of_heap hp1))
 all_goals
  obtain⟨HM,HK⟩:=hL.out.grewN n (grown1 hgrow) (hat.imp id (by omega)) hown1 hl
  clear hown1 hgrow hat hlt hp1 hq1 hf1 hc
  generalize hv':(Value.slice (some ⟨gg,0,none⟩) (S.nts.length+1) cap)=v' at *
  generalize w1.setCell ⟨p,4,none⟩ v'=W at *
  clear hv' w1
  have HMh:Plays B W p (S.noted n):=⟨h1,_,_,_,_,_,HM⟩
  have HKh:=Lib.hid HK
  clear HM HK
  go_wp2_with fail
  first | go_end0 | refine bodyPost_ret (results_none rfl _ _ _) rfl ?_
  exact⟨rfl,HMh,HKh.out⟩
theorem noteO {B p:Nat}{S:TS}{n:Int}{w:World}(h:Plays B w p S)(hl:S.nts.length<maxAns) :
  Calls Tryz.prog 138 #[.pointer (some ⟨p,0,none⟩),.int .i64 n] w (Post encU B p w ((nt n).run S)) :=
 (note_p B p S n w h hl).mono fun _ _ ⟨h1,h2,h3⟩=>⟨h1,h2,h3⟩
end Go.Proofs.YtmmmiplmiooioaaGreat
namespace Kv
theorem forP_consB {σ β:Type}(T:Int->σ->Prog σ)(a:Int)(l:List Int)(x:σ)(k:σ->Prog β):(forP T (a :: l) x).bind k=(T a x).bind fun y=>(forP T l y).bind k:=Prog.bind_assoc _ _ _
theorem forP_nilB {σ β:Type}(T:Int->σ->Prog σ)(x:σ)(k:σ->Prog β):(forP T [] x).bind k=k x:=rfl
theorem ranks_cons (but:Int)(n:Nat)(i:Int)(h:i≠but):ranksFrom but (n+1) i=i :: ranksFrom but n (i+1):=by
 rw [ranksFrom,if_neg h]
theorem ranks_zero (but i:Int):ranksFrom but 0 i=[]:=rfl
end Kv
namespace Go.Proofs.YtmmmiplmiooioaaGreat
open Go.RowKit Kv
theorem RegsAt.nth {ix:List Nat}{p b:Nat}{w:World}{l:List Reg}(h:RegsAt ix w p b l){i:Nat}{r:Reg}(hi:l[i]?=some r):RegCells w b (i*7) r:=reg_cells h.cells hi
theorem Plays.fresh {B p b:Nat}{w w':World}{S:TS}(h:Plays B w p S)(hx:Ext w w')(hb:w.heap.size<=b):¬ ownR [2,3,4] w' p b:=by
 obtain⟨_,_,_,_,_,_,h⟩:=h
 intro ho
 have:=(h.own ((ownR_same (Below.block hx p h.lt) b).1 ho)).2
 omega
theorem tstepN {α β:Type}{B p:Nat}{w0 w:World}{S:TS}{R:Ending->World->Prop}{P:Program}{f:FuncId}{args:Array Value}{K:Ending->World->Prop}{enc:α->Value}{enc':β->Value}{T:Prog α}{g:α->Prog β}{k:Nat}(hN:T.Notes k)
  (hO:Owes R enc' B p w0 ((T.bind g).run S))(hB:KeepP B p w0 w)(h:Calls P f args w (Post enc B p w (T.run S)))(hp:∀ w',R (stopE p) w'->K (stopE p) w')
  (hk:∀ v S1 w1,S1.left<=S.left->(T.Asks->S1.left<S.left)->S1.nts.length<=S.nts.length+k->Plays B w1 p S1->KeepP B p w w1->KeepP B p w0 w1->Owes R enc' B p w0 ((g v).run S1)->K (.returned (enc v)) w1):Calls P f args w K:=by
 refine tstep hO hB h hp fun v S1 w1 hr hP hk1 hk2 hO1=>hk v S1 w1 ?_ (fun ha=>ha.left hr hP.1) ?_ hP hk1 hk2 hO1
 · have:=Prog.run_left T S
   rw [hr] at this
   exact this
 · have:=hN.run S
   rw [hr] at this
   exact this
end Go.Proofs.YtmmmiplmiooioaaGreat
namespace Kv
inductive Prog.Sets {α:Type} (lo hi:Int):Prog α->Prop
 | ret (a:α):Sets lo hi (.ret a)
 | read (c:Int) {k:Int->Prog α}:(∀ x,Sets lo hi (k x))->Sets lo hi (.read c k)
 | write (c v:Int) {k:Unit->Prog α}:Sets lo hi (k ())->Sets lo hi (.write c v k)
 | get (i:Int) {k:Int->Prog α}:(∀ x,Sets lo hi (k x))->Sets lo hi (.get i k)
 | set (i v:Int) {k:Unit->Prog α}:lo<=i->i<hi->Sets lo hi (k ())->Sets lo hi (.set i v k)
 | note (m:Int) {k:Unit->Prog α}:Sets lo hi (k ())->Sets lo hi (.note m k)
theorem Prog.Sets.bind {α β:Type}{lo hi:Int}{p:Prog α}{f:α->Prog β}(h:p.Sets lo hi)(hf:∀ a,(f a).Sets lo hi):(p.bind f).Sets lo hi:=by
 induction h with
 | ret a=>exact hf a
 | read c _ ih=>exact .read c fun x=>ih x
 | write c v _ ih=>exact .write c v ih
 | get c _ ih=>exact .get c fun x=>ih x
 | set c v h1 h2 _ ih=>exact .set c v h1 h2 ih
 | note m _ ih=>exact .note m ih
theorem Prog.Sets.mono {α:Type}{lo hi lo' hi':Int}{p:Prog α}(h:p.Sets lo hi)(h1:lo'<=lo)(h2:hi<=hi'):p.Sets lo' hi':=by
 induction h with
 | ret a=>exact .ret a
 | read c _ ih=>exact .read c fun x=>ih x
 | write c v _ ih=>exact .write c v ih
 | get c _ ih=>exact .get c fun x=>ih x
 | set c v h3 h4 _ ih=>exact .set c v (by omega) (by omega) ih
 | note m _ ih=>exact .note m ih
theorem Prog.Sets.got {α:Type}{lo hi i:Int}{p:Prog α}(h:p.Sets lo hi)(hi2:i<lo∨hi<=i):∀ S:TS,(p.run S).2.got i=S.got i:=by
 induction h with
 | ret a=>intro S;rfl
 | read c _ ih =>
   intro S
   simp only [Prog.run]
   cases S.next with
   | none=>rfl
   | some v=>exact (ih v _).trans rfl
 | write c v _ ih =>
   intro S
   simp only [Prog.run]
   cases S.next with
   | none=>rfl
   | some _=>exact (ih _).trans rfl
 | get c _ ih=>intro S;exact ih _ _
 | set j v h1 h2 _ ih =>
   intro S
   refine (ih (S.upd j v)).trans ?_
   unfold TS.got TS.upd
   split
   · rfl
   · split
     · simp only
       rw [if_neg (by omega)]
     · rfl
 | note m _ ih=>intro S;exact (ih _).trans rfl
end Kv
namespace Go.Proofs.YtmmmiplmiooioaaGreat
open Go.RowKit Kv
@[go_sem] theorem build_reg (a b c d e f g:Int) (w:World):(Instr.build 29 #[(0,.int .i64 a),(1,.int .i64 b),(2,.int .i64 c),(3,.int .i64 d),(4,.int .i64 e),(5,.int .i64 f),(6,.int .i64 g)]).run Tryz.prog w=.ok (.agg #[.int .i64 a,.int .i64 b,.int .i64 c,.int .i64 d,.int .i64 e,.int .i64 f,.int .i64 g]) w:=run_build w 29 _ _ (by kernel_rfl)
end Go.Proofs.YtmmmiplmiooioaaGreat
namespace Kv
end Kv
namespace Go.Proofs.YtmmmiplmiooioaaGreat
open Go.RowKit Kv
@[go_sem] theorem build_want (a b:Int) (w:World):(Instr.build 151 #[(0,.int .i64 a),(1,.int .i64 b)]).run Tryz.prog w=.ok (.agg #[.int .i64 a,.int .i64 b]) w:=run_build w 151 _ _ (by kernel_rfl)
@[go_sem] theorem build_regn (a:Int) (w:World):(Instr.build 29 #[(3,.int .i64 a)]).run Tryz.prog w=.ok (.agg #[.int .i64 0,.int .i64 0,.int .i64 0,.int .i64 a,.int .i64 0,.int .i64 0,.int .i64 0]) w:=run_build w 29 _ _ (by kernel_rfl)
set_option maxRecDepth 100000 in
theorem append_all {ops:Array Oper}{rest:List Oper}{o:Oper}{a:Act}{Q:Exit->Act->World->Prop}{w:World}(hgd:o.guard=none)(s x:Operand)
  (ho:o.op=.call { callee:=.builtin .append,args:=#[s,x],argTypes:=#[33,33] })
  (ad:Addr)(c:Nat)(L:List Int)(hL:Ints w (.slice (some ad) L.length c) L)(hs:a.eval s=.slice (some ⟨w.heap.size,0,none⟩) 0 0)(hx:a.eval x=.slice (some ad) L.length c)
  (hlen:L.length<1000000)
  (h:∀ v' w',IntRow w' w.heap.size v' L->Ext w w'->wpList Tryz.prog ops Q rest (a.put o.dst v') w') :
  wpList Tryz.prog ops Q (o :: rest) a (w.alloc (.cells #[] 3)):=by
 obtain⟨i0,hi,hz0,hz1,hz2⟩:=info_parts info_int
 have hown:(w.alloc (.cells #[] 3)).ownsRow w.heap.size 3 1 (.slice (some ⟨w.heap.size,0,none⟩) 0 0) 0 [] :=
  ⟨rfl,.inr ⟨w.heap.size,0,#[],rfl,Nat.le_refl _,heap_alloc_new _ _,Nat.le_refl _,Nat.zero_le _,rfl,rfl⟩⟩
 refine wpList_append_own_at _ hgd s x 33 ho w.heap.size 3 i0 (.int .i64 0) 1 8 Tryz.underlying33 hi hz0 hz1 hz2 rfl (by decide) _ 0 [] hs hown ad L.length c (L.map (Value.int .i64)) hx (by simp) ?_ (by simp [Value.oneCell']) (by unfold maxLen;omega) (by omega) (by simp) fun v' w' h1 h2 _ _=>?_
 · intro j u hu
   obtain⟨A',c',he,_,_,h3⟩:=hL.ext ((Ext.refl w).alloc (.cells #[] 3))
   rw [List.getElem?_map] at hu
   cases hj:L[j]? with
   | none=>rw [hj] at hu;cases hu
   | some y =>
     rw [hj] at hu
     obtain⟨b,off,rfl,_,hc⟩:=h3 (fun e=>by rw [e] at hj;cases hj)
     injection he with e1 e2 e3
     injection e1 with e1
     subst e1
     rw [Addr.add_lit]
     rw [hc j y hj]
     simpa using hu
 · rw [List.nil_append,Nat.zero_add] at h1
   exact h v' w' h1 (Below.grown ((Ext.refl w).alloc (.cells #[] 3)) h2 (by simp) (fun k hk=>by simp [Value.ownBlock] at hk;omega))
set_option maxRecDepth 100000 in
theorem clone_x (a:Addr)(c:Nat)(L:List Int)(w:World)(h:Ints w (.slice (some a) L.length c) L)(hl:L.length<1000000) :
  Calls Tryz.prog 46 #[.slice (some a) L.length c] w fun e w'=>∃ v',e=.returned v'/\IntRow w' w.heap.size v' L/\Ext w w':=by
 have hcmp:∀ (n:Nat) (w:World),(binOp .eql 33 (.slice (some a) n c) (.slice none 0 0)).run Tryz.prog w=.ok (.bool false) w:=fun _ _=>rfl
 go_enter Tryz.func46,Tryz.ntmps46
 go_wp2_with (at_builtin;refine append_all rfl _ _ rfl a c L h rfl rfl hl ?_)
 intro v' w' h1 h2
 go_wp2_with fail
 go_ret
 exact⟨v',rfl,h1,h2⟩
set_option maxRecDepth 100000 in
theorem clone_nil (c:Nat)(w:World):Calls Tryz.prog 46 #[.slice none 0 c] w fun e w'=>e=.returned (.slice none 0 0)/\w=w':=by
 have hcmp:∀ (n:Nat) (w:World),(binOp .eql 33 (.slice none n c) (.slice none 0 0)).run Tryz.prog w=.ok (.bool true) w:=fun _ _=>rfl
 go_enter Tryz.func46,Tryz.ntmps46
 go_wp2_with fail
 go_ret
 exact⟨rfl,rfl⟩
theorem clone_any (A:Option Addr)(c:Nat)(L:List Int)(w:World)(h:Ints w (.slice A L.length c) L)(hl:L.length<1000000) :
  Calls Tryz.prog 46 #[.slice A L.length c] w fun e w'=>∃ v',e=.returned v'/\IntRow w' w.heap.size v' L/\Ext w w':=by
 cases A with
 | some a=>exact clone_x a c L w h hl
 | none =>
   have hL:L=[]:=by
    obtain⟨A',c',he,_,_,h3⟩:=h
    by_cases e:L=[]
    · exact e
    · obtain⟨b,off,rfl,_⟩:=h3 e
      cases he
   subst hL
   refine (clone_nil c w).mono ?_
   rintro e w' ⟨rfl,rfl⟩
   exact⟨_,rfl,IntRow.nil _ _,Ext.refl _⟩
set_option maxRecDepth 100000 in
theorem tshort_p (A:Option Addr)(c:Nat)(L:List Int)(w:World)(h:Ints w (.slice A L.length c) L)(q1:L.length<=c)(_q2:c<=9223372036854775807)(_q3:L.length<1000000) :
  Calls Tryz.prog 48 #[.slice A L.length c] w fun e w'=>∃ v',e=.returned v'/\IntRow w' w.heap.size v' (shortL L)/\Ext w w':=by
 go_enter Tryz.func48,Tryz.ntmps48
 go_wp2_with fail
 go_loopw [3] (fun v wr=>∃ n:Nat,v=.int .i64 n/\n<=L.length/\Hid (shortN L n=shortN L L.length)/\w=wr) (fun v _=>(intOf v).toNat)
 case atStart=>exact⟨L.length,rfl,by omega,rfl,rfl⟩
 case round =>
  obtain⟨n,rfl,hn,hs,rfl⟩:=hrel
  have hlen:∀ m,m<=L.length->(L.take m).length=m:=fun m hm=>by rw [List.length_take];omega
  cases n with
  | zero =>
    have hf:L.take 0=shortL L:=by unfold shortL;rw [<- hs.out];rfl
    have hT:=clone_any A c (L.take 0) w (by have:=h.take 0 (by omega);rw [hlen 0 (by omega)];exact this) (by simp)
    rw [hlen 0 (by omega),hf] at hT
    clear hs h hf hlen
    go_wp2_with fail
    refine hT.mono ?_
    rintro e w1 ⟨v',rfl,h1,h2⟩
    go_wp2_with fail
    go_ret
    exact⟨v',rfl,h1,h2⟩
  | succ n =>
    obtain⟨b,off,rfl,hb,hcell⟩:=h.at_ (show n<L.length by omega)
    by_cases e:L.getD n 0=0
    · have hs2:Hid (shortN L n=shortN L L.length):=Lib.hid (by rw [<- hs.out];show _=(if L.getD n 0=0 then shortN L n else n+1);rw [if_pos e])
      rw [e] at hcell
      clear hs e h hlen
      go_wp2_with fail
      exact⟨⟨n,rfl,by omega,hs2,by trivial⟩,by simp [intOf]⟩
    · have e3:=Lib.hid (show shortN L L.length=n+1 from by rw [<- hs.out];show (if L.getD n 0=0 then shortN L n else n+1)=_;rw [if_neg e])
      have hf:L.take (n+1)=shortL L:=by unfold shortL;rw [e3.out]
      have hT:=clone_any (some ⟨b,off,none⟩) c (L.take (n+1)) w (by have:=h.take (n+1) (by omega);rw [hlen (n+1) (by omega)];exact this) (by rw [hlen (n+1) (by omega)];omega)
      rw [hlen (n+1) (by omega),hf] at hT
      have e2:(L.getD n 0==0)=false:=by rw [beq_eq_false_iff_ne];exact e
      generalize L.getD n 0=E at *
      clear hs e h hf hlen
      go_wp2_with fail
      refine hT.mono ?_
      rintro e w1 ⟨v',rfl,h1,h2⟩
      go_wp2_with fail
      go_ret
      exact⟨v',rfl,h1,h2⟩
structure Near (W:World) (b n:Nat) (t:TypeId) (w:World):Prop where
 os:w.os=W.os
 tape:w.tape=W.tape
 output:w.output=W.output
 size:W.heap.size<=w.heap.size
 rest:∀ k,k<W.heap.size->k≠b->w.heap[k]?=W.heap[k]?
 blk:∃ cs,w.heap[b]?=some (.cells cs t (0,0))/\cs.size=n
section
variable {W w w':World} {b n:Nat} {t:TypeId}
theorem Near.new {cs:Array Value}(h:W.heap[b]?=some (.cells cs t (0,0)))(hn:cs.size=n):Near W b n t W:=⟨rfl,rfl,rfl,Nat.le_refl _,fun _ _ _=>rfl,cs,h,hn⟩
theorem Near.ext (h:Near W b n t w)(hx:Ext w w'):Near W b n t w':=by
 obtain⟨cs,h1,h2⟩:=h.blk
 exact⟨hx.os.trans h.os,hx.tape.trans h.tape,hx.output.trans h.output,Nat.le_trans h.size hx.size,fun k hk hb=>(Below.block hx k (Nat.lt_of_lt_of_le hk h.size)).trans (h.rest k hk hb),cs,(Below.block hx b (Array.getElem?_eq_some_iff.1 h1).1).trans h1,h2⟩
theorem Near.drew (h:Near W b n t w):Near W b n t w.drew:=h.ext (Ext.refl w).drew
theorem Near.set (h:Near W b n t w)(i:Nat)(u:Value):Near W b n t (w.setCell ⟨b,i,none⟩ u):=by
 obtain⟨cs,h1,h2⟩:=h.blk
 refine⟨h.os,h.tape,h.output,by have:=h.size;simpa using this,fun k hk hb=>(heap_setCell_ne _ _ hb).trans (h.rest k hk hb),_,heap_setCell h1 u,by simpa using h2⟩
theorem Near.cell (h:Near W b n t w){k i:Nat}(hk:k<W.heap.size)(hb:k≠b):w.cell? ⟨k,i,none⟩=W.cell? ⟨k,i,none⟩:=World.cell?_of_block (w:=W) (a:=⟨k,i,none⟩) (h.rest k hk hb)
theorem Near.frozen (h:Near W b n t w)(i:Nat):w.frozen? ⟨b,i,none⟩=false:=by
 obtain⟨cs,h1,h2⟩:=h.blk
 exact frozen_of_heap h1 i
theorem Near.below {B:Nat}{w0:World}(h:Near W b n t w)(h0:Below B w0 W)(hb:B<=b)(hB:B<=W.heap.size):Below B w0 w :=
 h0.trans ⟨h.os,h.tape,h.output,h.size,fun k hk=>h.rest k (by omega) (by omega)⟩
def cellD (w:World) (b i:Nat):Value:=(w.cell? ⟨b,i,none⟩).getD undef
theorem Near.four (h:Near W b 4 t w):∀ i,w.cell? ⟨b,i,none⟩=(#[cellD w b 0,cellD w b 1,cellD w b 2,cellD w b 3]:Array Value)[i]?:=by
 obtain⟨cs,h1,h2⟩:=h.blk
 intro i
 have e:=cell_of_heap h1
 unfold cellD
 rw [e,e,e,e,e]
 match i with
 | 0=>simp [h2]
 | 1=>simp [h2]
 | 2=>simp [h2]
 | 3=>simp [h2]
 | i+4=>simp [h2]
theorem Near.five (h:Near W b 5 t w):∀ i,w.cell? ⟨b,i,none⟩=(#[cellD w b 0,cellD w b 1,cellD w b 2,cellD w b 3,cellD w b 4]:Array Value)[i]?:=by
 obtain⟨cs,h1,h2⟩:=h.blk
 intro i
 have e:=cell_of_heap h1
 unfold cellD
 rw [e,e,e,e,e,e]
 match i with
 | 0=>simp [h2]
 | 1=>simp [h2]
 | 2=>simp [h2]
 | 3=>simp [h2]
 | 4=>simp [h2]
 | i+5=>simp [h2]
end
def locOf (L:List Int) (i:Nat):Int:=L.getD i 0
def TS0 (L ans:List Int):TS:=⟨ans,[],[],locOf L⟩
@[go_sem] theorem build_out (x:Bool) (A1 A2 A3:Option Addr) (n1 n2 n3 c1 c2 c3:Nat) (w:World):(Instr.build 46 #[(0,.bool x),(1,.slice A1 n1 c1),(2,.slice A2 n2 c2),(3,.slice A3 n3 c3)]).run Tryz.prog w=.ok (.agg #[.bool x,.slice A1 n1 c1,.slice A2 n2 c2,.slice A3 n3 c3]) w:=run_build w 46 _ _ (by kernel_rfl)
@[go_sem] theorem as_stop (v:Value) (w:World):(Instr.typeAssert (.iface 90 v) 20 90 true).run Tryz.prog w=.ok (.tuple #[v,.bool true]) w:=by kernel_rfl
@[go_sem] theorem ne_mem (a:Addr) (w:World):(binOp .neq 36 (.pointer (some a)) (.pointer (some a))).run Tryz.prog w=.ok (.bool false) w:=by
 have hs:(Tryz.prog.info? 87).isSome=true:=by kernel_rfl
 obtain⟨j,hj⟩:=Option.isSome_iff_exists.1 hs
 have h:∀ d:Nat,(Op.equalIn (d+1) 36 (.pointer (some a)) (.pointer (some a))).run Tryz.prog w=.ok true w:=fun d=>by
  simp [Op.equalIn,run_underlying Tryz.underlying36,sizeOf,typeInfo,hj,run_sameAddr_same]
 simp only [binOp]
 simp [Op.equal,Op.maxDepth,h 9999]
section
variable {B p b bo:Nat} {w w' W:World} {S:TS} {st:Int} {vA vL vC vN vs:Value} {L:List Int}
theorem PMem.setO (h:PMem B w p S st vA vL vC vN L)(hn:¬ ownR [2,3,4] w p b)(hb:B<=b)(i:Nat)(u:Value):PMem B (w.setCell ⟨b,i,none⟩ u) p S st vA vL vC vN L:=by
 have hp:p≠b:=fun e=>hn (.inl e.symm)
 refine { h with heap:=(heap_setCell_ne _ _ hp).trans h.heap,ans:=ints_set h.ans _ _ ?_,rowL:=row_set h.rowL ?_,rowC:=row_set h.rowC ?_,rowN:=row_set h.rowN ?_ }
 · intro k hk e
   have:=h.ansB k hk
   simp only at e
   omega
 · exact fun e=>hn (ownR_at (i:=2) h.heap (by simp) rfl e)
 · exact fun e=>hn (ownR_at (i:=3) h.heap (by simp) rfl e)
 · exact fun e=>hn (ownR_at (i:=4) h.heap (by simp) rfl e)
theorem Held.setO {ix:List Nat}{k:Nat}{o:Obj}(h:Held ix w p k o)(hk:k≠b)(hn:¬ ownR ix w p b)(i:Nat)(u:Value):Held ix (w.setCell ⟨b,i,none⟩ u) p k o :=
 ⟨(heap_setCell_ne _ _ hk).trans h.1,fun h'=>h.2 ((ownR_same (heap_setCell_ne _ _ (fun e=>hn (.inl e.symm))) k).1 h')⟩
theorem end_out {d x0:Bool}{x1 x2 x3:Value}(HM:PMem B W p S st vA vL vC vN L)(ho:W.heap[bo]?=some (.cells #[.bool x0,x1,x2,x3] 46 (0,0)))(h2:Ext W w')(h1:IntRow w' W.heap.size vs (shortL L)) :
  ((((w'.setCell ⟨bo,0,none⟩ (.bool d)).setCell ⟨bo,1,none⟩ vC).setCell ⟨bo,2,none⟩ vN).setCell ⟨bo,3,none⟩ vs).heap[bo]?=some (.cells #[.bool d,vC,vN,vs] 46 (0,0)) /\
    Outs ((((w'.setCell ⟨bo,0,none⟩ (.bool d)).setCell ⟨bo,1,none⟩ vC).setCell ⟨bo,2,none⟩ vN).setCell ⟨bo,3,none⟩ vs) (.agg #[.bool d,vC,vN,vs]) d S:=by
 have hlt:=(Array.getElem?_eq_some_iff.1 ho).1
 have e0:=(Below.block h2 bo hlt).trans ho
 have rC:=row_ext HM.rowC h2
 have rN:=row_ext HM.rowN h2
 have nC:=row_not rC e0 (by decide)
 have nN:=row_not rN e0 (by decide)
 have hv:∀ k,vs.ownBlock=some k->k≠bo:=fun k hk=>by have:=(h1.lt k hk).1;omega
 have e4:=heap_setCell (i:=3) (heap_setCell (i:=2) (heap_setCell (i:=1) (heap_setCell (i:=0) e0 (.bool d)) vC) vN) vs
 refine⟨e4,outs_of (L:=L) (row_set (row_set (row_set (row_set rC nC) nC) nC) nC) (row_set (row_set (row_set (row_set rN nN) nN) nN) nN) (ints_set (ints_set (ints_set (ints_set h1.ints _ _ hv) _ _ hv) _ _ hv) _ _ hv) HM.loc HM.locN⟩
end
end Go.Proofs.YtmmmiplmiooioaaGreat
