/-
  SnaplinMadeSaid: part 0 of its proof.
-/
import Derived.Lib.ItoaNum
import Derived.Lib.BitFns
import Derived.Test.YtiahgcaenneonaaDoorProg
import Derived.WalkKit
import Derived.WalkLawsBesides
import Derived.WalkSpells
import Derived.Lib.MinMax
import Derived.Lib.Hide
import Derived.Deep.QuietTactic
import Derived.BigQuiet
import Derived.RegionTactic
import Derived.Deep.RegionWith
import Derived.Deep.LoopGhost
import Derived.ShutString
import Derived.WalkSmall
import Derived.Lib.AppendIntMem
import Derived.OrdersHeld
import Derived.Maps.AppendAt
import Derived.Lib.TrailingZeros
import Derived.Laws.BitsLemmas
import Derived.Deep.DeepCutAuto
import Derived.Deep.CutBlock
import Derived.Deep.RegionHeld2
import Derived.Deep.RegionLaw
import Derived.Lib.LaidTab
import Derived.RangeFuncNested
import Derived.RangeFuncBound
import Derived.RangeFuncCalls
import Derived.RangeFuncLeaves
import Derived.Shelf.Abstract
import Derived.OwnWalkIn
import Derived.TacticsInMore
import Derived.LoopNIn
import Derived.LoopIn
import Derived.OrdersIn
import Derived.RangeFuncWrites
namespace Kv
def within (n lo hi:Int):Int:=if n<lo then lo else if hi<n then hi else n
def room (top:Int):Int:=within top 0 1048576
def digits (n:Int):List UInt8:=Go.Lib.itoa n
end Kv
namespace Go.Proofs.YtiahgcaenneonaaDoor
open Go.RowKit Kv
@[go_sem high] theorem run_min_ints3 {P:Program} (w:World) (ts:Array TypeId) (t:TypeId) (k k' k'':IntKind) (x y z:Int) :
  (Builtin.min_ ts t #[.int k x,.int k' y,.int k'' z]).run P w=.ok (.int k (min (min x y) z)) w:=by
 have e:∀ a b:Int,(if b<a then b else a)=min a b:=by intro a b;rw [Int.min_def];split <;> split <;> omega
 simp [Builtin.min_,Builtin.min2,e]
theorem ret_int {k:IntKind}{a b:Int}(h:a=b):Ending.returned (.int k a)=.returned (.int k b):=by rw [h]
theorem ret_bool {a b:Bool}(h:a=b):Ending.returned (.bool a)=.returned (.bool b):=by rw [h]
def Drew (w w':World):Prop:=∃ n,w'=w.drewN n
theorem Drew.rfl' (w:World):Drew w w:=⟨0,rfl⟩
theorem Drew.mk' (w:World)(n:Nat):Drew w (w.drewN n):=⟨n,rfl⟩
theorem Drew.trans {a b c:World}(h:Drew a b)(k:Drew b c):Drew a c:=by
 obtain⟨n,rfl⟩:=h
 obtain⟨m,rfl⟩:=k
 exact⟨n+m,by simp⟩
theorem Drew.below {w w':World}(B:Nat)(h:Drew w w'):Below B w w':=by
 obtain⟨n,rfl⟩:=h
 exact⟨rfl,rfl,rfl,Nat.le_refl _,fun _ _=>rfl⟩
def Ext (w w':World):Prop:=Below w.heap.size w w'
theorem Ext.refl (w:World):Ext w w:=Below.refl _ _
theorem Ext.size {w w':World}(h:Ext w w'):w.heap.size<=w'.heap.size:=Below.size h
theorem Ext.trans {a b c:World}(h:Ext a b)(k:Ext b c):Ext a c:=Below.trans h (Below.mono k (Ext.size h))
theorem Ext.drewN {a b:World}(h:Ext a b)(n:Nat):Ext a (b.drewN n):=Below.trans h ⟨rfl,rfl,rfl,Nat.le_refl _,fun _ _=>rfl⟩
theorem Ext.drew {a b:World}(h:Ext a b):Ext a b.drew:=Below.drew h
theorem Ext.alloc {a b:World}(h:Ext a b)(o:Obj):Ext a (b.alloc o):=Below.alloc h (Ext.size h) o
theorem Ext.setCell {a b:World}(h:Ext a b){p:Addr}(hp:a.heap.size<=p.block)(u:Value):Ext a (b.setCell p u):=Below.setCell h hp u
theorem Drew.ext {w w':World}(h:Drew w w'):Ext w w':=Drew.below _ h
theorem Ext.cell {w w':World}(h:Ext w w'){p:Addr}(hp:p.block<w.heap.size):w'.cell? p=w.cell? p:=Below.cell h hp
end Go.Proofs.YtiahgcaenneonaaDoor
namespace Go.Proofs.YtiahgcaenneonaaDoor
open Go.RowKit
theorem tk {P:Program}{ops:Array Oper}{Q:Exit->Act->World->Prop}{md:Region.Mode}{S:World->Prop}(i:Nat){oi:Oper}{v:Value}{fuel:Nat}{listed:Array Bool}{a:Act}{w:World}(hi:ops[i]?=some oi)
  (hc:(Region.noSelect ops&&Region.free md ops listed i&&(Region.ready md ops listed).contains i&&Region.wanted oi (yielded ops a.tmps))=true)
  (hQ:∀ c a w,Q (.panic c) (a.put oi.dst v) w->Q (.panic c) a w)(hS:S w)(hy:∀ w,S w->(execOp a.eval oi).run P w=.ok (.value v) w)
  (h:wpAnyH P md ops Q S fuel (listed.setIfInBounds i true) (a.put oi.dst v) w):wpAnyH P md ops Q S (fuel+1) listed a w:=by
 simp only [Bool.and_eq_true] at hc
 exact wpAnyH_take hi hc.1.1.1 hc.1.1.2 hc.1.2 hQ (Or.inl ⟨hc.2,hy⟩) hS h
def AnyN (_:Nat) (p:Prop):Prop:=p
theorem tkb {p:Prop}(i:Nat)(h:AnyN i p):p:=h
theorem tke {p:Prop}{i:Nat}(h:p):AnyN i p:=h
theorem tkn {P:Program}{ops:Array Oper}{Q:Exit->Act->World->Prop}{md:Region.Mode}{S:World->Prop}{i:Nat}{oi:Oper}{v:Value}{fuel:Nat}{listed:Array Bool}{a:Act}{w:World}(hi:ops[i]?=some oi)
  (hc:(Region.noSelect ops&&Region.free md ops listed i&&(Region.ready md ops listed).contains i&&Region.wanted oi (yielded ops a.tmps))=true)
  (hQ:∀ c a w,Q (.panic c) (a.put oi.dst v) w->Q (.panic c) a w)(hS:S w)(hy:∀ w,S w->(execOp a.eval oi).run P w=.ok (.value v) w)
  (h:AnyN (i+1) (wpAnyH P md ops Q S fuel (listed.setIfInBounds i true) (a.put oi.dst v) w)):AnyN i (wpAnyH P md ops Q S (fuel+1) listed a w):=tk i hi hc hQ hS hy h
theorem sk {P:Program}{ops:Array Oper}{Q:Exit->Act->World->Prop}{md:Region.Mode}{S:World->Prop}(i:Nat){oi:Oper}{fuel:Nat}{listed:Array Bool}{a:Act}{w:World}(hi:ops[i]?=some oi)
  (hc:(Region.noSelect ops&&Region.free md ops listed i&&(Region.ready md ops listed).contains i&&!Region.wanted oi (yielded ops a.tmps))=true)
  (hQ:∀ c a w,Q (.panic c) (a.put oi.dst undef) w->Q (.panic c) a w)(hS:S w)
  (h:wpAnyH P md ops Q S fuel (listed.setIfInBounds i true) (a.put oi.dst undef) w):wpAnyH P md ops Q S (fuel+1) listed a w:=by
 simp only [Bool.and_eq_true,Bool.not_eq_true'] at hc
 exact wpAnyH_take hi hc.1.1.1 hc.1.1.2 hc.1.2 hQ (Or.inr ⟨hc.2,rfl⟩) hS h
end Go.Proofs.YtiahgcaenneonaaDoor
namespace Go.Proofs.YtiahgcaenneonaaDoor
open Go.RowKit Kv
def Ints (w:World) (v:Value) (l:List Int):Prop :=
 ∃ A c,v=.slice A l.length c/\l.length<=c/\c<=9223372036854775807/\(l≠[]->∃ b off,A=some ⟨b,off,none⟩/\b<w.heap.size/\∀ i x,l[i]?=some x->w.cell? ⟨b,off+i,none⟩=some (.int .i64 x))
theorem Ints.ext {w w':World}{v:Value}{l:List Int}(h:Ints w v l)(hx:Ext w w'):Ints w' v l:=by
 obtain⟨A,c,rfl,h1,h2,h3⟩:=h
 refine⟨A,c,rfl,h1,h2,fun hl=>?_⟩
 obtain⟨b,off,rfl,hb,hc⟩:=h3 hl
 exact⟨b,off,rfl,Nat.lt_of_lt_of_le hb (Ext.size hx),fun i x hi=>(Ext.cell hx (p:=⟨b,off+i,none⟩) hb).trans (hc i x hi)⟩
theorem Ints.nil (w:World):Ints w (.slice none 0 0) []:=⟨none,0,rfl,by simp,by omega,fun h=>absurd rfl h⟩
theorem Ints.at_ {w:World}{A:Option Addr}{n c:Nat}{l:List Int}(h:Ints w (.slice A n c) l){i:Nat}(hi:i<n) :
  ∃ b off,A=some ⟨b,off,none⟩/\b<w.heap.size/\w.cell? ⟨b,off+i,none⟩=some (.int .i64 (l.getD i 0)):=by
 obtain⟨A',c',he,h1,h2,h3⟩:=h
 injection he with e1 e2 e3
 subst e1 e2 e3
 have hl:l≠[]:=by rintro rfl;simp at hi
 obtain⟨b,off,rfl,hb,hc⟩:=h3 hl
 refine⟨b,off,rfl,hb,?_⟩
 have:l[i]?=some (l.getD i 0):=by simp [List.getD,List.getElem?_eq_getElem hi]
 exact hc i _ this
theorem Ints.slice {w:World}{v:Value}{l:List Int}(h:Ints w v l):∃ A c,v=.slice A l.length c/\l.length<=c/\c<=9223372036854775807:=by
 obtain⟨A,c,rfl,h1,h2,_⟩:=h
 exact⟨A,c,rfl,h1,h2⟩
def IntRow (w:World) (base:Nat) (v:Value) (l:List Int):Prop:=w.ownsRow base 3 1 v l.length (l.map (Value.int .i64))
theorem IntRow.nil (w:World)(base:Nat):IntRow w base (.slice none 0 0) []:=World.ownsRow_nil _ _ _ _
theorem IntRow.ints {w:World}{base:Nat}{v:Value}{l:List Int}(h:IntRow w base v l):Ints w v l:=by
 have h':=h
 obtain⟨hl,h2⟩:=h
 rcases h2 with⟨rfl,h0⟩ | ⟨g,cap,cur,rfl,hg,hh,hn,hm,hs,ht⟩
 · obtain rfl:l=[]:=List.eq_nil_of_length_eq_zero h0
   exact Ints.nil w
 · refine⟨_,_,rfl,hn,by unfold maxLen at hm;exact hm,fun _=>⟨g,0,rfl,?_,fun i x hi=>?_⟩⟩
   · rcases Nat.lt_or_ge g w.heap.size with hlt | hge
     · exact hlt
     · rw [Array.getElem?_eq_none hge] at hh;cases hh
   · have hc:=World.ownsRow.cells h' (g:=g) rfl i (.int .i64 x) (by rw [List.getElem?_map,hi];rfl)
     rw [Addr.add_lit] at hc
     exact hc
theorem info_int:(Tryd.prog.info? 3).map (fun i=>(i.zero,i.size,i.bytes))=some (some (.int .i64 0),1,8):=by kernel_rfl
theorem append_int {ops:Array Oper}{rest:List Oper}{o:Oper}{a:Act}{Q:Exit->Act->World->Prop}{w:World}(hgd:o.guard=none)(s x:Operand)
  (ho:o.op=.call { callee:=.builtin .append,args:=#[s,x],argTypes:=#[25,25] })
  (base:Nat)(v:Value)(l:List Int)(y:Int)(hown:IntRow w base v l)(hs:a.eval s=v)(hx:a.eval x=.slice (some ⟨w.heap.size,0,none⟩) 1 1)
  (hlen:l.length<1000000000000)(hbase:base<=w.heap.size)
  (h:∀ v' w',IntRow w' base v' (l++[y])->(w.alloc (.cells #[.int .i64 y] 3)).grownBy w' v.ownBlock->wpList Tryd.prog ops Q rest (a.put o.dst v') w') :
  wpList Tryd.prog ops Q (o :: rest) a (w.alloc (.cells #[.int .i64 y] 3)):=by
 obtain⟨i0,hi,hz0,hz1,hz2⟩:=info_parts info_int
 refine wpList_append_own _ hgd s x 25 ho base 3 i0 (.int .i64 0) 1 8 Tryd.underlying25 hi hz0 hz1 hz2 rfl (by decide) v l.length _ hs (World.ownsRow.alloc hown _) ⟨w.heap.size,0,none⟩ 1 1 [.int .i64 y] hx rfl (cell_one_new _ _ _) (by simp [Value.oneCell']) (by unfold maxLen;omega) (by omega) (by simp;omega) fun v' w' h1 h2 _=>?_
 refine h v' w' ?_ h2
 unfold IntRow
 rw [List.length_append,List.map_append]
 exact h1
theorem Ext.appended {w wr w':World}{v:Value}{l:List Int}{o:Obj}(h:Ext w wr)(hown:IntRow wr w.heap.size v l)(hg:(wr.alloc o).grownBy w' v.ownBlock):Ext w w':=by
 refine Below.grown (Below.alloc h h.size o) hg (by have:=h.size;simp;omega) fun k hk=>?_
 obtain⟨_,h2⟩:=hown
 rcases h2 with⟨rfl,_⟩ | ⟨g,cap,cur,rfl,hgb,_⟩
 · simp [Value.ownBlock] at hk
 · simp [Value.ownBlock] at hk
   omega
theorem cell_of_heap {w:World}{b:Nat}{cs:Array Value}{t:TypeId}{fz:Nat × Nat}(h:w.heap[b]?=some (.cells cs t fz))(i:Nat):w.cell? ⟨b,i,none⟩=cs[i]?:=by
 simp [World.cell?,h]
theorem heap_setCell {w:World}{b i:Nat}{cs:Array Value}{t:TypeId}{fz:Nat × Nat}(h:w.heap[b]?=some (.cells cs t fz))(v:Value) :
  (w.setCell ⟨b,i,none⟩ v).heap[b]?=some (.cells (cs.setIfInBounds i v) t fz):=by
 simp [World.setCell,Array.getElem?_modify,h]
theorem heap_setCell_ne (w:World){b i k:Nat}(v:Value)(h:k≠b):(w.setCell ⟨b,i,none⟩ v).heap[k]?=w.heap[k]?:=Below.heap_setCell _ _ _ _ h
theorem frozen_of_heap {w:World}{b:Nat}{cs:Array Value}{t:TypeId}(h:w.heap[b]?=some (.cells cs t (0,0)))(i:Nat):w.frozen? ⟨b,i,none⟩=false:=by
 simp [World.frozen?,h]
def Blk (w:World) (b:Nat) (o:Obj):Prop:=w.heap[b]?=some o
theorem Blk.lt {w:World}{b:Nat}{o:Obj}(h:Blk w b o):b<w.heap.size:=(Array.getElem?_eq_some_iff.1 h).1
theorem Blk.new (w:World)(o:Obj):Blk (w.alloc o) w.heap.size o:=heap_alloc_new w o
theorem Blk.ext {w w':World}{b:Nat}{o:Obj}(h:Blk w b o)(hx:Ext w w'):Blk w' b o:=(Below.block hx b (Array.getElem?_eq_some_iff.1 h).1).trans h
theorem Blk.alloc {w:World}{b:Nat}{o:Obj}(h:Blk w b o)(o':Obj):Blk (w.alloc o') b o:=h.ext ((Ext.refl w).alloc o')
theorem Blk.drew {w:World}{b:Nat}{o:Obj}(h:Blk w b o):Blk w.drew b o:=h
theorem Blk.cells {w:World}{b:Nat}{cs:Array Value}{t:TypeId}{fz:Nat × Nat}(h:Blk w b (.cells cs t fz))(i:Nat):w.cell? ⟨b,i,none⟩=cs[i]?:=cell_of_heap h i
theorem row_ext {w w':World}{base e size n:Nat}{v:Value}{xs:List Value}(h:w.ownsRow base e size v n xs)(hx:Ext w w'):w'.ownsRow base e size v n xs :=
 h.kept (row:=none) ⟨hx.os,hx.tape,hx.output,hx.size,fun k hk _=>hx.block k hk⟩ (by cases v.ownBlock <;> simp)
def rowOf (l:List Int):List Value:=l.map (Value.int .i64)
theorem own_ge {B k:Nat}{w:World}{v:Value}{xs:List Value}(h:w.ownsRow B 3 1 v k xs){b:Nat}(hb:v.ownBlock=some b):B<=b/\b<w.heap.size:=by
 rcases h.2 with⟨rfl,_⟩ | ⟨g,cap,cur,rfl,h1,h2,_⟩
 · simp [Value.ownBlock] at hb
 · simp only [Value.ownBlock,Option.some.injEq] at hb
   subst hb
   exact⟨h1,(Array.getElem?_eq_some_iff.1 h2).1⟩
def Vals (w:World) (A:Option Addr) (vals:List Value):Prop:=vals≠[]->∃ b,A=some ⟨b,0,none⟩/\b<w.heap.size/\∀ i u,vals[i]?=some u->w.cell? ⟨b,i,none⟩=some u
theorem Vals.ext {w w':World}{A:Option Addr}{vals:List Value}(h:Vals w A vals)(hx:Ext w w'):Vals w' A vals:=by
 intro hne
 obtain⟨b,rfl,hb,hc⟩:=h hne
 exact⟨b,rfl,Nat.lt_of_lt_of_le hb hx.size,fun i u hu=>(hx.cell (p:=⟨b,i,none⟩) hb).trans (hc i u hu)⟩
theorem vals_row {w:World}{B e size n:Nat}{v:Value}{xs:List Value}(h:w.ownsRow B e size v n xs):∃ A c,v=.slice A n c/\n<=c/\c<=9223372036854775807/\Vals w A xs:=by
 have h':=h
 obtain⟨hl,h2⟩:=h
 rcases h2 with⟨rfl,h0⟩ | ⟨g,cap,cur,rfl,hg,hh,hn,hm,hs,ht⟩
 · subst h0
   refine⟨none,0,rfl,Nat.le_refl _,by omega,fun hne=>absurd ?_ hne⟩
   simpa using hl
 · refine⟨_,_,rfl,hn,by unfold maxLen at hm;exact hm,fun _=>⟨g,rfl,(Array.getElem?_eq_some_iff.1 hh).1,fun i u hi=>?_⟩⟩
   have hc:=World.ownsRow.cells h' (g:=g) rfl i u hi
   rw [Addr.add_lit,Nat.zero_add] at hc
   exact hc
theorem flat_at {α:Type}(f:α->List Value)(k:Nat)(hf:∀ a,(f a).length=k):∀ (l:List α) (i j:Nat) (a:α),l[i]?=some a->j<k->(l.flatMap f)[k*i+j]?=(f a)[j]?
 | [],i,j,a,h,_=>by simp at h
 | x :: l,0,j,a,h,hj=>by
   obtain rfl:x=a:=by simpa using h
   rw [List.flatMap_cons,Nat.mul_zero,Nat.zero_add,List.getElem?_append_left (by rw [hf];exact hj)]
 | x :: l,i+1,j,a,h,hj=>by
   have:=flat_at f k hf l i j a (by simpa using h) hj
   rw [List.flatMap_cons,List.getElem?_append_right (by rw [hf,Nat.mul_add];omega),hf,show k*(i+1)+j-k=k*i+j by rw [Nat.mul_add];omega]
   exact this
structure HRows (B:Nat) (bs:List Nat) (w:World) (hv:Int->Value) (hd:Int->List Int):Prop where
 ge:B<=w.heap.size
 row:∀ y,w.ownsRow B 3 1 (hv y) (hd y).length (rowOf (hd y))
 off:∀ y b,(hv y).ownBlock=some b->b ∉ bs
 apart:∀ x y b,x≠y->(hv x).ownBlock=some b->(hv y).ownBlock≠some b
section
variable {B:Nat} {bs:List Nat} {w W:World} {hv:Int->Value} {hd:Int->List Int}
theorem HRows.ints (h:HRows B bs w hv hd)(y:Int):∃ A c,hv y=.slice A (hd y).length c/\Ints w (.slice A (hd y).length c) (hd y)/\w.ownsRow B 3 1 (.slice A (hd y).length c) (hd y).length (rowOf (hd y)):=by
 have h2:=h.row y
 have h3:=IntRow.ints (show IntRow w B (hv y) (hd y) from h2)
 obtain⟨A,c,e,_⟩:=h3.slice
 rw [e] at h3 h2
 exact⟨A,c,e,h3,h2⟩
theorem HRows.kept (h:HRows B bs w hv hd){row:Option Nat}(hg:w.grownBy W row)(hr:∀ b,row=some b->b∈bs):HRows B bs W hv hd :=
 { h with
  ge:=Nat.le_trans h.ge hg.size
  row:=fun y=>(h.row y).kept hg (by
   cases e:(hv y).ownBlock with
   | none=>exact .inl rfl
   | some b=>exact .inr fun e2=>h.off y b e (hr b e2.symm)) }
theorem HRows.ext (h:HRows B bs w hv hd)(hx:Ext w W):HRows B bs W hv hd :=
 { h with
  ge:=Nat.le_trans h.ge hx.size
  row:=fun y=>row_ext (h.row y) hx }
theorem HRows.more (h:HRows B bs w hv hd){b:Nat}(hb:w.heap.size<=b):HRows B (b :: bs) w hv hd :=
 { h with
  off:=fun y k h2 hk=>by
   have:=own_ge (h.row y) h2
   rcases List.mem_cons.1 hk with rfl | hk
   · omega
   · exact h.off y k h2 hk }
theorem HRows.set (h:HRows B bs w hv hd)(x:Int){v:Value}{l:List Int}(hown:W.ownsRow B 3 1 v l.length (rowOf l))(hg:w.grownBy W (hv x).ownBlock)
  (hat:∀ g,v.ownBlock=some g->(hv x).ownBlock=some g∨w.heap.size<=g)(hbs:∀ b∈bs,b<w.heap.size) :
  HRows B bs W (fun y=>if y=x then v else hv y) (fun y=>if y=x then l else hd y):=by
 have other:∀ y b,y≠x->(hv y).ownBlock=some b->v.ownBlock≠some b:=fun y b hy h1 h2=>by
  rcases hat b h2 with e | e
  · exact h.apart y x b hy h1 e
  · have:=(own_ge (h.row y) h1).2
    omega
 refine⟨Nat.le_trans h.ge hg.size,fun y=>?_,fun y b h1 hb=>?_,fun y z b hne h1 h2=>?_⟩
 · by_cases e:y=x
   · rw [if_pos e,if_pos e]
     exact hown
   · rw [if_neg e,if_neg e]
     refine (h.row y).kept hg ?_
     cases hu:(hv y).ownBlock with
     | none=>exact .inl rfl
     | some b=>exact .inr fun e2=>h.apart y x b e hu e2.symm
 · by_cases e:y=x
   · rw [if_pos e] at h1
     rcases hat b h1 with e2 | e2
     · exact h.off x b e2 hb
     · have:=hbs b hb
       omega
   · rw [if_neg e] at h1
     exact h.off y b h1 hb
 · by_cases e:y=x
   · rw [if_pos e] at h1
     rw [if_neg (fun e2=>hne (e.trans e2.symm))] at h2
     exact other z b (fun e2=>hne (e.trans e2.symm)) h2 h1
   · rw [if_neg e] at h1
     by_cases e2:z=x
     · rw [if_pos e2] at h2
       exact other y b e h1 h2
     · rw [if_neg e2] at h2
       exact h.apart y z b hne h1 h2
end
end Go.Proofs.YtiahgcaenneonaaDoor
namespace Kv
def inSet (t:Int):Prop:=0<=t/\t<64
instance (t:Int):Decidable (inSet t):=inferInstanceAs (Decidable (_/\_))
def hasM (s:Nat) (t:Int):Bool:=if inSet t then s.testBit t.toNat else false
def withM (s:Nat) (t:Int):Nat:=if inSet t then s ||| 2 ^ t.toNat else s
def listM (s:Nat):List Nat:=(List.range 64).filter s.testBit
def firstM (n:Int):Nat:=if n<=0 then 0 else if 64<=n then 18446744073709551615 else 2 ^ n.toNat-1
theorem mem_listM {s i:Nat}:i∈listM s↔i<64/\s.testBit i=true:=by simp [listM]
def fromM (s k:Nat):List Nat:=(List.range' k (64-k)).filter s.testBit
theorem fromM_zero (s:Nat):fromM s 0=listM s:=by simp [fromM,listM,List.range_eq_range']
theorem fromM_step (s k:Nat)(hk:k<64):fromM s k=if s.testBit k then k :: fromM s (k+1) else fromM s (k+1):=by
 unfold fromM
 rw [show 64-k=(64-(k+1))+1 from by omega,List.range'_succ,List.filter_cons]
theorem low_form (x:Nat)(h0:x≠0)(hx:x<18446744073709551616):∃ m,x=2 ^ (Go.Lib.ctz 64 x)*(2*m+1)/\Go.Lib.ctz 64 x<64:=by
 obtain⟨m,hm,hk⟩:=Go.Lib.ctzFrom_spec 64 x (by omega) hx
 have e:Go.Lib.ctz 64 x=Go.Lib.ctzFrom 64 x:=by simp [Go.Lib.ctz,h0]
 exact⟨m,by rw [e];exact hm,by rw [e];exact hk⟩
theorem odd_bits (k m i:Nat):(2 ^ k*(2*m+1)).testBit i=(decide (i=k)||(decide (k<i)&&m.testBit (i-k-1))):=by
 rw [Nat.testBit_two_pow_mul]
 by_cases h:i<k
 · have h1:¬ k<=i:=by omega
   have h2:¬ i=k:=by omega
   have h3:¬ k<i:=by omega
   simp [h1,h2,h3]
 · by_cases h2:i=k
   · subst h2;simp
   · have h1:k<=i:=by omega
     have h3:k<i:=by omega
     obtain⟨j,rfl⟩:∃ j,i=k+1+j:=⟨i-k-1,by omega⟩
     have e:k+1+j-k=j+1:=by omega
     have e2:k+1+j-k-1=j:=by omega
     simp only [h1,h2,h3,decide_true,decide_false,Bool.true_and,Bool.false_or,e,Nat.testBit_succ]
     congr 1
     omega
theorem pred_bits (k m i:Nat):(2 ^ k*(2*m+1)-1).testBit i=(decide (i<k)||(decide (k<i)&&m.testBit (i-k-1))):=by
 have hp:=Nat.two_pow_pos k
 have e:2 ^ k*(2*m+1)-1=2 ^ k*(2*m)+(2 ^ k-1):=by rw [Nat.mul_add];omega
 rw [e,Nat.testBit_two_pow_mul_add _ (by omega)]
 by_cases h:i<k
 · rw [if_pos h,show 2 ^ k-1=2 ^ k-(0+1) from by omega,Nat.testBit_two_pow_sub_succ (by omega)]
   simp [h]
 · rw [if_neg h]
   by_cases h2:i=k
   · subst h2;simp
   · obtain⟨j,rfl⟩:∃ j,i=k+1+j:=⟨i-k-1,by omega⟩
     have e1:k+1+j-k=j+1:=by omega
     have e2:k+1+j-k-1=j:=by omega
     have h3:k<k+1+j:=by omega
     rw [e2,e1]
     simp only [h,h3,decide_true,decide_false,Bool.true_and,Bool.false_or,Nat.testBit_succ]
     congr 1
     omega
def dropLow (x:Nat):Nat:=x &&& (x-1)
theorem dropLow_bits (x:Nat)(h0:x≠0)(hx:x<18446744073709551616)(i:Nat):(dropLow x).testBit i=(decide (Go.Lib.ctz 64 x<i)&&x.testBit i):=by
 obtain⟨m,hm,hk⟩:=low_form x h0 hx
 unfold dropLow
 generalize Go.Lib.ctz 64 x=k at *
 subst hm
 rw [Nat.testBit_and,odd_bits,pred_bits]
 by_cases h1:i<k
 · have h2:¬ k<i:=by omega
   have h3:¬ i=k:=by omega
   simp [h2,h3]
 · by_cases h3:i=k
   · subst h3;simp
   · have h2:k<i:=by omega
     simp [h1,h2,h3]
theorem low_bits (x:Nat)(h0:x≠0)(hx:x<18446744073709551616):x.testBit (Go.Lib.ctz 64 x)=true/\∀ i,i<Go.Lib.ctz 64 x->x.testBit i=false:=by
 obtain⟨m,hm,hk⟩:=low_form x h0 hx
 generalize Go.Lib.ctz 64 x=k at *
 subst hm
 refine⟨by rw [odd_bits];simp,fun i hi=>?_⟩
 rw [odd_bits]
 have h2:¬ k<i:=by omega
 have h3:¬ i=k:=by omega
 simp [h2,h3]
theorem fromM_skip (x:Nat):∀ k,k<=64->(∀ i,i<k->x.testBit i=false)->fromM x 0=fromM x k
 | 0,_,_=>rfl
 | k+1,hk,h=>by
   rw [fromM_skip x k (by omega) (fun i hi=>h i (by omega)),fromM_step x k (by omega),if_neg (by rw [h k (by omega)];simp)]
theorem listM_low (x:Nat)(h0:x≠0)(hx:x<18446744073709551616):listM x=Go.Lib.ctz 64 x :: listM (dropLow x):=by
 obtain⟨m,hm,hk⟩:=low_form x h0 hx
 obtain⟨hb,hl⟩:=low_bits x h0 hx
 have hd:=dropLow_bits x h0 hx
 rw [<- fromM_zero,<- fromM_zero,fromM_skip x _ (by omega) hl,fromM_step x _ hk,if_pos hb]
 rw [fromM_skip (dropLow x) (Go.Lib.ctz 64 x+1) (by omega) (fun i hi=>by rw [hd,show decide (Go.Lib.ctz 64 x<i)=false from by simp;omega];rfl)]
 congr 1
 unfold fromM
 refine List.filter_congr fun i hi=>?_
 have:Go.Lib.ctz 64 x<i:=by have:=(List.mem_range'_1.1 hi).1;omega
 rw [hd]
 simp [this]
theorem dropLow_lt (x:Nat)(h0:x≠0):dropLow x<x:=by
 unfold dropLow
 have:x &&& (x-1)<=x-1:=Nat.and_le_right
 omega
theorem listM_zero:listM 0=[]:=by decide
theorem listM_lt {s x:Nat}(h:x∈listM s):x<64:=(mem_listM.1 h).1
structure SOp where
 fr:Nat
 te:Nat
 wr:Bool
 val:Nat
 th:Nat
def isAhead (a b:SOp):Bool:=decide (a.te<b.fr)
def dig (v t:Nat):Nat:=v / 4 ^ t % 4
def viewN (a b c d:Nat):Nat:=a+4*b+16*c+64*d
def putN (v t x:Nat):Nat:=viewN (if t=0 then x else dig v 0) (if t=1 then x else dig v 1) (if t=2 then x else dig v 2) (if t=3 then x else dig v 3)
def tells (v:Nat) (o:SOp):Nat × Bool:=if o.wr=true then (putN v o.th o.val,true) else (v,decide (o.val=v))
theorem dig_lt (v t:Nat):dig v t<4:=Nat.mod_lt _ (by decide)
theorem putN_lt {v t x:Nat}(hx:x<4):putN v t x<256:=by
 unfold putN viewN
 have h0:=dig_lt v 0
 have h1:=dig_lt v 1
 have h2:=dig_lt v 2
 have h3:=dig_lt v 3
 split <;> split <;> split <;> split <;> omega
theorem put_view {h:Nat->Nat}(hh:∀ t,h t<4){t:Nat}(_ht:t<4)(x:Nat) :
  putN (viewN (h 0) (h 1) (h 2) (h 3)) t x=viewN (if t=0 then x else h 0) (if t=1 then x else h 1) (if t=2 then x else h 2) (if t=3 then x else h 3):=by
 have h0:=hh 0
 have h1:=hh 1
 have h2:=hh 2
 have h3:=hh 3
 have e0:dig (viewN (h 0) (h 1) (h 2) (h 3)) 0=h 0:=by unfold dig viewN;omega
 have e1:dig (viewN (h 0) (h 1) (h 2) (h 3)) 1=h 1:=by unfold dig viewN;omega
 have e2:dig (viewN (h 0) (h 1) (h 2) (h 3)) 2=h 2:=by unfold dig viewN;omega
 have e3:dig (viewN (h 0) (h 1) (h 2) (h 3)) 3=h 3:=by unfold dig viewN;omega
 unfold putN
 rw [e0,e1,e2,e3]
def lastOf (l:List SOp) (t:Nat):Option SOp:=(l.filter fun o=>o.th==t).getLast?
theorem lastOf_snoc (l:List SOp)(o:SOp)(t:Nat):lastOf (l++[o]) t=if o.th=t then some o else lastOf l t:=by
 unfold lastOf
 rw [List.filter_append]
 by_cases h:o.th=t
 · rw [if_pos h]
   simp [h]
 · rw [if_neg h]
   simp [h]
def prevFr (l:List SOp):Nat:=(l.getLast?.map (·.fr)).getD 0
theorem prevFr_snoc (l:List SOp)(o:SOp):prevFr (l++[o])=o.fr:=by simp [prevFr]
def okAt (l:List SOp) (o:SOp):Prop:=o.fr<=o.te/\o.th<8/\prevFr l<=o.fr/\∀ p,lastOf l o.th=some p->p.te<o.fr
def FineL (l:List SOp):Prop:=∀ i o,l[i]?=some o->okAt (l.take i) o
def opOk (n:Nat) (o:SOp):Bool:=decide (o.th<n)&&(if o.wr then decide (o.val<=3) else decide (o.val<=2 ^ (2*n)-1))
def aheadAt (l:List SOp) (j i:Nat):Bool:=match l[j]?,l[i]? with | some a,some b=>isAhead a b | _,_=>false
def freeL (l:List SOp) (d i:Nat):Bool:=(List.range l.length).all fun j=>d.testBit j||j==i||!(aheadAt l j i)
def nextL (l:List SOp) (d:Nat):List Nat:=(List.range l.length).filter fun i=>!d.testBit i&&freeL l d i
def comp (l:List SOp):Nat->Nat->List Nat->Prop
 | d,_,[]=>∀ i,i<l.length->d.testBit i=true
 | d,v,i :: p=>i∈nextL l d/\∃ o,l[i]?=some o/\(tells v o).2=true/\comp l (d ||| 2 ^ i) (tells v o).1 p
def Dead (l:List SOp) (d v:Nat):Prop:=∀ p,¬ comp l d v p
def leftN (l:List SOp) (d:Nat):Nat:=(List.range l.length).countP fun i=>!d.testBit i
theorem countP_less {p q:Nat->Bool}{i:Nat}:∀ {r:List Nat},r.Nodup->i∈r->p i=true->q i=false->(∀ j,j≠i->q j=p j)->r.countP q+1=r.countP p
 | [],_,h,_,_,_=>by simp at h
 | a :: r,hn,h,h1,h2,h3=>by
   rw [List.nodup_cons] at hn
   rcases List.mem_cons.1 h with rfl | h
   · have e:r.countP q=r.countP p:=List.countP_congr fun j hj=>by
      rw [h3 j (fun e=>hn.1 (e▸hj))]
     rw [List.countP_cons,List.countP_cons,e,h1,h2]
     simp
   · have:=countP_less hn.2 h h1 h2 h3
     have e:q a=p a:=h3 a (fun e=>hn.1 (e▸h))
     rw [List.countP_cons,List.countP_cons,e]
     omega
theorem or_bit (d i j:Nat):(d ||| 2 ^ i).testBit j=(d.testBit j||decide (i=j)):=by
 rw [Nat.testBit_or,Nat.testBit_two_pow]
theorem leftN_less {l:List SOp}{d i:Nat}(hi:i<l.length)(hd:d.testBit i=false):leftN l (d ||| 2 ^ i)+1=leftN l d:=by
 unfold leftN
 refine countP_less List.nodup_range (List.mem_range.2 hi) (by simp [hd]) (by simp []) (fun j hj=>?_)
 rw [or_bit]
 simp [Ne.symm hj]
theorem next_mem {l:List SOp}{d i:Nat}:i∈nextL l d↔i<l.length/\d.testBit i=false/\freeL l d i=true:=by
 unfold nextL
 simp [List.mem_filter,Bool.and_eq_true]
theorem comp_zero {l:List SOp}{d v:Nat}(h:∀ i,i<l.length->d.testBit i=true){p:List Nat}(hc:comp l d v p):p=[]:=by
 cases p with
 | nil=>rfl
 | cons i p =>
   obtain⟨h1,_⟩:=hc
   obtain⟨h2,h3,_⟩:=next_mem.1 h1
   rw [h i h2] at h3
   cases h3
def sizeS:Nat->Nat
 | 0=>1
 | m+1=>1+14*sizeS m
theorem sizeS_14:sizeS 15<4611686018427387904:=by decide
theorem sizeS_mono:∀ {a b:Nat},a<=b->sizeS a<=sizeS b
 | a,b,h=>by
   induction h with
   | refl=>exact Nat.le_refl _
   | @step m _ ih =>
     have e:sizeS m.succ=1+14*sizeS m:=rfl
     omega
def mkOp (i:Nat) (have_:Nat->Nat) (q:Nat × Nat × Nat × Nat):SOp :=
 ⟨20*(i+1)-q.1 % 18,20*(i+1)+q.2.1 % 18,decide (q.2.2.1 % 2=0),if q.2.2.1 % 2=0 then q.2.2.1 / 2 % 4 else viewN (have_ 0) (have_ 1) (have_ 2) (have_ 3),q.2.2.2 % 4⟩
def mkHave (have_:Nat->Nat) (q:Nat × Nat × Nat × Nat):Nat->Nat:=fun t=>if q.2.2.1 % 2=0/\t=q.2.2.2 % 4 then q.2.2.1 / 2 % 4 else have_ t
def mk:List (Nat × Nat × Nat × Nat)->List SOp × (Nat->Nat):=fun l=>l.foldl (fun s q=>(s.1++[mkOp s.1.length s.2 q],mkHave s.2 q)) ([],fun _=>0)
theorem mk_snoc (l:List (Nat × Nat × Nat × Nat))(q:Nat × Nat × Nat × Nat):mk (l++[q])=((mk l).1++[mkOp (mk l).1.length (mk l).2 q],mkHave (mk l).2 q):=by
 unfold mk
 rw [List.foldl_append]
 rfl
theorem mk_take (l:List (Nat × Nat × Nat × Nat)){i:Nat}{q:Nat × Nat × Nat × Nat}(hi:l[i]?=some q):mk (l.take (i+1))=((mk (l.take i)).1++[mkOp (mk (l.take i)).1.length (mk (l.take i)).2 q],mkHave (mk (l.take i)).2 q):=by
 rw [List.take_add_one,hi]
 exact mk_snoc _ _
theorem mk_len (l:List (Nat × Nat × Nat × Nat)):∀ i,i<=l.length->(mk (l.take i)).1.length=i
 | 0,_=>by simp [mk]
 | i+1,h=>by
   obtain⟨q,hq⟩:∃ q,l[i]?=some q:=⟨_,List.getElem?_eq_getElem (by omega)⟩
   rw [mk_take l hq,List.length_append,mk_len l i (by omega)]
   rfl
theorem mk_digit (l:List (Nat × Nat × Nat × Nat)):∀ i,i<=l.length->∀ t,(mk (l.take i)).2 t<4
 | 0,_=>fun t=>by simp [mk]
 | i+1,h=>fun t=>by
   obtain⟨q,hq⟩:∃ q,l[i]?=some q:=⟨_,List.getElem?_eq_getElem (by omega)⟩
   rw [mk_take l hq]
   unfold mkHave
   dsimp only
   split
   · omega
   · exact mk_digit l i (by omega) t
theorem mk_pre (l:List (Nat × Nat × Nat × Nat)){i:Nat}(hi:i<=l.length):∀ n,i+n<=l.length->∃ r,(mk (l.take (i+n))).1=(mk (l.take i)).1++r
 | 0,_=>⟨[],by simp⟩
 | n+1,h=>by
   obtain⟨r,hr⟩:=mk_pre l hi n (by omega)
   obtain⟨q,hq⟩:∃ q,l[i+n]?=some q:=⟨_,List.getElem?_eq_getElem (by omega)⟩
   refine⟨r++[mkOp (mk (l.take (i+n))).1.length (mk (l.take (i+n))).2 q],?_⟩
   rw [show i+(n+1)=i+n+1 from rfl,mk_take l hq,hr,List.append_assoc]
theorem mk_at (l:List (Nat × Nat × Nat × Nat)){i:Nat}{q:Nat × Nat × Nat × Nat}(hq:l[i]?=some q):(mk l).1[i]?=some (mkOp i (mk (l.take i)).2 q):=by
 have hi:i<l.length:=(List.getElem?_eq_some_iff.1 hq).1
 obtain⟨r,hr⟩:=mk_pre l (i:=i+1) (by omega) (l.length-(i+1)) (by omega)
 rw [show i+1+(l.length-(i+1))=l.length by omega,List.take_length] at hr
 rw [hr,mk_take l hq,List.append_assoc,List.getElem?_append_right (by rw [mk_len l i (by omega)];exact Nat.le_refl _),mk_len l i (by omega),Nat.sub_self]
 rfl
theorem mk_comp (l:List (Nat × Nat × Nat × Nat)):∀ n i,i+n=l.length->∃ p,comp (mk l).1 (2 ^ i-1) (viewN ((mk (l.take i)).2 0) ((mk (l.take i)).2 1) ((mk (l.take i)).2 2) ((mk (l.take i)).2 3)) p
 | 0,i,h=>⟨[],fun j hj=>by
   have hl:=mk_len l l.length (Nat.le_refl _)
   rw [List.take_length] at hl
   rw [Nat.testBit_two_pow_sub_one,decide_eq_true_eq]
   omega⟩
 | n+1,i,h=>by
   have hl:=mk_len l l.length (Nat.le_refl _)
   rw [List.take_length] at hl
   obtain⟨p,hp⟩:=mk_comp l n (i+1) (by omega)
   obtain⟨q,hq⟩:∃ q,l[i]?=some q:=⟨_,List.getElem?_eq_getElem (by omega)⟩
   have hat:=mk_at l hq
   have hdg:=mk_digit l i (by omega)
   refine⟨i :: p,next_mem.2 ⟨by omega,by rw [Nat.testBit_two_pow_sub_one,decide_eq_false_iff_not];omega,?_⟩,_,hat,?_,?_⟩
   · unfold freeL
     rw [List.all_eq_true]
     intro j hj
     have hj:=List.mem_range.1 hj
     rw [Nat.testBit_two_pow_sub_one]
     by_cases h1:j<i
     · simp [h1]
     · by_cases h2:j=i
       · simp [h2]
       · obtain⟨q2,hq2⟩:∃ q,l[j]?=some q:=⟨_,List.getElem?_eq_getElem (by omega)⟩
         unfold aheadAt
         rw [mk_at l hq2,hat]
         have:isAhead (mkOp j (mk (l.take j)).2 q2) (mkOp i (mk (l.take i)).2 q)=false:=by
          unfold isAhead mkOp
          rw [decide_eq_false_iff_not]
          dsimp only
          omega
         simp [this]
   · unfold tells mkOp
     dsimp only
     by_cases hw:q.2.2.1 % 2=0
     · simp [hw]
     · simp [hw]
   · have e1:2 ^ i-1 ||| 2 ^ i=2 ^ (i+1)-1:=by
      refine Nat.eq_of_testBit_eq fun j=>?_
      rw [or_bit,Nat.testBit_two_pow_sub_one,Nat.testBit_two_pow_sub_one]
      by_cases h1:j<i
      · simp [h1];omega
      · by_cases h2:i=j
        · simp [h2]
        · have:¬ j<i+1:=by omega
          simp [h1,h2,this]
     rw [e1]
     rw [mk_take l hq] at hp
     have e2:(tells (viewN ((mk (l.take i)).2 0) ((mk (l.take i)).2 1) ((mk (l.take i)).2 2) ((mk (l.take i)).2 3)) (mkOp i (mk (l.take i)).2 q)).1=viewN (mkHave (mk (l.take i)).2 q 0) (mkHave (mk (l.take i)).2 q 1) (mkHave (mk (l.take i)).2 q 2) (mkHave (mk (l.take i)).2 q 3):=by
      unfold tells mkOp mkHave
      dsimp only
      by_cases hw:q.2.2.1 % 2=0
      · rw [if_pos (by simp [hw]),if_pos hw]
        dsimp only
        rw [put_view hdg (by omega)]
        simp only [hw,true_and,eq_comm]
      · rw [if_neg (by simp [hw])]
        simp only [hw,false_and,if_false]
     rw [e2]
     exact hp
end Kv
namespace Kv
open Go Go.RowKit
def digM (v:Int):Int:=min (max v 0) 3
theorem digM_bd (v:Int):0<=digM v/\digM v<=3:=by unfold digM;omega
def viewT (f:Nat->Int):Nat->Int
 | 0=>0
 | t+1=>viewT f t+digM (f t)*4 ^ t
theorem viewT_bd (f:Nat->Int):∀ t,0<=viewT f t/\viewT f t<4 ^ t
 | 0=>by simp [viewT]
 | t+1=>by
   have h:=viewT_bd f t
   have hd:=digM_bd (f t)
   have hp:(0:Int)<4 ^ t:=by exact Int.pow_pos (by decide)
   have h2:digM (f t)*4 ^ t<=3*4 ^ t:=Int.mul_le_mul_of_nonneg_right hd.2 (by omega)
   have h3:0<=digM (f t)*4 ^ t:=Int.mul_nonneg hd.1 (by omega)
   rw [viewT,Int.pow_succ]
   omega
def wordV (n:Nat) (x:Int):Int:=x / 4 ^ n % 4
theorem four_two (t:Nat):(4:Int) ^ t=2 ^ (2*t):=by rw [Int.pow_mul];rfl
theorem wraps_i64' (n:Int)(h0:0<=n)(h1:n<2 ^ 62):IntKind.i64.wrap n=n:=by rw [IntKind.wrap_i64];omega
theorem or_high (i:Nat)(x y:Int)(hx0:0<=x)(hx:x<2 ^ i)(hx1:x<2 ^ 62)(hy0:0<=y)(hy:y % 2 ^ i=0)(hy1:y<2 ^ 62):bits .or .i64 x y=x+y:=by
 have h:=bits_join .i64 62 (by decide) wraps_i64' i y x hy0 hy hy1 hx0 hx hx1
 obtain⟨a,rfl⟩:=Int.eq_ofNat_of_zero_le hx0
 obtain⟨b,rfl⟩:=Int.eq_ofNat_of_zero_le hy0
 have ha:a<2 ^ 62:=by exact_mod_cast hx1
 have hb:b<2 ^ 62:=by exact_mod_cast hy1
 rw [(bits_nat .i64 62 (by decide) wraps_i64' b a hb ha).2] at h
 rw [(bits_nat .i64 62 (by decide) wraps_i64' a b ha hb).2,Nat.or_comm,h]
 omega
theorem view_or (f:Nat->Int)(t:Nat)(h:t<=3):bits .or .i64 (viewT f t) (wrap64 (digM (f t)*2 ^ (2*t)))=viewT f (t+1):=by
 have h1:=viewT_bd f t
 have hd:=digM_bd (f t)
 have hp:(4:Int) ^ t<=64:=by
  have:t=0∨t=1∨t=2∨t=3:=by omega
  rcases this with rfl | rfl | rfl | rfl <;> decide
 have hp0:(0:Int)<4 ^ t:=Int.pow_pos (by decide)
 have h2:digM (f t)*4 ^ t<=3*4 ^ t:=Int.mul_le_mul_of_nonneg_right hd.2 (by omega)
 have h3:0<=digM (f t)*4 ^ t:=Int.mul_nonneg hd.1 (by omega)
 rw [viewT,<- four_two]
 have hw:wrap64 (digM (f t)*4 ^ t)=digM (f t)*4 ^ t:=by
  unfold wrap64
  omega
 rw [hw]
 exact or_high (2*t) _ _ h1.1 (by rw [<- four_two];exact h1.2) (by omega) h3 (by rw [<- four_two];exact Int.mul_emod_left ..) (by omega)
end Kv
namespace Go.Proofs.YtiahgcaenneonaaDoor
open Go.RowKit Kv
theorem digit_p (v:Int)(w:World):Calls Tryd.prog 37 #[.int .i64 v] w fun e w'=>e=.returned (.int .i64 (digM v))/\w=w':=by
 unfold digM
 go_enter Tryd.func37,Tryd.ntmps37
 go_wp2_with fail
 first | exact⟨rfl,rfl⟩ | (go_ret;exact⟨rfl,rfl⟩)
theorem view_p (A:Option Addr)(l:List Int)(n c:Nat)(f:Nat->Int)(w:World)(h:Ints w (.slice A n c) l)(hn:l.length=n)(h1:1<=n)(h4:n<=4)(hf:∀ (i:Nat) (v:Int),l[i]?=some v->f i=v) :
  Calls Tryd.prog 9 #[.slice A n c] w fun e w'=>e=.returned (.int .i64 (viewT f n))/\w=w':=by
 obtain⟨A',c',he,z1,z2,z3⟩:=id h
 injection he with e1 e2 e3
 subst e1 e3
 have hne:l≠[]:=fun e=>by rw [e] at hn;simp at hn;omega
 obtain⟨b,o,rfl,hb,hc⟩:=z3 hne
 have hch:Hid (∀ t,t<n->w.cell? ⟨b,o+t,none⟩=some (.int .i64 (f t))):=Lib.hid fun t ht=>by
  have hv:l[t]?=some l[t]:=List.getElem?_eq_getElem (by omega)
  rw [hf t _ hv]
  exact hc t _ hv
 clear hc z3 h hne hf
 rw [hn] at z1
 clear hn e2
 have hmn:min (n:Int) 4=n:=by omega
 have hmx:max (n:Int) 0=n:=by omega
 have hlc:(n:Int)<=(c:Int):=by omega
 have hl0:(0:Int)<=(n:Int):=by omega
 go_enter Tryd.func9,Tryd.ntmps9
 go_wp2_with fail
 go_loopw [3,12] (fun a3 a12 wr=>∃ (t:Nat),a3=.int .i64 (viewT f t)/\a12=.int .i64 t/\t<=n/\wr=w) (fun _ a12 _=>n-(intOf a12).toNat)
 case atStart=>exact⟨0,rfl,rfl,by omega,rfl⟩
 case round =>
  obtain⟨t,rfl,rfl,ht,rfl⟩:=hrel
  by_cases hl:t<n
  · have dl:decide ((t:Int)<(n:Int))=true:=by rw [decide_eq_true_eq];omega
    have hcell:=hch.out t hl
    have ht4:(t:Int)<n:=by omega
    have hor:=Lib.hid (view_or f t (by omega))
    go_wp2_with fail
    refine (digit_p (f t) _).mono ?_
    rintro e w2 ⟨rfl,rfl⟩
    go_wp2_with fail
    refine⟨⟨t+1,by rw [<- hor.out],by first | rfl | go_num,by omega,by first | trivial | rfl⟩,?_⟩
    simp [intOf];omega
  · obtain rfl:t=n:=by omega
    go_wp2_with fail
    first | exact⟨rfl,rfl⟩ | (go_ret;exact⟨rfl,rfl⟩)
theorem word_shr (n:Nat)(x:Int)(h0:0<=x)(h1:x<2 ^ 62):bits .and .i64 (x / 2 ^ (2*n)) 3=wordV n x:=by
 unfold wordV
 rw [four_two]
 have hp:(0:Int)<2 ^ (2*n):=Int.pow_pos (by decide)
 have h2:0<=x / 2 ^ (2*n):=Int.ediv_nonneg h0 (by omega)
 have h3:x / 2 ^ (2*n)<=x:=Int.ediv_le_self _ h0
 exact bits_mask .i64 62 (by decide) wraps_i64' 2 (by decide) _ h2 (by omega)
theorem viewT_four (a b c d:Nat)(ha:a<4)(hb:b<4)(hc:c<4)(hd:d<4)(f:Nat->Int)(h0:f 0=a)(h1:f 1=b)(h2:f 2=c)(h3:f 3=d):viewT f 4=viewN a b c d:=by
 unfold viewT viewT viewT viewT viewT digM viewN
 rw [h0,h1,h2,h3]
 have e0:min (max (a:Int) 0) 3=a:=by omega
 have e1:min (max (b:Int) 0) 3=b:=by omega
 have e2:min (max (c:Int) 0) 3=c:=by omega
 have e3:min (max (d:Int) 0) 3=d:=by omega
 rw [e0,e1,e2,e3]
 omega
theorem word_dig (v t:Nat):wordV t (v:Int)=(dig v t:Int):=by
 unfold wordV dig
 push_cast
 rfl
def opVals (o:SOp):List Value:=[.int .i64 o.fr,.int .i64 o.te,.bool o.wr,.int .i64 o.val,.int .i64 o.th]
def opV (o:SOp):Value:=.agg #[.int .i64 o.fr,.int .i64 o.te,.bool o.wr,.int .i64 o.val,.int .i64 o.th]
def OpsV (w:World) (A:Option Addr) (l:List SOp):Prop:=Vals w A (l.flatMap opVals)
theorem op_at {w:World}{A:Option Addr}{l:List SOp}(h:OpsV w A l){i:Nat}{o:SOp}(hi:l[i]?=some o) :
  ∃ b,A=some ⟨b,0,none⟩/\b<w.heap.size/\w.cell? ⟨b,i*5,none⟩=some (.int .i64 o.fr)/\w.cell? ⟨b,i*5+1,none⟩=some (.int .i64 o.te)/\w.cell? ⟨b,i*5+2,none⟩=some (.bool o.wr)/\w.cell? ⟨b,i*5+3,none⟩=some (.int .i64 o.val)/\w.cell? ⟨b,i*5+4,none⟩=some (.int .i64 o.th):=by
 have h0:=flat_at opVals 5 (fun _=>rfl) l i 0 o hi (by omega)
 have h1:=flat_at opVals 5 (fun _=>rfl) l i 1 o hi (by omega)
 have h2:=flat_at opVals 5 (fun _=>rfl) l i 2 o hi (by omega)
 have h3:=flat_at opVals 5 (fun _=>rfl) l i 3 o hi (by omega)
 have h4:=flat_at opVals 5 (fun _=>rfl) l i 4 o hi (by omega)
 obtain⟨b,rfl,hb,hc⟩:=h (fun e=>by rw [e] at h0;simp [opVals] at h0)
 rw [Nat.mul_comm i 5]
 exact⟨b,rfl,hb,hc _ _ h0,hc _ _ h1,hc _ _ h2,hc _ _ h3,hc _ _ h4⟩
theorem Blk.set5 {w:World}{b c i:Nat}{o:Obj}(h:Blk w b o)(hb:b≠c)(v:Value):Blk (w.setCell ⟨c,i,none⟩ v) b o:=(heap_setCell_ne w v hb).trans h
theorem ints_of_blk {w:World}{b:Nat}{t:TypeId}(l:List Int)(hl:l.length<=1000000)(h:Blk w b (.cells (l.map (Value.int .i64)).toArray t)):Ints w (.slice (some ⟨b,0,none⟩) l.length l.length) l :=
 ⟨_,_,rfl,Nat.le_refl _,by omega,fun _=>⟨b,0,rfl,h.lt,fun i x hi=>by rw [Nat.zero_add,h.cells i];simp [hi]⟩⟩
theorem ahead_p (a b:SOp)(w:World):Calls Tryd.prog 66 #[opV a,opV b] w fun e w'=>e=.returned (.bool (isAhead a b))/\Ext w w':=by
 have hx:=Lib.hid (((Ext.refl w).alloc (.cells #[.int .i64 a.fr,.int .i64 a.te,.bool a.wr,.int .i64 a.val,.int .i64 a.th] 28)).alloc (.cells #[.int .i64 b.fr,.int .i64 b.te,.bool b.wr,.int .i64 b.val,.int .i64 b.th] 28))
 have d1:((a.te:Int) != -1)=true:=by simp
 unfold opV
 go_enter Tryd.func66,Tryd.ntmps66
 go_wp2_with fail
 go_ret
 unfold isAhead
 exact⟨ret_bool (by first | rfl | simp),hx.out⟩
theorem ahead_r (a b:SOp)(w:World):Calls Tryd.prog 38 #[opV a,opV b] w fun e w'=>e=.returned (.bool (isAhead a b))/\Ext w w':=by
 have hx:=Lib.hid (((Ext.refl w).alloc (.cells #[.int .i64 a.fr,.int .i64 a.te,.bool a.wr,.int .i64 a.val,.int .i64 a.th] 28)).alloc (.cells #[.int .i64 b.fr,.int .i64 b.te,.bool b.wr,.int .i64 b.val,.int .i64 b.th] 28))
 have d1:((a.te:Int) != -1)=true:=by simp
 unfold opV
 go_enter Tryd.func38,Tryd.ntmps38
 go_wp2_with fail
 go_ret
 unfold isAhead
 exact⟨ret_bool (by first | rfl | simp),hx.out⟩
theorem at_p (v t:Nat)(hv:v<256)(ht:t<4)(w:World):Calls Tryd.prog 83 #[.int .i64 v,.int .i64 t] w fun e w'=>e=.returned (.int .i64 (dig v t))/\w=w':=by
 have d1:decide ((v:Int)<0)=false:=by rw [decide_eq_false_iff_not];omega
 have d2:decide ((255:Int)<(v:Int))=false:=by rw [decide_eq_false_iff_not];omega
 have d3:decide ((t:Int)<0)=false:=by rw [decide_eq_false_iff_not];omega
 have d4:decide ((4:Int)<=(t:Int))=false:=by rw [decide_eq_false_iff_not];omega
 have hs:=Lib.hid ((word_shr t (v:Int) (by omega) (by omega)).trans (word_dig v t))
 have hw:=IntWalk.i64_in (2*(t:Int)) (by omega)
 have h2:(0:Int)<=2*(t:Int):=by omega
 go_enter Tryd.func83,Tryd.ntmps83
 go_wp2_with fail
 go_ret
 refine⟨ret_int ?_,rfl⟩
 rw [<- hs.out]
 first | rfl | (congr 1 <;> simp) | trace_state
def digs (v j:Nat):Array Value:=#[.int .i64 (if 0<j then (dig v 0:Int) else 0),.int .i64 (if 1<j then (dig v 1:Int) else 0),.int .i64 (if 2<j then (dig v 2:Int) else 0),.int .i64 (if 3<j then (dig v 3:Int) else 0)]
theorem digs_put (v j:Nat)(hj:j<4):(digs v j).setIfInBounds j (.int .i64 (dig v j))=digs v (j+1):=by
 have:j=0∨j=1∨j=2∨j=3:=by omega
 rcases this with rfl | rfl | rfl | rfl <;> rfl
theorem put_p (v:Nat)(o:SOp)(hv:v<256)(ht:o.th<4)(hx:o.val<4)(w:World):Calls Tryd.prog 67 #[.int .i64 v,opV o] w fun e w'=>e=.returned (.int .i64 (putN v o.th o.val))/\Ext w w':=by
 have k3:=(Blk.new w (.cells #[.int .i64 o.fr,.int .i64 o.te,.bool o.wr,.int .i64 o.val,.int .i64 o.th] 28)).alloc (.cells #[.int .i64 0,.int .i64 0,.int .i64 0,.int .i64 0] 152)
 have k5:=Blk.new (w.alloc (.cells #[.int .i64 o.fr,.int .i64 o.te,.bool o.wr,.int .i64 o.val,.int .i64 o.th] 28)) (.cells #[.int .i64 0,.int .i64 0,.int .i64 0,.int .i64 0] 152)
 rw [World.size_alloc] at k5
 have hx0:=((Ext.refl w).alloc (.cells #[.int .i64 o.fr,.int .i64 o.te,.bool o.wr,.int .i64 o.val,.int .i64 o.th] 28)).alloc (.cells #[.int .i64 0,.int .i64 0,.int .i64 0,.int .i64 0] 152)
 have hne:=Lib.hid (show w.heap.size≠w.heap.size+1 by omega)
 unfold opV
 go_enter Tryd.func67,Tryd.ntmps67
 go_wp2_with fail
 generalize World.alloc (World.alloc w _) _=W0 at *
 generalize hb5:w.heap.size+1=b5 at *
 have hge0:w.heap.size<=b5:=by omega
 have hge:=Lib.hid hge0
 clear hge0
 obtain⟨b3,hb3⟩:∃ b,b=w.heap.size:=⟨_,rfl⟩
 rw [<- hb3] at k3 hne ⊢
 clear hb3 hb5
 have k5h:=Lib.hid (show Blk W0 b5 (.cells (digs v 0) 152) from k5)
 have k3h:=Lib.hid k3
 have hxh:=Lib.hid hx0
 clear k5 k3 hx0
 go_loopw [7] (fun a7 wr=>∃ j:Nat,a7=.int .i64 j/\j<=4/\Hid (Blk wr b5 (.cells (digs v j) 152)/\Blk wr b3 (.cells #[.int .i64 o.fr,.int .i64 o.te,.bool o.wr,.int .i64 o.val,.int .i64 o.th] 28)/\Ext w wr)) (fun a7 _=>4-(intOf a7).toNat)
 case atStart=>exact⟨0,rfl,by omega,k5h.out,k3h.out,hxh.out⟩
 case round =>
  clear k5h k3h hxh
  obtain⟨j,rfl,hj,hR⟩:=hrel
  obtain⟨k5,k3,hxx⟩:=hR.out
  clear hR
  by_cases hj4:j<4
  · have dj:decide ((j:Int)<4)=true:=by rw [decide_eq_true_eq];omega
    have hj4i:(j:Int)<4:=by omega
    have hj0:(0:Int)<=(j:Int):=by omega
    have c5:(wr.cell? ⟨b5,j,none⟩).isSome=true:=by
     rw [k5.cells j]
     have:j=0∨j=1∨j=2∨j=3:=by omega
     rcases this with rfl | rfl | rfl | rfl <;> rfl
    obtain⟨v5,hv5⟩:=Option.isSome_iff_exists.1 c5
    have f5:=frozen_of_heap k5 j
    have q5:=heap_setCell (i:=j) k5 (.int .i64 (dig v j))
    rw [digs_put v j hj4] at q5
    have q5h:=Lib.hid q5
    have q3h:=Lib.hid (k3.set5 (i:=j) (hb:=hne.out) (.int .i64 (dig v j)))
    have qxh:=Lib.hid (hxx.setCell (p:=⟨b5,j,none⟩) hge.out (.int .i64 (dig v j)))
    clear k5 k3 hxx c5 q5
    go_wp2_with fail
    refine (at_p v j hv hj4 _).mono ?_
    rintro e w2 ⟨rfl,rfl⟩
    go_wp2_with fail
    refine⟨⟨j+1,by first | rfl | go_num,by omega,q5h.out,q3h.out,qxh.out⟩,?_⟩
    simp [intOf];omega
  · have dj:decide ((j:Int)<4)=false:=by rw [decide_eq_false_iff_not];omega
    obtain rfl:j=4:=by omega
    have ht0:(0:Int)<=(o.th:Int):=by omega
    have ht4:(o.th:Int)<4:=by omega
    have c33:=k3.cells 3
    have c34:=k3.cells 4
    have c5:(wr.cell? ⟨b5,o.th,none⟩).isSome=true:=by
     rw [k5.cells o.th]
     have:o.th=0∨o.th=1∨o.th=2∨o.th=3:=by omega
     rcases this with h | h | h | h <;> rw [h] <;> rfl
    obtain⟨v5,hv5⟩:=Option.isSome_iff_exists.1 c5
    have f5:=frozen_of_heap k5 o.th
    have q5:=heap_setCell (i:=o.th) k5 (.int .i64 o.val)
    have qx:=hxx.setCell (p:=⟨b5,o.th,none⟩) hge.out (.int .i64 o.val)
    have e:(digs v 4).setIfInBounds o.th (.int .i64 o.val)=(([if o.th=0 then o.val else dig v 0,if o.th=1 then o.val else dig v 1,if o.th=2 then o.val else dig v 2,if o.th=3 then o.val else dig v 3].map fun x:Nat=>(x:Int)).map (Value.int .i64)).toArray:=by
     have:o.th=0∨o.th=1∨o.th=2∨o.th=3:=by omega
     rcases this with h | h | h | h <;> rw [h] <;> rfl
    rw [e] at q5
    have hin:=ints_of_blk _ (by simp) q5
    have h0:=dig_lt v 0
    have h1:=dig_lt v 1
    have h2:=dig_lt v 2
    have h3:=dig_lt v 3
    have hvw:=view_p (some ⟨b5,0,none⟩) _ 4 4 (fun i=>([if o.th=0 then o.val else dig v 0,if o.th=1 then o.val else dig v 1,if o.th=2 then o.val else dig v 2,if o.th=3 then o.val else dig v 3].map fun x:Nat=>(x:Int)).getD i 0) (wr.setCell ⟨b5,o.th,none⟩ (.int .i64 o.val)) hin rfl (by omega) (by omega) (fun i x hi=>by rw [List.getD_eq_getElem?_getD,hi];rfl)
    rw [viewT_four (if o.th=0 then o.val else dig v 0) (if o.th=1 then o.val else dig v 1) (if o.th=2 then o.val else dig v 2) (if o.th=3 then o.val else dig v 3) (by split <;> omega) (by split <;> omega) (by split <;> omega) (by split <;> omega) _ rfl rfl rfl rfl] at hvw
    rw [show viewN (if o.th=0 then o.val else dig v 0) (if o.th=1 then o.val else dig v 1) (if o.th=2 then o.val else dig v 2) (if o.th=3 then o.val else dig v 3)=putN v o.th o.val from rfl] at hvw
    have hvh:=Lib.hid hvw
    have qxh:=Lib.hid qx
    clear k5 k3 hxx c5 q5 qx e hin h0 h1 h2 h3 hvw
    go_wp2_with fail
    refine hvh.out.mono ?_
    rintro e w2 ⟨rfl,rfl⟩
    go_wp2_with fail
    first | exact⟨rfl,qxh.out⟩ | (go_ret;exact⟨rfl,qxh.out⟩)
theorem tells_p (v:Nat)(o:SOp)(hv:v<256)(ht:o.th<4)(hx:o.wr=true->o.val<4)(w:World):Calls Tryd.prog 44 #[.int .i64 v,opV o] w fun e w'=>e=.returned (.tuple #[.int .i64 (tells v o).1,.bool (tells v o).2])/\Ext w w':=by
 obtain⟨fr,te,wr,val,th⟩:=o
 have hx0:=Lib.hid ((Ext.refl w).alloc (.cells #[.int .i64 fr,.int .i64 te,.bool wr,.int .i64 val,.int .i64 th] 28))
 have k3:=Blk.new w (.cells #[.int .i64 fr,.int .i64 te,.bool wr,.int .i64 val,.int .i64 th] 28)
 cases wr with
 | true =>
   have hp:=Lib.hid (put_p v ⟨fr,te,true,val,th⟩ hv ht (hx rfl))
   have hr:tells v ⟨fr,te,true,val,th⟩=(putN v th val,true):=by unfold tells;rw [if_pos rfl]
   rw [hr]
   unfold opV
   clear k3 hx hr
   go_enter Tryd.func44,Tryd.ntmps44
   go_wp2_with fail
   refine (hp.out _).mono ?_
   rintro e w2 ⟨rfl,hx2⟩
   have hf:=Lib.hid (hx0.out.trans hx2)
   clear hx2
   go_wp2_with fail
   first | exact⟨rfl,hf.out⟩ | (go_ret2;exact⟨rfl,hf.out⟩) | (go_ret;exact⟨rfl,hf.out⟩)
 | false =>
   have he:decide (val=v)=((val:Int)==(v:Int)):=by rw [Bool.eq_iff_iff];simp;omega
   have hr:tells v ⟨fr,te,false,val,th⟩=(v,((val:Int)==(v:Int))):=by unfold tells;rw [if_neg (show ¬ (false=true) from Bool.false_ne_true),<- he]
   rw [hr]
   have d1:((te:Int)==-1)=false:=by simp
   have k3h:=Lib.hid k3
   unfold opV
   clear k3 hx hr he
   go_enter Tryd.func44,Tryd.ntmps44
   go_upto_region 3 with fail
   have c31:=k3h.out.cells 1
   have c33:=k3h.out.cells 3
   go_quiet (fail)
   have hf:=Lib.hid (hx0.out.drewN nq)
   clear c31 c33 k3h
   generalize World.drewN _ nq=W2 at *
   go_wp2_with fail
   first | exact⟨rfl,hf.out⟩ | (go_ret2;exact⟨rfl,hf.out⟩) | (go_ret;exact⟨rfl,hf.out⟩)
theorem thread_any (t:Int)(w:World) :
  Calls Tryd.prog 79 #[.int .i64 t] w fun e w'=>e=.returned (.bool (decide (inSet t)))/\w=w':=by
 by_cases h0:0<=t
 · have H:Hid (decide (t<64)=decide (inSet t)):=by unfold Hid inSet;simp [h0]
   go_enter Tryd.func79,Tryd.ntmps79
   go_wp2
   go_ret
   exact⟨ret_bool H.out,rfl⟩
 · have H:Hid (false=decide (inSet t)):=by unfold Hid inSet;simp [h0]
   go_enter Tryd.func79,Tryd.ntmps79
   go_wp2
   go_ret
   exact⟨ret_bool H.out,rfl⟩
theorem nat_toNat (t:Int)(h:inSet t):∃ k:Nat,t=(k:Int)/\k<64:=⟨t.toNat,by have:=h.1;omega,by have:=h.1;have:=h.2;omega⟩
theorem bit_test (s k:Nat)(hs:s<18446744073709551616):(bits .and .u64 ((s:Int) / 2 ^ k) 1==1)=s.testBit k:=by
 have hd:s / 2 ^ k<18446744073709551616:=Nat.lt_of_le_of_lt (Nat.div_le_self _ _) hs
 have h:=u64_and_nat (s / 2 ^ k) 1 hd (by omega)
 have e:((s / 2 ^ k:Nat):Int)=(s:Int) / 2 ^ k:=by push_cast;rfl
 rw [e] at h
 rw [show (1:Int)=((1:Nat):Int) from rfl,h,Nat.testBit_eq_decide_div_mod_eq,Nat.and_one_is_mod]
 rw [Bool.eq_iff_iff]
 simp
 omega
theorem u64pow (k:Nat)(hk:k<64):IntKind.u64.wrap ((2:Int) ^ k)=((2 ^ k:Nat):Int):=by
 have h:(2 ^ k:Nat)<2 ^ 64:=Nat.pow_lt_pow_right (by omega) hk
 have e:(2:Int) ^ k=((2 ^ k:Nat):Int):=by push_cast;rfl
 rw [e,IntKind.wrap_u64]
 generalize (2 ^ k:Nat)=p at *
 omega
theorem has_p (s:Nat)(hs:s<18446744073709551616)(t:Int)(w:World) :
  Calls Tryd.prog 65 #[.int .u64 s,.int .i64 t] w fun e w'=>e=.returned (.bool (hasM s t))/\w=w':=by
 by_cases h0:inSet t
 · obtain⟨k,rfl,hk⟩:=nat_toNat t h0
   have H:Hid ((bits .and .u64 ((s:Int) / 2 ^ k) 1==1)=hasM s k):=by
    unfold Hid hasM
    rw [bit_test s k hs,if_pos h0,Int.toNat_natCast]
   have d:decide (inSet (k:Int))=true:=by simp [h0]
   go_enter Tryd.func65,Tryd.ntmps65
   go_wp2_with (go_at_call 79;refine (thread_any _ _).mono ?_;rintro e w' ⟨rfl,rfl⟩)
   go_ret
   exact⟨ret_bool H.out,rfl⟩
 · have H:Hid (false=hasM s t):=by unfold Hid hasM;rw [if_neg h0]
   have d:decide (inSet t)=false:=by simp [h0]
   go_enter Tryd.func65,Tryd.ntmps65
   go_wp2_with (go_at_call 79;refine (thread_any _ _).mono ?_;rintro e w' ⟨rfl,rfl⟩)
   go_ret
   exact⟨ret_bool H.out,rfl⟩
theorem with_p (s:Nat)(hs:s<18446744073709551616)(t:Int)(w:World) :
  Calls Tryd.prog 63 #[.int .u64 s,.int .i64 t] w fun e w'=>e=.returned (.int .u64 (withM s t))/\w=w':=by
 by_cases h0:inSet t
 · obtain⟨k,rfl,hk⟩:=nat_toNat t h0
   have d:decide (inSet (k:Int))=true:=by simp [h0]
   go_enter Tryd.func63,Tryd.ntmps63
   go_wp2_with (go_at_call 79;refine (thread_any _ _).mono ?_;rintro e w' ⟨rfl,rfl⟩)
   go_ret
   refine⟨ret_int ?_,rfl⟩
   show bits .or .u64 (s:Int) (IntKind.u64.wrap ((2:Int) ^ k))=_
   have hp:(2 ^ k:Nat)<2 ^ 64:=Nat.pow_lt_pow_right (by omega) hk
   rw [u64pow k hk,u64_or_nat s _ hs (by omega)]
   unfold withM
   rw [if_pos h0,Int.toNat_natCast]
 · have H:Hid ((s:Int)=withM s t):=by unfold Hid withM;rw [if_neg h0]
   have d:decide (inSet t)=false:=by simp [h0]
   go_enter Tryd.func63,Tryd.ntmps63
   go_wp2_with (go_at_call 79;refine (thread_any _ _).mono ?_;rintro e w' ⟨rfl,rfl⟩)
   go_ret
   exact⟨ret_int H.out,rfl⟩
theorem first_p (n:Int)(w:World) :
  Calls Tryd.prog 80 #[.int .i64 n] w fun e w'=>e=.returned (.int .u64 (firstM n))/\w=w':=by
 go_enter Tryd.func80,Tryd.ntmps80
 go_wp2
 all_goals go_ret
 · exact⟨ret_int (by unfold firstM;rw [if_pos (by assumption)];rfl),rfl⟩
 · exact⟨ret_int (by unfold firstM;rw [if_neg (by omega),if_pos (by assumption)];rfl),rfl⟩
 · refine⟨ret_int ?_,rfl⟩
   show IntKind.u64.wrap (IntKind.u64.wrap ((2:Int) ^ n.toNat)-1)=_
   have hp:(2 ^ n.toNat:Nat)<2 ^ 64:=Nat.pow_lt_pow_right (by omega) (by omega)
   have hq:=Nat.two_pow_pos n.toNat
   rw [u64pow _ (by omega),IntKind.wrap_u64]
   unfold firstM
   rw [if_neg (by omega),if_neg (by omega)]
   omega
end Go.Proofs.YtiahgcaenneonaaDoor
namespace Kv
theorem with_first {j:Nat}(hj:j<64):withM (2 ^ j-1) (j:Int)=2 ^ (j+1)-1:=by
 unfold withM
 rw [if_pos (by unfold inSet;omega),Int.toNat_natCast]
 refine Nat.eq_of_testBit_eq fun k=>?_
 rw [or_bit,Nat.testBit_two_pow_sub_one,Nat.testBit_two_pow_sub_one]
 by_cases h1:k<j
 · simp [h1];omega
 · by_cases h2:j=k
   · simp [h2]
   · have:¬ k<j+1:=by omega
     simp [h1,h2,this]
theorem pow_lt_64 {j:Nat}(h:j<64):2 ^ j-1<18446744073709551616:=by
 have:=Nat.pow_lt_pow_right (a:=2) (by decide) h
 omega
end Kv
namespace Go.Proofs.YtiahgcaenneonaaDoor
open Go.RowKit Kv
theorem op_ext {w W:World}{A:Option Addr}{l:List SOp}(h:OpsV w A l)(hx:Ext w W):OpsV W A l:=Vals.ext h hx
set_option maxHeartbeats 1600000 in
theorem over_p (A:Option Addr)(c:Nat)(l:List SOp)(w:World)(hl:OpsV w A l)(hn:l.length<=20) :
  Calls Tryd.prog 40 #[.slice A l.length c] w fun e w'=>e=.returned (.int .u64 ((2 ^ l.length-1:Nat):Int))/\Ext w w':=by
 have hlh:=Lib.hid hl
 have hx0:=Lib.hid (Ext.refl w)
 clear hl
 go_enter Tryd.func40,Tryd.ntmps40
 go_wp2_with fail
 go_loopw [3,8] (fun a3 a8 wr=>∃ j:Nat,a3=.int .u64 ((2 ^ j-1:Nat):Int)/\a8=.int .i64 j/\j<=l.length/\Hid (Ext w wr)) (fun _ a8 _=>l.length-(intOf a8).toNat)
 case atStart=>exact⟨0,rfl,rfl,by omega,hx0⟩
 case round =>
  clear hx0
  obtain⟨j,rfl,rfl,hj,hx⟩:=hrel
  by_cases hjl:j<l.length
  · have dj:decide ((j:Int)<(l.length:Int))=true:=by rw [decide_eq_true_eq];omega
    obtain⟨o,ho⟩:∃ o,l[j]?=some o:=⟨_,List.getElem?_eq_getElem hjl⟩
    obtain⟨b,rfl,hb,c0,c1,c2,c3,c4⟩:=op_at (op_ext hlh.out hx.out) ho
    have d1:((o.te:Int) != -1)=true:=by simp
    have hw:=Lib.hid (with_first (j:=j) (by omega))
    have hlt:=pow_lt_64 (j:=j) (by omega)
    have hx1:=Lib.hid (hx.out.alloc (.cells #[.int .i64 o.fr,.int .i64 o.te,.bool o.wr,.int .i64 o.val,.int .i64 o.th] 28))
    generalize hS:2 ^ j-1=S at *
    go_wp2_with fail
    refine (with_p S hlt j _).mono ?_
    rintro e w2 ⟨rfl,rfl⟩
    rw [hw.out]
    go_wp2_with fail
    refine⟨⟨j+1,by first | rfl | go_num,by first | rfl | go_num,by omega,hx1⟩,?_⟩
    simp [intOf];omega
  · have dj:decide ((j:Int)<(l.length:Int))=false:=by rw [decide_eq_false_iff_not];omega
    obtain rfl:j=l.length:=by omega
    go_wp2_with fail
    first | exact⟨rfl,hx.out⟩ | (go_ret;exact⟨rfl,hx.out⟩)
structure LastA (w:World) (b:Nat) (l:List SOp):Prop where
 cs:∃ cs,Blk w b (.cells cs 145)/\cs.size=40/\∀ t p,t<8->lastOf l t=some p->∀ k,k<5->cs[t*5+k]?=(opVals p)[k]?
theorem LastA.ext {w W:World}{b:Nat}{l:List SOp}(h:LastA w b l)(hx:Ext w W):LastA W b l:=by
 obtain⟨cs,h1,h2⟩:=h.cs
 exact⟨cs,h1.ext hx,h2⟩
theorem LastA.at_ {w:World}{b:Nat}{l:List SOp}(h:LastA w b l){t:Nat}(ht:t<8){p:SOp}(hp:lastOf l t=some p) :
  w.cell? ⟨b,t*5,none⟩=some (.int .i64 p.fr)/\w.cell? ⟨b,t*5+1,none⟩=some (.int .i64 p.te)/\w.cell? ⟨b,t*5+2,none⟩=some (.bool p.wr)/\w.cell? ⟨b,t*5+3,none⟩=some (.int .i64 p.val)/\w.cell? ⟨b,t*5+4,none⟩=some (.int .i64 p.th):=by
 obtain⟨cs,h1,h2,h3⟩:=h.cs
 have e:∀ k,k<5->w.cell? ⟨b,t*5+k,none⟩=(opVals p)[k]?:=fun k hk=>by
  rw [h1.cells (t*5+k)]
  exact h3 t p ht hp k hk
 exact⟨e 0 (by omega),e 1 (by omega),e 2 (by omega),e 3 (by omega),e 4 (by omega)⟩
theorem LastA.room {w:World}{b:Nat}{l:List SOp}(h:LastA w b l){i:Nat}(hi:i<40):(∃ v,w.cell? ⟨b,i,none⟩=some v)/\w.frozen? ⟨b,i,none⟩=false:=by
 obtain⟨cs,h1,h2,_⟩:=h.cs
 refine⟨⟨cs[i]'(by omega),?_⟩,frozen_of_heap h1 i⟩
 rw [h1.cells i,Array.getElem?_eq_getElem (by omega)]
theorem arr5_same {cs:Array Value}(h:cs.size=40){t:Nat}(ht:t<8)(a0 a1 a2 a3 a4:Value)(k:Nat)(hk:k<5) :
  (((((cs.setIfInBounds (t*5) a0).setIfInBounds (t*5+1) a1).setIfInBounds (t*5+2) a2).setIfInBounds (t*5+3) a3).setIfInBounds (t*5+4) a4)[t*5+k]?=[a0,a1,a2,a3,a4][k]?:=by
 have:k=0∨k=1∨k=2∨k=3∨k=4:=by omega
 rcases this with rfl | rfl | rfl | rfl | rfl
 · rw [Array.getElem?_setIfInBounds_ne (by omega),Array.getElem?_setIfInBounds_ne (by omega),Array.getElem?_setIfInBounds_ne (by omega),Array.getElem?_setIfInBounds_ne (by omega),Nat.add_zero,Array.getElem?_setIfInBounds_self_of_lt (by omega)]
   rfl
 · rw [Array.getElem?_setIfInBounds_ne (by omega),Array.getElem?_setIfInBounds_ne (by omega),Array.getElem?_setIfInBounds_ne (by omega),Array.getElem?_setIfInBounds_self_of_lt (by simp;omega)]
   rfl
 · rw [Array.getElem?_setIfInBounds_ne (by omega),Array.getElem?_setIfInBounds_ne (by omega),Array.getElem?_setIfInBounds_self_of_lt (by simp;omega)]
   rfl
 · rw [Array.getElem?_setIfInBounds_ne (by omega),Array.getElem?_setIfInBounds_self_of_lt (by simp;omega)]
   rfl
 · rw [Array.getElem?_setIfInBounds_self_of_lt (by simp;omega)]
   rfl
theorem arr5_other {cs:Array Value}{t s:Nat}(hs:s≠t)(a0 a1 a2 a3 a4:Value)(k:Nat)(hk:k<5) :
  (((((cs.setIfInBounds (t*5) a0).setIfInBounds (t*5+1) a1).setIfInBounds (t*5+2) a2).setIfInBounds (t*5+3) a3).setIfInBounds (t*5+4) a4)[s*5+k]?=cs[s*5+k]?:=by
 rw [Array.getElem?_setIfInBounds_ne (by omega),Array.getElem?_setIfInBounds_ne (by omega),Array.getElem?_setIfInBounds_ne (by omega),Array.getElem?_setIfInBounds_ne (by omega),Array.getElem?_setIfInBounds_ne (by omega)]
theorem LastA.put {w:World}{b:Nat}{l:List SOp}(h:LastA w b l)(o:SOp)(ho:o.th<8) :
  LastA (((((w.setCell ⟨b,o.th*5,none⟩ (.int .i64 o.fr)).setCell ⟨b,o.th*5+1,none⟩ (.int .i64 o.te)).setCell ⟨b,o.th*5+2,none⟩ (.bool o.wr)).setCell ⟨b,o.th*5+3,none⟩ (.int .i64 o.val)).setCell ⟨b,o.th*5+4,none⟩ (.int .i64 o.th)) b (l++[o]):=by
 obtain⟨cs,h1,h2,h3⟩:=h.cs
 have q0:=heap_setCell (i:=o.th*5) h1 (.int .i64 o.fr)
 have q1:=heap_setCell (i:=o.th*5+1) q0 (.int .i64 o.te)
 have q2:=heap_setCell (i:=o.th*5+2) q1 (.bool o.wr)
 have q3:=heap_setCell (i:=o.th*5+3) q2 (.int .i64 o.val)
 have q4:=heap_setCell (i:=o.th*5+4) q3 (.int .i64 o.th)
 clear q0 q1 q2 q3
 refine⟨⟨_,q4,?_,fun t p ht hp k hk=>?_⟩⟩
 · rw [Array.size_setIfInBounds,Array.size_setIfInBounds,Array.size_setIfInBounds,Array.size_setIfInBounds,Array.size_setIfInBounds,h2]
 · clear q4
   rw [lastOf_snoc] at hp
   by_cases e:o.th=t
   · rw [if_pos e] at hp
     have hp:o=p:=Option.some.inj hp
     rw [<- hp,<- e]
     exact arr5_same h2 ho _ _ _ _ _ k hk
   · rw [if_neg e] at hp
     rw [arr5_other (Ne.symm e) _ _ _ _ _ k hk]
     exact h3 t p ht hp k hk
theorem LastA.other {w:World}{b b' i:Nat}{l:List SOp}(h:LastA w b l)(hb:b'≠b)(v:Value):LastA (w.setCell ⟨b',i,none⟩ v) b l:=by
 obtain⟨cs,h1,h2⟩:=h.cs
 exact⟨cs,h1.set5 (Ne.symm hb) v,h2⟩
def begA (l:List SOp):Array Value:=#[.bool (lastOf l 0).isSome,.bool (lastOf l 1).isSome,.bool (lastOf l 2).isSome,.bool (lastOf l 3).isSome,.bool (lastOf l 4).isSome,.bool (lastOf l 5).isSome,.bool (lastOf l 6).isSome,.bool (lastOf l 7).isSome]
theorem begA_at (l:List SOp){t:Nat}(ht:t<8):(begA l)[t]?=some (.bool (lastOf l t).isSome):=by
 have:t=0∨t=1∨t=2∨t=3∨t=4∨t=5∨t=6∨t=7:=by omega
 rcases this with rfl | rfl | rfl | rfl | rfl | rfl | rfl | rfl <;> rfl
theorem begA_put (l:List SOp)(o:SOp)(ho:o.th<8):(begA l).setIfInBounds o.th (.bool true)=begA (l++[o]):=by
 have e:∀ t,(lastOf (l++[o]) t).isSome=if o.th=t then true else (lastOf l t).isSome:=fun t=>by
  rw [lastOf_snoc];split <;> rfl
 unfold begA
 simp only [e]
 have:o.th=0∨o.th=1∨o.th=2∨o.th=3∨o.th=4∨o.th=5∨o.th=6∨o.th=7:=by omega
 rcases this with h | h | h | h | h | h | h | h <;> rw [h] <;> rfl
theorem take_snoc {l:List SOp}{j:Nat}{o:SOp}(h:l[j]?=some o):l.take (j+1)=l.take j++[o]:=by
 rw [List.take_add_one,h]
 rfl
set_option maxRecDepth 100000 in
set_option maxHeartbeats 4000000 in
theorem hfine_p (A:Option Addr)(c:Nat)(l:List SOp)(w:World)(hl:OpsV w A l)(hn:l.length<=20)(hF:FineL l) :
  Calls Tryd.prog 62 #[.slice A l.length c] w fun e w'=>e=.returned (.bool true)/\Ext w w':=by
 have hlh:=Lib.hid hl
 have hFh:=Lib.hid hF
 have k3:=(Blk.new w (.cells #[.int .i64 0,.int .i64 0,.bool false,.int .i64 0,.int .i64 0,.int .i64 0,.int .i64 0,.bool false,.int .i64 0,.int .i64 0,.int .i64 0,.int .i64 0,.bool false,.int .i64 0,.int .i64 0,.int .i64 0,.int .i64 0,.bool false,.int .i64 0,.int .i64 0,.int .i64 0,.int .i64 0,.bool false,.int .i64 0,.int .i64 0,.int .i64 0,.int .i64 0,.bool false,.int .i64 0,.int .i64 0,.int .i64 0,.int .i64 0,.bool false,.int .i64 0,.int .i64 0,.int .i64 0,.int .i64 0,.bool false,.int .i64 0,.int .i64 0] 145)).alloc (.cells #[.bool false,.bool false,.bool false,.bool false,.bool false,.bool false,.bool false,.bool false] 146)
 have k4:=Blk.new (w.alloc (.cells #[.int .i64 0,.int .i64 0,.bool false,.int .i64 0,.int .i64 0,.int .i64 0,.int .i64 0,.bool false,.int .i64 0,.int .i64 0,.int .i64 0,.int .i64 0,.bool false,.int .i64 0,.int .i64 0,.int .i64 0,.int .i64 0,.bool false,.int .i64 0,.int .i64 0,.int .i64 0,.int .i64 0,.bool false,.int .i64 0,.int .i64 0,.int .i64 0,.int .i64 0,.bool false,.int .i64 0,.int .i64 0,.int .i64 0,.int .i64 0,.bool false,.int .i64 0,.int .i64 0,.int .i64 0,.int .i64 0,.bool false,.int .i64 0,.int .i64 0] 145)) (.cells #[.bool false,.bool false,.bool false,.bool false,.bool false,.bool false,.bool false,.bool false] 146)
 rw [World.size_alloc] at k4
 have hx0:=((Ext.refl w).alloc (.cells #[.int .i64 0,.int .i64 0,.bool false,.int .i64 0,.int .i64 0,.int .i64 0,.int .i64 0,.bool false,.int .i64 0,.int .i64 0,.int .i64 0,.int .i64 0,.bool false,.int .i64 0,.int .i64 0,.int .i64 0,.int .i64 0,.bool false,.int .i64 0,.int .i64 0,.int .i64 0,.int .i64 0,.bool false,.int .i64 0,.int .i64 0,.int .i64 0,.int .i64 0,.bool false,.int .i64 0,.int .i64 0,.int .i64 0,.int .i64 0,.bool false,.int .i64 0,.int .i64 0,.int .i64 0,.int .i64 0,.bool false,.int .i64 0,.int .i64 0] 145)).alloc (.cells #[.bool false,.bool false,.bool false,.bool false,.bool false,.bool false,.bool false,.bool false] 146)
 have k3h:=Lib.hid k3
 have k4h:=Lib.hid k4
 have hxh:=Lib.hid hx0
 clear hl hF k3 k4 hx0
 go_enter Tryd.func62,Tryd.ntmps62
 go_wp2_with fail
 generalize World.alloc (World.alloc w _) _=W0 at *
 have hge:=Lib.hid (show w.heap.size<=w.heap.size/\w.heap.size<=w.heap.size+1/\w.heap.size≠w.heap.size+1 by omega)
 obtain⟨b4,hb4⟩:∃ b,b=w.heap.size+1:=⟨_,rfl⟩
 obtain⟨b3,hb3⟩:∃ b,b=w.heap.size:=⟨_,rfl⟩
 have hge2:=Lib.hid (show w.heap.size<=b3/\w.heap.size<=b4/\b3≠b4 by omega)
 rw [<- hb4] at k4h ⊢
 rw [<- hb3] at k3h ⊢
 clear hb4 hb3 hge
 have hL0:Hid (LastA W0 b3 []/\Blk W0 b4 (.cells (begA []) 146)):=Lib.hid ⟨⟨⟨_,k3h.out,rfl,fun t p _ h=>(nomatch h)⟩⟩,k4h.out⟩
 clear k3h k4h
 go_loopw [5,10] (fun a5 a10 wr=>∃ j:Nat,a5=.int .i64 (prevFr (l.take j))/\a10=.int .i64 j/\j<=l.length/\Hid (LastA wr b3 (l.take j)/\Blk wr b4 (.cells (begA (l.take j)) 146)/\Ext w wr)) (fun _ a10 _=>l.length-(intOf a10).toNat)
 case atStart=>exact⟨0,rfl,rfl,by omega,hL0.out.1,hL0.out.2,hxh.out⟩
 case round =>
  clear hxh hL0
  obtain⟨j,rfl,rfl,hj,hR⟩:=hrel
  obtain⟨hL,k4,hx⟩:=hR.out
  clear hR
  by_cases hjl:j<l.length
  · have dj:decide ((j:Int)<(l.length:Int))=true:=by rw [decide_eq_true_eq];omega
    obtain⟨o,ho⟩:∃ o,l[j]?=some o:=⟨_,List.getElem?_eq_getElem hjl⟩
    obtain⟨b,rfl,hb,c0,c1,c2,c3,c4⟩:=op_at (op_ext hlh.out hx) ho
    obtain⟨f1,f2,f3,f4⟩:=hFh.out j o ho
    have htk:=Lib.hid (take_snoc ho)
    have hfr:=Lib.hid (show prevFr (l.take (j+1))=o.fr by rw [take_snoc ho,prevFr_snoc])
    have d1:((o.te:Int) != -1)=true:=by simp
    have d2:decide ((o.fr:Int)<(prevFr (l.take j):Int))=false:=by rw [decide_eq_false_iff_not];omega
    have d2n:decide (o.fr<prevFr (l.take j))=false:=by rw [decide_eq_false_iff_not];omega
    have d3:decide ((o.te:Int)<(o.fr:Int))=false:=by rw [decide_eq_false_iff_not];omega
    have d3n:decide (o.te<o.fr)=false:=by rw [decide_eq_false_iff_not];omega
    have d4:decide ((o.th:Int)<0)=false:=by rw [decide_eq_false_iff_not];omega
    have d5:decide ((8:Int)<=(o.th:Int))=false:=by rw [decide_eq_false_iff_not];omega
    have f4h:=Lib.hid f4
    generalize hM:l.take j=M at *
    generalize hP:prevFr M=P at *
    go_upto_region 12 with fail
    have hL1:=Lib.hid (hL.ext ((Ext.refl wr).alloc (.cells #[.int .i64 o.fr,.int .i64 o.te,.bool o.wr,.int .i64 o.val,.int .i64 o.th] 28)))
    have k41:=Lib.hid (k4.alloc (.cells #[.int .i64 o.fr,.int .i64 o.te,.bool o.wr,.int .i64 o.val,.int .i64 o.th] 28))
    have k7:=Blk.new wr (.cells #[.int .i64 o.fr,.int .i64 o.te,.bool o.wr,.int .i64 o.val,.int .i64 o.th] 28)
    have hx1:=Lib.hid (hx.alloc (.cells #[.int .i64 o.fr,.int .i64 o.te,.bool o.wr,.int .i64 o.val,.int .i64 o.th] 28))
    have hne7:=Lib.hid (show wr.heap.size≠b4/\wr.heap.size≠b3 by have:=k4.lt;obtain⟨cs,q,_⟩:=hL.cs;have:=q.lt;omega)
    clear hL k4 hx c0 c1 c2 c3 c4 d1 d2 d2n d3 d3n d5 f4 f1 f3 dj
    generalize World.alloc wr _=W1 at *
    generalize hb7:wr.heap.size=b7 at *
    clear hb7
    have k7h:=Lib.hid k7
    have ht0:(0:Int)<=(o.th:Int):=by omega
    have ht8:(o.th:Int)<8:=by omega
    have c74:=k7.cells 4
    have c4t:=(k41.out.cells o.th).trans (begA_at M f2)
    clear k7
    go_cut [52] (fun s52 wx=>s52=.bool false/\Hid (Ext W1 wx))
    case first =>
     cases hbg:(lastOf M o.th).isSome with
     | false =>
       rw [hbg] at c4t
       go_quiet (fail)
       have hf:=Lib.hid (Drew.mk' W1 nq).ext
       go_wp2_with fail
       go_meet
       exact⟨rfl,hf⟩
     | true =>
       rw [hbg] at c4t
       obtain⟨p,hp⟩:=Option.isSome_iff_exists.1 hbg
       obtain⟨g0,g1,g2,g3,g4⟩:=hL1.out.at_ f2 hp
       have c70:=k7h.out.cells 0
       have c71:=k7h.out.cells 1
       have c72:=k7h.out.cells 2
       have c73:=k7h.out.cells 3
       have hah:isAhead p o=true:=by
        have:=f4h.out p hp
        unfold isAhead
        rw [decide_eq_true_eq]
        exact this
       have h7:=k7h.out.lt
       have h4:=k41.out.lt
       have h3:b3<W1.heap.size:=by
        obtain⟨cs,q,_⟩:=hL1.out.cs
        exact q.lt
       have hSx:Hid (∀ W,Ext W1 W->W.cell? ⟨b7,4,none⟩=some (.int .i64 o.th)/\W.cell? ⟨b4,o.th,none⟩=some (.bool true)/\W.cell? ⟨b3,o.th*5,none⟩=some (.int .i64 p.fr)/\W.cell? ⟨b3,o.th*5+1,none⟩=some (.int .i64 p.te)/\W.cell? ⟨b3,o.th*5+2,none⟩=some (.bool p.wr)/\W.cell? ⟨b3,o.th*5+3,none⟩=some (.int .i64 p.val)/\W.cell? ⟨b3,o.th*5+4,none⟩=some (.int .i64 p.th)/\W.cell? ⟨b7,0,none⟩=some (.int .i64 o.fr)/\W.cell? ⟨b7,1,none⟩=some (.int .i64 o.te)/\W.cell? ⟨b7,2,none⟩=some (.bool o.wr)/\W.cell? ⟨b7,3,none⟩=some (.int .i64 o.val)):=Lib.hid fun W h=>⟨(h.cell (p:=⟨b7,_,none⟩) h7).trans c74,(h.cell (p:=⟨b4,_,none⟩) h4).trans c4t,(h.cell (p:=⟨b3,_,none⟩) h3).trans g0,(h.cell (p:=⟨b3,_,none⟩) h3).trans g1,(h.cell (p:=⟨b3,_,none⟩) h3).trans g2,(h.cell (p:=⟨b3,_,none⟩) h3).trans g3,(h.cell (p:=⟨b3,_,none⟩) h3).trans g4,(h.cell (p:=⟨b7,_,none⟩) h7).trans c70,(h.cell (p:=⟨b7,_,none⟩) h7).trans c71,(h.cell (p:=⟨b7,_,none⟩) h7).trans c72,(h.cell (p:=⟨b7,_,none⟩) h7).trans c73⟩
       have hE0:=(Ext.refl W1).drew
       have hS:=hSx.out _ hE0
       refine wp_region_held_drew (S:=fun w'=>w'.cell? ⟨b7,4,none⟩=some (.int .i64 o.th)/\w'.cell? ⟨b4,o.th,none⟩=some (.bool true)/\w'.cell? ⟨b3,o.th*5,none⟩=some (.int .i64 p.fr)/\w'.cell? ⟨b3,o.th*5+1,none⟩=some (.int .i64 p.te)/\w'.cell? ⟨b3,o.th*5+2,none⟩=some (.bool p.wr)/\w'.cell? ⟨b3,o.th*5+3,none⟩=some (.int .i64 p.val)/\w'.cell? ⟨b3,o.th*5+4,none⟩=some (.int .i64 p.th)/\w'.cell? ⟨b7,0,none⟩=some (.int .i64 o.fr)/\w'.cell? ⟨b7,1,none⟩=some (.int .i64 o.te)/\w'.cell? ⟨b7,2,none⟩=some (.bool o.wr)/\w'.cell? ⟨b7,3,none⟩=some (.int .i64 o.val)) rfl hS (fun hHeld=>?_)
       clear c74 c4t g0 g1 g2 g3 g4 c70 c71 c72 c73
       refine tkb 0 ?_
       iterate 10
        refine tkn (v:=?_) rfl (by kernel_rfl) (fun _ _ _ h=>h) (by assumption) ?_ ?_
        rotate_left
        · (intro w hSw;(try dsimp only at hSw);go_simp;try with_reducible rfl)
        try simp only [put_pack]
       refine tke ?_
       refine wpAnyH_ready (rs:=[10]) (by kernel_rfl) (by simp) ?_
       refine AllReadyH.cons rfl (fun K hKK=>?_) (AllReadyH.nil)
       go_simp
       refine (ahead_p p o _).mono ?_
       rintro e wx ⟨rfl,hxa⟩
       rw [hah]
       have hE1:=hE0.trans hxa
       have hS1:=hSx.out _ hE1
       refine hKK.out _ _ hS1 (fun hHeld=>?_)
       clear hKK K
       try dsimp only
       refine tk 11 (v:=?_) rfl (by kernel_rfl) (fun _ _ _ h=>h) (by assumption) ?_ ?_
       rotate_left
       · (intro w hSw;(try dsimp only at hSw);go_simp;try with_reducible rfl)
       try simp only [put_pack]
       refine tk 12 (v:=?_) rfl (by kernel_rfl) (fun _ _ _ h=>h) (by assumption) ?_ ?_
       rotate_left
       · (intro w hSw;(try dsimp only at hSw);go_simp;try with_reducible rfl)
       try simp only [put_pack]
       refine wpAnyH_done (by kernel_rfl) ?_ _
       go_simp
       have hf:=Lib.hid hE1
       clear hS hS1 hE0 hE1 hxa
       go_wp2_with fail
       go_meet
       exact⟨rfl,hf⟩
    case rest =>
     obtain⟨rfl,hxc⟩:=hcut
     have hL2:=hL1.out.ext hxc.out
     have k42:=k41.out.ext hxc.out
     have k72:=k7h.out.ext hxc.out
     have hx2:=hx1.out.trans hxc.out
     clear hL1 k41 k7h hx1 hxc c74 c4t
     have c70:=k72.cells 0
     have c71:=k72.cells 1
     have c72:=k72.cells 2
     have c73:=k72.cells 3
     have c74:=k72.cells 4
     have c4t:=(k42.cells o.th).trans (begA_at M f2)
     have f4t:=frozen_of_heap k42 o.th
     obtain⟨⟨v0,r0⟩,z0⟩:=hL2.room (i:=o.th*5) (by omega)
     obtain⟨⟨v1,r1⟩,z1⟩:=hL2.room (i:=o.th*5+1) (by omega)
     obtain⟨⟨v2,r2⟩,z2⟩:=hL2.room (i:=o.th*5+2) (by omega)
     obtain⟨⟨v3,r3⟩,z3⟩:=hL2.room (i:=o.th*5+3) (by omega)
     obtain⟨⟨v4,r4⟩,z4⟩:=hL2.room (i:=o.th*5+4) (by omega)
     go_upto_region 14 with fail
     have k7d:=k72.drew
     have hS:(World.drew wc).cell? ⟨b7,0,none⟩=some (.int .i64 o.fr)/\(World.drew wc).cell? ⟨b7,1,none⟩=some (.int .i64 o.te)/\(World.drew wc).cell? ⟨b7,2,none⟩=some (.bool o.wr)/\(World.drew wc).cell? ⟨b7,3,none⟩=some (.int .i64 o.val)/\(World.drew wc).cell? ⟨b7,4,none⟩=some (.int .i64 o.th):=⟨c70,c71,c72,c73,c74⟩
     refine wp_region_held_drew (S:=fun w'=>w'.cell? ⟨b7,0,none⟩=some (.int .i64 o.fr)/\w'.cell? ⟨b7,1,none⟩=some (.int .i64 o.te)/\w'.cell? ⟨b7,2,none⟩=some (.bool o.wr)/\w'.cell? ⟨b7,3,none⟩=some (.int .i64 o.val)/\w'.cell? ⟨b7,4,none⟩=some (.int .i64 o.th)) rfl hS (fun hHeld=>?_)
     clear c70 c71 c72 c73 c74
     refine tkb 0 ?_
     iterate 6
      refine tkn (v:=?_) rfl (by kernel_rfl) (fun _ _ _ h=>h) (by assumption) ?_ ?_
      rotate_left
      · (intro w hSw;(try dsimp only at hSw);go_simp;try with_reducible rfl)
      try simp only [put_pack]
     refine tke ?_
     have hLd:=hL2.ext ((Ext.refl wc).drew)
     have k4d:=k42.drew
     have hxd:=hx2.drew
     have hn7:=hne7.out
     have h34:b3≠b4:=hge2.out.2.2
     clear hL2 k42 hx2 r0 r1 r2 r3 r4 z0 z1 z2 z3 z4 c4t f4t
     generalize World.drew wc=Wd at *
     have c4d:=(k4d.cells o.th).trans (begA_at M f2)
     have f4d:=frozen_of_heap k4d o.th
     have hSb:Hid (∀ W,Blk W b7 (.cells #[.int .i64 o.fr,.int .i64 o.te,.bool o.wr,.int .i64 o.val,.int .i64 o.th] 28)->W.cell? ⟨b7,0,none⟩=some (.int .i64 o.fr)/\W.cell? ⟨b7,1,none⟩=some (.int .i64 o.te)/\W.cell? ⟨b7,2,none⟩=some (.bool o.wr)/\W.cell? ⟨b7,3,none⟩=some (.int .i64 o.val)/\W.cell? ⟨b7,4,none⟩=some (.int .i64 o.th)):=Lib.hid fun W h=>⟨h.cells 0,h.cells 1,h.cells 2,h.cells 3,h.cells 4⟩
     · refine wpAnyH_ready (rs:=[6]) (by kernel_rfl) (by simp) ?_
       refine AllReadyH.cons rfl (fun K hKK=>?_) (AllReadyH.nil)
       go_simp
       have hL5:=hLd.other (b':=b4) (i:=o.th) (Ne.symm h34) (.bool true)
       have k45:=heap_setCell (i:=o.th) k4d (.bool true)
       rw [begA_put M o f2] at k45
       have k75:=k7d.set5 (c:=b4) (i:=o.th) hn7.1 (.bool true)
       have hx5:=hxd.setCell (p:=⟨b4,o.th,none⟩) hge2.out.2.1 (.bool true)
       refine hKK.out _ _ (hSb.out _ k75) (fun hHeld=>?_)
       clear hKK K hLd k4d hxd c4d f4d k7d hS
       generalize World.setCell Wd _ _=W5 at *
       obtain⟨⟨v0,r0⟩,z0⟩:=hL5.room (i:=o.th*5) (by omega)
       obtain⟨⟨v1,r1⟩,z1⟩:=hL5.room (i:=o.th*5+1) (by omega)
       obtain⟨⟨v2,r2⟩,z2⟩:=hL5.room (i:=o.th*5+2) (by omega)
       obtain⟨⟨v3,r3⟩,z3⟩:=hL5.room (i:=o.th*5+3) (by omega)
       obtain⟨⟨v4,r4⟩,z4⟩:=hL5.room (i:=o.th*5+4) (by omega)
       try dsimp only
       refine tk 7 (v:=?_) rfl (by kernel_rfl) (fun _ _ _ h=>h) (by assumption) ?_ ?_
       rotate_left
       · (intro w hSw;(try dsimp only at hSw);go_simp;try with_reducible rfl)
       try simp only [put_pack]
       refine wpAnyH_ready (rs:=[8]) (by kernel_rfl) (by simp) ?_
       refine AllReadyH.cons rfl (fun K hKK=>?_) (AllReadyH.nil)
       go_simp
       have k76:=(((((k75.set5 (c:=b3) (i:=o.th*5) hn7.2 (.int .i64 o.fr)).set5 (c:=b3) (i:=o.th*5+1) hn7.2 (.int .i64 o.te)).set5 (c:=b3) (i:=o.th*5+2) hn7.2 (.bool o.wr)).set5 (c:=b3) (i:=o.th*5+3) hn7.2 (.int .i64 o.val)).set5 (c:=b3) (i:=o.th*5+4) hn7.2 (.int .i64 o.th))
       have k46:Blk (((((W5.setCell ⟨b3,o.th*5,none⟩ (.int .i64 o.fr)).setCell ⟨b3,o.th*5+1,none⟩ (.int .i64 o.te)).setCell ⟨b3,o.th*5+2,none⟩ (.bool o.wr)).setCell ⟨b3,o.th*5+3,none⟩ (.int .i64 o.val)).setCell ⟨b3,o.th*5+4,none⟩ (.int .i64 o.th)) b4 (.cells (begA (M++[o])) 146):=((((((show Blk W5 b4 (.cells (begA (M++[o])) 146) from k45).set5 (c:=b3) (i:=o.th*5) (Ne.symm h34) (.int .i64 o.fr)).set5 (c:=b3) (i:=o.th*5+1) (Ne.symm h34) (.int .i64 o.te)).set5 (c:=b3) (i:=o.th*5+2) (Ne.symm h34) (.bool o.wr)).set5 (c:=b3) (i:=o.th*5+3) (Ne.symm h34) (.int .i64 o.val)).set5 (c:=b3) (i:=o.th*5+4) (Ne.symm h34) (.int .i64 o.th))
       have hL6:=hL5.put o f2
       have hx6:=(((((hx5.setCell (p:=⟨b3,o.th*5,none⟩) hge2.out.1 (.int .i64 o.fr)).setCell (p:=⟨b3,o.th*5+1,none⟩) hge2.out.1 (.int .i64 o.te)).setCell (p:=⟨b3,o.th*5+2,none⟩) hge2.out.1 (.bool o.wr)).setCell (p:=⟨b3,o.th*5+3,none⟩) hge2.out.1 (.int .i64 o.val)).setCell (p:=⟨b3,o.th*5+4,none⟩) hge2.out.1 (.int .i64 o.th))
       have hfin:=Lib.hid (And.intro hL6 (And.intro k46 hx6))
       refine hKK.out _ _ (hSb.out _ k76) (fun hHeld=>?_)
       clear hKK K r0 r1 r2 r3 r4 z0 z1 z2 z3 z4 hL5 k45 k75 hx5 k76 k46 hL6 hx6
       try dsimp only
       refine wpAnyH_done (by kernel_rfl) ?_ _
       go_simp
       go_wp2_with fail
       refine⟨⟨j+1,by rw [hfr.out],by first | rfl | go_num,by omega,by rw [htk.out];exact hfin⟩,?_⟩
       simp [intOf];omega
  · have dj:decide ((j:Int)<(l.length:Int))=false:=by rw [decide_eq_false_iff_not];omega
    have hxf:=Lib.hid hx
    clear hL k4 hx
    go_wp2_with fail
    first | exact⟨rfl,hxf.out⟩ | (go_ret;exact⟨rfl,hxf.out⟩)
theorem all_not {l:List SOp}{n j:Nat}{o:SOp}(h:l[j]?=some o)(ho:opOk n o=false):l.all (opOk n)=false:=by
 rw [List.all_eq_false]
 exact⟨o,List.mem_of_getElem? h,by simp [ho]⟩
set_option maxRecDepth 100000 in
set_option maxHeartbeats 4000000 in
theorem sfine1_p (A:Option Addr)(c:Nat)(l:List SOp)(w:World)(hl:OpsV w A l)(hn:l.length<=20)(hF:FineL l) :
  Calls Tryd.prog 39 #[.slice A l.length c,.int .i64 1] w fun e w'=>e=.returned (.bool (l.all (opOk 1)))/\Ext w w':=by
 have hfp:=Lib.hid (hfine_p A c l w hl hn hF)
 have hlh:=Lib.hid hl
 have d1:decide ((20:Int)<(l.length:Int))=false:=by rw [decide_eq_false_iff_not];omega
 have d1n:decide (20<l.length)=false:=by rw [decide_eq_false_iff_not];omega
 clear hl hF
 go_enter Tryd.func39,Tryd.ntmps39
 go_wp2_with fail
 refine hfp.out.mono ?_
 rintro e w1 ⟨rfl,hx1⟩
 have hx0:=Lib.hid hx1
 clear hx1 hfp d1 d1n
 go_wp2_with fail
 go_loopw [26] (fun a26 wr=>∃ j:Nat,a26=.int .i64 j/\j<=l.length/\(l.take j).all (opOk 1)=true/\Hid (Ext w wr)) (fun a26 _=>l.length-(intOf a26).toNat)
 case atStart=>exact⟨0,rfl,by omega,rfl,hx0⟩
 case round =>
  clear hx0
  obtain⟨j,rfl,hj,hall,hx⟩:=hrel
  have hallh:=Lib.hid hall
  clear hall
  by_cases hjl:j<l.length
  · have dj:decide ((j:Int)<(l.length:Int))=true:=by rw [decide_eq_true_eq];omega
    obtain⟨o,ho⟩:∃ o,l[j]?=some o:=⟨_,List.getElem?_eq_getElem hjl⟩
    obtain⟨b,rfl,hb,c0,c1,c2,c3,c4⟩:=op_at (op_ext hlh.out hx.out) ho
    have hoh:=Lib.hid ho
    have htk:=Lib.hid (take_snoc ho)
    have hx2:=Lib.hid (hx.out.alloc (.cells #[.int .i64 o.fr,.int .i64 o.te,.bool o.wr,.int .i64 o.val,.int .i64 o.th] 28))
    have d2:decide ((o.th:Int)<0)=false:=by rw [decide_eq_false_iff_not];omega
    have d3:decide ((o.val:Int)<0)=false:=by rw [decide_eq_false_iff_not];omega
    clear ho hx
    by_cases ht:o.th<1
    rotate_left
    · have d4:decide ((1:Int)<=(o.th:Int))=true:=by rw [decide_eq_true_eq];omega
      have hno:=Lib.hid (all_not (n:=1) hoh.out (by unfold opOk;rw [decide_eq_false ht];rfl))
      cases hw:o.wr with
      | true =>
        rw [hw] at c2
        rw [hw] at hx2
        clear hw
        go_wp2_with fail
        first | exact⟨by rw [hno.out];rfl,hx2.out⟩ | (go_ret;exact⟨by rw [hno.out];rfl,hx2.out⟩)
      | false =>
        rw [hw] at c2
        rw [hw] at hx2
        clear hw
        go_wp2_with fail
        first | exact⟨by rw [hno.out];rfl,hx2.out⟩ | (go_ret;exact⟨by rw [hno.out];rfl,hx2.out⟩)
    have d4:decide ((1:Int)<=(o.th:Int))=false:=by rw [decide_eq_false_iff_not];omega
    cases hw:o.wr with
    | true =>
      by_cases hv:o.val<=3
      · have d5:decide ((3:Int)<(o.val:Int))=false:=by rw [decide_eq_false_iff_not];omega
        have hall2:Hid ((l.take (j+1)).all (opOk 1)=true):=Lib.hid (by
         rw [htk.out,List.all_append,hallh.out]
         simp [opOk,hw,ht,hv])
        rw [hw] at c2 hx2
        clear hw hv
        go_wp2_with fail
        refine⟨⟨j+1,by first | rfl | go_num,by omega,hall2.out,hx2⟩,?_⟩
        simp [intOf];omega
      · have d5:decide ((3:Int)<(o.val:Int))=true:=by rw [decide_eq_true_eq];omega
        have hno:=Lib.hid (all_not (n:=1) hoh.out (by simp [opOk,hw,ht];omega))
        rw [hw] at c2 hx2
        clear hw hv
        go_wp2_with fail
        first | exact⟨by rw [hno.out];rfl,hx2.out⟩ | (go_ret;exact⟨by rw [hno.out];rfl,hx2.out⟩)
    | false =>
      by_cases hv:o.val<=3
      · have d5:decide ((3:Int)<(o.val:Int))=false:=by rw [decide_eq_false_iff_not];omega
        have hall2:Hid ((l.take (j+1)).all (opOk 1)=true):=Lib.hid (by
         rw [htk.out,List.all_append,hallh.out]
         simp [opOk,hw,ht,hv])
        rw [hw] at c2 hx2
        clear hw hv
        go_wp2_with fail
        refine⟨⟨j+1,by first | rfl | go_num,by omega,hall2.out,hx2⟩,?_⟩
        simp [intOf];omega
      · have d5:decide ((3:Int)<(o.val:Int))=true:=by rw [decide_eq_true_eq];omega
        have hno:=Lib.hid (all_not (n:=1) hoh.out (by simp [opOk,hw,ht];omega))
        rw [hw] at c2 hx2
        clear hw hv
        go_wp2_with fail
        first | exact⟨by rw [hno.out];rfl,hx2.out⟩ | (go_ret;exact⟨by rw [hno.out];rfl,hx2.out⟩)
  · have dj:decide ((j:Int)<(l.length:Int))=false:=by rw [decide_eq_false_iff_not];omega
    obtain rfl:j=l.length:=by omega
    have ha:=hallh.out
    rw [List.take_length] at ha
    have hah:=Lib.hid ha
    clear ha
    go_wp2_with fail
    first | exact⟨by rw [hah.out];rfl,hx.out⟩ | (go_ret;exact⟨by rw [hah.out];rfl,hx.out⟩)
set_option maxRecDepth 100000 in
set_option maxHeartbeats 4000000 in
theorem sfine2_p (A:Option Addr)(c:Nat)(l:List SOp)(w:World)(hl:OpsV w A l)(hn:l.length<=20)(hF:FineL l) :
  Calls Tryd.prog 39 #[.slice A l.length c,.int .i64 2] w fun e w'=>e=.returned (.bool (l.all (opOk 2)))/\Ext w w':=by
 have hfp:=Lib.hid (hfine_p A c l w hl hn hF)
 have hlh:=Lib.hid hl
 have d1:decide ((20:Int)<(l.length:Int))=false:=by rw [decide_eq_false_iff_not];omega
 have d1n:decide (20<l.length)=false:=by rw [decide_eq_false_iff_not];omega
 clear hl hF
 go_enter Tryd.func39,Tryd.ntmps39
 go_wp2_with fail
 refine hfp.out.mono ?_
 rintro e w1 ⟨rfl,hx1⟩
 have hx0:=Lib.hid hx1
 clear hx1 hfp d1 d1n
 go_wp2_with fail
 go_loopw [26] (fun a26 wr=>∃ j:Nat,a26=.int .i64 j/\j<=l.length/\(l.take j).all (opOk 2)=true/\Hid (Ext w wr)) (fun a26 _=>l.length-(intOf a26).toNat)
 case atStart=>exact⟨0,rfl,by omega,rfl,hx0⟩
 case round =>
  clear hx0
  obtain⟨j,rfl,hj,hall,hx⟩:=hrel
  have hallh:=Lib.hid hall
  clear hall
  by_cases hjl:j<l.length
  · have dj:decide ((j:Int)<(l.length:Int))=true:=by rw [decide_eq_true_eq];omega
    obtain⟨o,ho⟩:∃ o,l[j]?=some o:=⟨_,List.getElem?_eq_getElem hjl⟩
    obtain⟨b,rfl,hb,c0,c1,c2,c3,c4⟩:=op_at (op_ext hlh.out hx.out) ho
    have hoh:=Lib.hid ho
    have htk:=Lib.hid (take_snoc ho)
    have hx2:=Lib.hid (hx.out.alloc (.cells #[.int .i64 o.fr,.int .i64 o.te,.bool o.wr,.int .i64 o.val,.int .i64 o.th] 28))
    have d2:decide ((o.th:Int)<0)=false:=by rw [decide_eq_false_iff_not];omega
    have d3:decide ((o.val:Int)<0)=false:=by rw [decide_eq_false_iff_not];omega
    clear ho hx
    by_cases ht:o.th<2
    rotate_left
    · have d4:decide ((2:Int)<=(o.th:Int))=true:=by rw [decide_eq_true_eq];omega
      have hno:=Lib.hid (all_not (n:=2) hoh.out (by unfold opOk;rw [decide_eq_false ht];rfl))
      cases hw:o.wr with
      | true =>
        rw [hw] at c2
        rw [hw] at hx2
        clear hw
        go_wp2_with fail
        first | exact⟨by rw [hno.out];rfl,hx2.out⟩ | (go_ret;exact⟨by rw [hno.out];rfl,hx2.out⟩)
      | false =>
        rw [hw] at c2
        rw [hw] at hx2
        clear hw
        go_wp2_with fail
        first | exact⟨by rw [hno.out];rfl,hx2.out⟩ | (go_ret;exact⟨by rw [hno.out];rfl,hx2.out⟩)
    have d4:decide ((2:Int)<=(o.th:Int))=false:=by rw [decide_eq_false_iff_not];omega
    cases hw:o.wr with
    | true =>
      by_cases hv:o.val<=3
      · have d5:decide ((3:Int)<(o.val:Int))=false:=by rw [decide_eq_false_iff_not];omega
        have hall2:Hid ((l.take (j+1)).all (opOk 2)=true):=Lib.hid (by
         rw [htk.out,List.all_append,hallh.out]
         simp [opOk,hw,ht,hv])
        rw [hw] at c2 hx2
        clear hw hv
        go_wp2_with fail
        refine⟨⟨j+1,by first | rfl | go_num,by omega,hall2.out,hx2⟩,?_⟩
        simp [intOf];omega
      · have d5:decide ((3:Int)<(o.val:Int))=true:=by rw [decide_eq_true_eq];omega
        have hno:=Lib.hid (all_not (n:=2) hoh.out (by simp [opOk,hw,ht];omega))
        rw [hw] at c2 hx2
        clear hw hv
        go_wp2_with fail
        first | exact⟨by rw [hno.out];rfl,hx2.out⟩ | (go_ret;exact⟨by rw [hno.out];rfl,hx2.out⟩)
    | false =>
      by_cases hv:o.val<=15
      · have d5:decide ((15:Int)<(o.val:Int))=false:=by rw [decide_eq_false_iff_not];omega
        have hall2:Hid ((l.take (j+1)).all (opOk 2)=true):=Lib.hid (by
         rw [htk.out,List.all_append,hallh.out]
         simp [opOk,hw,ht,hv])
        rw [hw] at c2 hx2
        clear hw hv
        go_wp2_with fail
        refine⟨⟨j+1,by first | rfl | go_num,by omega,hall2.out,hx2⟩,?_⟩
        simp [intOf];omega
      · have d5:decide ((15:Int)<(o.val:Int))=true:=by rw [decide_eq_true_eq];omega
        have hno:=Lib.hid (all_not (n:=2) hoh.out (by simp [opOk,hw,ht];omega))
        rw [hw] at c2 hx2
        clear hw hv
        go_wp2_with fail
        first | exact⟨by rw [hno.out];rfl,hx2.out⟩ | (go_ret;exact⟨by rw [hno.out];rfl,hx2.out⟩)
  · have dj:decide ((j:Int)<(l.length:Int))=false:=by rw [decide_eq_false_iff_not];omega
    obtain rfl:j=l.length:=by omega
    have ha:=hallh.out
    rw [List.take_length] at ha
    have hah:=Lib.hid ha
    clear ha
    go_wp2_with fail
    first | exact⟨by rw [hah.out];rfl,hx.out⟩ | (go_ret;exact⟨by rw [hah.out];rfl,hx.out⟩)
set_option maxRecDepth 100000 in
set_option maxHeartbeats 4000000 in
theorem sfine4_p (A:Option Addr)(c:Nat)(l:List SOp)(w:World)(hl:OpsV w A l)(hn:l.length<=20)(hF:FineL l) :
  Calls Tryd.prog 39 #[.slice A l.length c,.int .i64 4] w fun e w'=>e=.returned (.bool (l.all (opOk 4)))/\Ext w w':=by
 have hfp:=Lib.hid (hfine_p A c l w hl hn hF)
 have hlh:=Lib.hid hl
 have d1:decide ((20:Int)<(l.length:Int))=false:=by rw [decide_eq_false_iff_not];omega
 have d1n:decide (20<l.length)=false:=by rw [decide_eq_false_iff_not];omega
 clear hl hF
 go_enter Tryd.func39,Tryd.ntmps39
 go_wp2_with fail
 refine hfp.out.mono ?_
 rintro e w1 ⟨rfl,hx1⟩
 have hx0:=Lib.hid hx1
 clear hx1 hfp d1 d1n
 go_wp2_with fail
 go_loopw [26] (fun a26 wr=>∃ j:Nat,a26=.int .i64 j/\j<=l.length/\(l.take j).all (opOk 4)=true/\Hid (Ext w wr)) (fun a26 _=>l.length-(intOf a26).toNat)
 case atStart=>exact⟨0,rfl,by omega,rfl,hx0⟩
 case round =>
  clear hx0
  obtain⟨j,rfl,hj,hall,hx⟩:=hrel
  have hallh:=Lib.hid hall
  clear hall
  by_cases hjl:j<l.length
  · have dj:decide ((j:Int)<(l.length:Int))=true:=by rw [decide_eq_true_eq];omega
    obtain⟨o,ho⟩:∃ o,l[j]?=some o:=⟨_,List.getElem?_eq_getElem hjl⟩
    obtain⟨b,rfl,hb,c0,c1,c2,c3,c4⟩:=op_at (op_ext hlh.out hx.out) ho
    have hoh:=Lib.hid ho
    have htk:=Lib.hid (take_snoc ho)
    have hx2:=Lib.hid (hx.out.alloc (.cells #[.int .i64 o.fr,.int .i64 o.te,.bool o.wr,.int .i64 o.val,.int .i64 o.th] 28))
    have d2:decide ((o.th:Int)<0)=false:=by rw [decide_eq_false_iff_not];omega
    have d3:decide ((o.val:Int)<0)=false:=by rw [decide_eq_false_iff_not];omega
    clear ho hx
    by_cases ht:o.th<4
    rotate_left
    · have d4:decide ((4:Int)<=(o.th:Int))=true:=by rw [decide_eq_true_eq];omega
      have hno:=Lib.hid (all_not (n:=4) hoh.out (by unfold opOk;rw [decide_eq_false ht];rfl))
      cases hw:o.wr with
      | true =>
        rw [hw] at c2
        rw [hw] at hx2
        clear hw
        go_wp2_with fail
        first | exact⟨by rw [hno.out];rfl,hx2.out⟩ | (go_ret;exact⟨by rw [hno.out];rfl,hx2.out⟩)
      | false =>
        rw [hw] at c2
        rw [hw] at hx2
        clear hw
        go_wp2_with fail
        first | exact⟨by rw [hno.out];rfl,hx2.out⟩ | (go_ret;exact⟨by rw [hno.out];rfl,hx2.out⟩)
    have d4:decide ((4:Int)<=(o.th:Int))=false:=by rw [decide_eq_false_iff_not];omega
    cases hw:o.wr with
    | true =>
      by_cases hv:o.val<=3
      · have d5:decide ((3:Int)<(o.val:Int))=false:=by rw [decide_eq_false_iff_not];omega
        have hall2:Hid ((l.take (j+1)).all (opOk 4)=true):=Lib.hid (by
         rw [htk.out,List.all_append,hallh.out]
         simp [opOk,hw,ht,hv])
        rw [hw] at c2 hx2
        clear hw hv
        go_wp2_with fail
        refine⟨⟨j+1,by first | rfl | go_num,by omega,hall2.out,hx2⟩,?_⟩
        simp [intOf];omega
      · have d5:decide ((3:Int)<(o.val:Int))=true:=by rw [decide_eq_true_eq];omega
        have hno:=Lib.hid (all_not (n:=4) hoh.out (by simp [opOk,hw,ht];omega))
        rw [hw] at c2 hx2
        clear hw hv
        go_wp2_with fail
        first | exact⟨by rw [hno.out];rfl,hx2.out⟩ | (go_ret;exact⟨by rw [hno.out];rfl,hx2.out⟩)
    | false =>
      by_cases hv:o.val<=255
      · have d5:decide ((255:Int)<(o.val:Int))=false:=by rw [decide_eq_false_iff_not];omega
        have hall2:Hid ((l.take (j+1)).all (opOk 4)=true):=Lib.hid (by
         rw [htk.out,List.all_append,hallh.out]
         simp [opOk,hw,ht,hv])
        rw [hw] at c2 hx2
        clear hw hv
        go_wp2_with fail
        refine⟨⟨j+1,by first | rfl | go_num,by omega,hall2.out,hx2⟩,?_⟩
        simp [intOf];omega
      · have d5:decide ((255:Int)<(o.val:Int))=true:=by rw [decide_eq_true_eq];omega
        have hno:=Lib.hid (all_not (n:=4) hoh.out (by simp [opOk,hw,ht];omega))
        rw [hw] at c2 hx2
        clear hw hv
        go_wp2_with fail
        first | exact⟨by rw [hno.out];rfl,hx2.out⟩ | (go_ret;exact⟨by rw [hno.out];rfl,hx2.out⟩)
  · have dj:decide ((j:Int)<(l.length:Int))=false:=by rw [decide_eq_false_iff_not];omega
    obtain rfl:j=l.length:=by omega
    have ha:=hallh.out
    rw [List.take_length] at ha
    have hah:=Lib.hid ha
    clear ha
    go_wp2_with fail
    first | exact⟨by rw [hah.out];rfl,hx.out⟩ | (go_ret;exact⟨by rw [hah.out];rfl,hx.out⟩)
set_option maxRecDepth 100000 in
set_option maxHeartbeats 1600000 in
theorem rfine_p (A:Option Addr)(c:Nat)(l:List SOp)(w:World)(hl:OpsV w A l)(hn:l.length<=20) :
  Calls Tryd.prog 10 #[.slice A l.length c] w fun e w'=>∃ b,e=.returned (.bool b)/\(b=true->FineL l)/\Ext w w':=by
 have hlh:=Lib.hid hl
 have hx0:=Lib.hid (Ext.refl w)
 clear hl
 go_enter Tryd.func10,Tryd.ntmps10
 go_wp2_with fail
 go_loopw [3] (fun a3 wr=>∃ i:Nat,a3=.int .i64 i/\i<=l.length/\Hid (∀ j q,j<i->l[j]?=some q->okAt (l.take j) q)/\Hid (Ext w wr)) (fun a3 _=>l.length-(intOf a3).toNat)
 case atStart=>exact⟨0,rfl,by omega,Lib.hid fun j q h=>absurd h (Nat.not_lt_zero j),hx0⟩
 case round =>
  clear hx0
  obtain⟨i,rfl,hi,hallh,hx⟩:=hrel
  by_cases hil:i<l.length
  rotate_left
  · have dj:decide ((i:Int)<(l.length:Int))=false:=by rw [decide_eq_false_iff_not];omega
    obtain rfl:i=l.length:=by omega
    have hF:=Lib.hid (show FineL l from fun j q hq=>hallh.out j q (List.getElem?_eq_some_iff.1 hq).1 hq)
    go_wp2_with fail
    first | exact⟨true,rfl,fun _=>hF.out,hx.out⟩ | (go_ret;exact⟨true,rfl,fun _=>hF.out,hx.out⟩)
  have dj:decide ((i:Int)<(l.length:Int))=true:=by rw [decide_eq_true_eq];omega
  obtain⟨o,ho⟩:∃ o,l[i]?=some o:=⟨_,List.getElem?_eq_getElem hil⟩
  obtain⟨b,rfl,hb,c0,c1,c2,c3,c4⟩:=op_at (op_ext hlh.out hx.out) ho
  have hoh:=Lib.hid ho
  go_upto_region 5 with fail
  have k4:=Blk.new wr (.cells #[.int .i64 o.fr,.int .i64 o.te,.bool o.wr,.int .i64 o.val,.int .i64 o.th] 28)
  have hx1:=Lib.hid (hx.out.alloc (.cells #[.int .i64 o.fr,.int .i64 o.te,.bool o.wr,.int .i64 o.val,.int .i64 o.th] 28))
  clear c0 c1 c2 c3 c4 dj hx ho hb
  generalize World.alloc wr _=W1 at *
  obtain⟨b4,hb4⟩:∃ b,b=wr.heap.size:=⟨_,rfl⟩
  rw [<- hb4] at k4 ⊢
  clear hb4
  have k4h:=Lib.hid k4
  have c40:=k4.cells 0
  have c41:=k4.cells 1
  have c42:=k4.cells 2
  have c43:=k4.cells 3
  have c44:=k4.cells 4
  clear k4
  have d1:decide ((o.fr:Int)<0)=false:=by rw [decide_eq_false_iff_not];omega
  have d2:((o.te:Int) != -1)=true:=by simp
  have d6:decide ((o.th:Int)<0)=false:=by rw [decide_eq_false_iff_not];omega
  by_cases hte:o.te<o.fr
  · have d3:decide ((o.te:Int)<(o.fr:Int))=true:=by rw [decide_eq_true_eq];omega
    go_quiet (fail)
    have hf:=Lib.hid (hx1.out.drewN nq)
    clear hx1 k4h
    go_wp2_with fail
    first | exact⟨false,rfl,fun h=>(nomatch h),hf.out⟩ | (go_ret;exact⟨false,rfl,fun h=>(nomatch h),hf.out⟩)
  have d3:decide ((o.te:Int)<(o.fr:Int))=false:=by rw [decide_eq_false_iff_not];omega
  have d3n:decide (o.te<o.fr)=false:=by rw [decide_eq_false_iff_not];omega
  have hk1:=Lib.hid (show o.fr<=o.te by omega)
  by_cases hth:7<o.th
  · have d7:decide ((7:Int)<(o.th:Int))=true:=by rw [decide_eq_true_eq];omega
    have d7n:decide (7<o.th)=true:=by rw [decide_eq_true_eq];omega
    go_quiet (fail)
    have hf:=Lib.hid (hx1.out.drewN nq)
    clear hx1 k4h
    go_wp2_with fail
    first | exact⟨false,rfl,fun h=>(nomatch h),hf.out⟩ | (go_ret;exact⟨false,rfl,fun h=>(nomatch h),hf.out⟩)
  have d7:decide ((7:Int)<(o.th:Int))=false:=by rw [decide_eq_false_iff_not];omega
  have d7n:decide (7<o.th)=false:=by rw [decide_eq_false_iff_not];omega
  have hk2:=Lib.hid (show o.th<8 by omega)
  obtain⟨bad,hbad⟩:∃ bad,bad=decide (o.fr<prevFr (l.take i)):=⟨_,rfl⟩
  go_cut [55] (fun s55 wx=>s55=.bool bad/\Hid (Ext W1 wx))
  case first =>
   cases i with
   | zero =>
     have hb0:bad=false:=by rw [hbad];simp [prevFr]
     subst hb0
     clear hbad
     go_quiet (fail)
     have hf:=Lib.hid (Drew.mk' W1 nq).ext
     go_wp2_with fail
     go_meet
     exact⟨rfl,hf⟩
   | succ k =>
     obtain⟨p,hp⟩:∃ p,l[k]?=some p:=⟨_,List.getElem?_eq_getElem (by omega)⟩
     obtain⟨b',e',hb',p0,p1,p2,p3,p4⟩:=op_at (op_ext hlh.out hx1.out) hp
     have e':b=b':=by injection e' with e';injection e' with e' _ _
     subst e'
     rw [take_snoc hp,prevFr_snoc] at hbad
     have hbi:decide ((o.fr:Int)<(p.fr:Int))=bad:=by rw [hbad,decide_eq_decide];omega
     have hbn:decide (o.fr<p.fr)=bad:=hbad.symm
     clear hbad
     have hkl:k<l.length:=by omega
     go_quiet (fail)
     have hf:=Lib.hid (Drew.mk' W1 nq).ext
     go_wp2_with fail
     go_meet
     exact⟨by first | rfl | (rw [hbn]) | (rw [hbi]),hf⟩
  case rest =>
   obtain⟨rfl,hx5⟩:=hcut
   have hx6:=Lib.hid (hx1.out.trans hx5.out)
   have k4i:=Lib.hid (k4h.out.ext hx5.out)
   have hbh:=Lib.hid hbad
   clear hx1 hx5 k4h c40 c41 c42 c43 c44 hbad
   cases bad with
   | true =>
     clear k4i
     go_wp2_with fail
     first | exact⟨false,rfl,fun h=>(nomatch h),hx6.out⟩ | (go_ret;exact⟨false,rfl,fun h=>(nomatch h),hx6.out⟩)
   | false =>
     have hk3:=Lib.hid (show prevFr (l.take i)<=o.fr by
      have:=hbh.out
      have:=of_decide_eq_false this.symm
      omega)
     clear hbh
     have hw:=IntWalk.i64_in ((i:Int)-1) (by omega)
     go_wp2_with fail
     go_loopw [5] (fun a5 wq=>∃ m:Nat,a5=.int .i64 ((m:Int)-1)/\m<=i/\Hid (lastOf (l.take i) o.th=lastOf (l.take m) o.th)/\Hid (Blk wq b4 (.cells #[.int .i64 o.fr,.int .i64 o.te,.bool o.wr,.int .i64 o.val,.int .i64 o.th] 28)/\Ext w wq)) (fun a5 _=>(intOf a5+1).toNat)
     case atStart=>exact⟨i,by first | rfl | go_num,by omega,Lib.hid rfl,k4i.out,hx6.out⟩
     case round =>
      clear hx6 k4i hw
      obtain⟨m,rfl,hm,hlm,hR⟩:=hrel
      obtain⟨k4,hx2⟩:=hR.out
      clear hR
      have c44:=k4.cells 4
      have k4j:=Lib.hid k4
      have hx2h:=Lib.hid hx2
      clear k4 hx2
      cases m with
      | zero =>
        have hall2:Hid (∀ j q,j<i+1->l[j]?=some q->okAt (l.take j) q):=Lib.hid fun j q hj hq=>by
         by_cases e:j=i
         · subst e
           rw [hoh.out] at hq
           obtain rfl:=Option.some.inj hq
           exact⟨hk1.out,hk2.out,hk3.out,fun p hp=>by rw [hlm.out] at hp;cases hp⟩
         · exact hallh.out j q (by omega) hq
        rw [show (((0:Nat):Int)-1)=-1 from rfl]
        clear hlm
        go_upto_region 8 with fail
        go_quiet (fail)
        have hf:=Lib.hid (hx2h.out.drewN nq)
        have k4k:=Lib.hid (k4j.out.ext (Drew.mk' _ nq).ext)
        clear hx2h k4j c44
        generalize World.drewN _ nq=W3 at *
        go_upto_region 10 with fail
        go_quiet (fail)
        have hf2:=Lib.hid (hf.out.drewN nq)
        clear hf k4k
        go_wp2_with fail
        refine⟨⟨i+1,by first | rfl | go_num,by omega,hall2,hf2⟩,?_⟩
        simp [intOf];omega
      | succ m =>
        obtain⟨p,hp⟩:∃ p,l[m]?=some p:=⟨_,List.getElem?_eq_getElem (by omega)⟩
        obtain⟨b',e',hpb,p0,p1,p2,p3,p4⟩:=op_at (op_ext hlh.out hx2h.out) hp
        have e':b=b':=by injection e' with e';injection e' with e' _ _
        subst e'
        have hml:m<l.length:=by omega
        rw [show (((m+1:Nat):Int)-1)=(m:Int) by omega]
        have hls:=hlm.out
        rw [take_snoc hp,lastOf_snoc] at hls
        by_cases hpt:p.th=o.th
        rotate_left
        · have d9:((p.th:Int) != (o.th:Int))=true:=by simp;exact fun h=>hpt (by omega)
          rw [if_neg hpt] at hls
          have hlh2:=Lib.hid hls
          have hw2:=IntWalk.i64_in ((m:Int)-1) (by omega)
          clear hls hp hlm
          go_upto_region 8 with fail
          go_quiet (fail)
          have hf:=Lib.hid (hx2h.out.drewN nq)
          have k4k:=Lib.hid (k4j.out.ext (Drew.mk' _ nq).ext)
          clear hx2h k4j c44 p0 p1 p2 p3 p4 hpb
          generalize World.drewN _ nq=W3 at *
          go_wp2_with fail
          refine⟨⟨m,by first | rfl | go_num,by omega,hlh2,k4k.out,hf.out⟩,?_⟩
          first | (simp [intOf];done) | (simp [intOf];omega)
        have d9:((p.th:Int) != (o.th:Int))=false:=by simp [hpt]
        rw [if_pos hpt] at hls
        clear hpt
        have hlh2:=Lib.hid hls
        clear hls hp hlm
        go_upto_region 8 with fail
        go_quiet (fail)
        have hf:=Lib.hid (hx2h.out.drewN nq)
        have k4k:=k4j.out.ext (Drew.mk' _ nq).ext
        replace p0:=((Drew.mk' _ nq).ext.cell (p:=⟨b,_,none⟩) hpb).trans p0
        replace p1:=((Drew.mk' _ nq).ext.cell (p:=⟨b,_,none⟩) hpb).trans p1
        replace p2:=((Drew.mk' _ nq).ext.cell (p:=⟨b,_,none⟩) hpb).trans p2
        replace p3:=((Drew.mk' _ nq).ext.cell (p:=⟨b,_,none⟩) hpb).trans p3
        replace p4:=((Drew.mk' _ nq).ext.cell (p:=⟨b,_,none⟩) hpb).trans p4
        replace hpb:=Nat.lt_of_lt_of_le hpb (Drew.mk' _ nq).ext.size
        clear hx2h k4j c44
        generalize World.drewN _ nq=W3 at *
        go_upto_region 10 with fail
        have c40:=k4k.cells 0
        have c41:=k4k.cells 1
        have c42:=k4k.cells 2
        have c43:=k4k.cells 3
        have c44:=k4k.cells 4
        have h4b:=k4k.lt
        have hSx:Hid (∀ W,Ext W3 W->W.cell? ⟨b,m*5,none⟩=some (.int .i64 p.fr)/\W.cell? ⟨b,m*5+1,none⟩=some (.int .i64 p.te)/\W.cell? ⟨b,m*5+2,none⟩=some (.bool p.wr)/\W.cell? ⟨b,m*5+3,none⟩=some (.int .i64 p.val)/\W.cell? ⟨b,m*5+4,none⟩=some (.int .i64 p.th)/\W.cell? ⟨b4,0,none⟩=some (.int .i64 o.fr)/\W.cell? ⟨b4,1,none⟩=some (.int .i64 o.te)/\W.cell? ⟨b4,2,none⟩=some (.bool o.wr)/\W.cell? ⟨b4,3,none⟩=some (.int .i64 o.val)/\W.cell? ⟨b4,4,none⟩=some (.int .i64 o.th)):=Lib.hid fun W h=>⟨(h.cell (p:=⟨b,_,none⟩) hpb).trans p0,(h.cell (p:=⟨b,_,none⟩) hpb).trans p1,(h.cell (p:=⟨b,_,none⟩) hpb).trans p2,(h.cell (p:=⟨b,_,none⟩) hpb).trans p3,(h.cell (p:=⟨b,_,none⟩) hpb).trans p4,(h.cell (p:=⟨b4,_,none⟩) h4b).trans c40,(h.cell (p:=⟨b4,_,none⟩) h4b).trans c41,(h.cell (p:=⟨b4,_,none⟩) h4b).trans c42,(h.cell (p:=⟨b4,_,none⟩) h4b).trans c43,(h.cell (p:=⟨b4,_,none⟩) h4b).trans c44⟩
        have hE0:=(Ext.refl W3).drew
        have hS:=hSx.out _ hE0
        refine wp_region_held_drew (S:=fun w'=>w'.cell? ⟨b,m*5,none⟩=some (.int .i64 p.fr)/\w'.cell? ⟨b,m*5+1,none⟩=some (.int .i64 p.te)/\w'.cell? ⟨b,m*5+2,none⟩=some (.bool p.wr)/\w'.cell? ⟨b,m*5+3,none⟩=some (.int .i64 p.val)/\w'.cell? ⟨b,m*5+4,none⟩=some (.int .i64 p.th)/\w'.cell? ⟨b4,0,none⟩=some (.int .i64 o.fr)/\w'.cell? ⟨b4,1,none⟩=some (.int .i64 o.te)/\w'.cell? ⟨b4,2,none⟩=some (.bool o.wr)/\w'.cell? ⟨b4,3,none⟩=some (.int .i64 o.val)/\w'.cell? ⟨b4,4,none⟩=some (.int .i64 o.th)) rfl hS (fun hHeld=>?_)
        clear c40 c41 c42 c43 c44 p0 p1 p2 p3 p4 k4k hpb h4b
        refine tkb 0 ?_
        iterate 8
         refine tkn (v:=?_) rfl (by kernel_rfl) (fun _ _ _ h=>h) (by assumption) ?_ ?_
         rotate_left
         · (intro w hSw;(try dsimp only at hSw);go_simp;try with_reducible rfl)
         try simp only [put_pack]
        refine tke ?_
        refine wpAnyH_ready (rs:=[8]) (by kernel_rfl) (by simp) ?_
        refine AllReadyH.cons rfl (fun K hKK=>?_) (AllReadyH.nil)
        go_simp
        refine (ahead_r p o _).mono ?_
        rintro e wx ⟨rfl,hxa⟩
        have hE1:=hE0.trans hxa
        have hS1:=hSx.out _ hE1
        have hf3:=Lib.hid (hf.out.trans hE1)
        cases hah:isAhead p o with
        | false =>
          refine hKK.out _ _ hS1 (fun hHeld=>?_)
          clear hKK K
          try dsimp only
          refine tk 9 (v:=?_) rfl (by kernel_rfl) (fun _ _ _ h=>h) (by assumption) ?_ ?_
          rotate_left
          · (intro w hSw;(try dsimp only at hSw);go_simp;try with_reducible rfl)
          try simp only [put_pack]
          refine tk 10 (v:=?_) rfl (by kernel_rfl) (fun _ _ _ h=>h) (by assumption) ?_ ?_
          rotate_left
          · (intro w hSw;(try dsimp only at hSw);go_simp;try with_reducible rfl)
          try simp only [put_pack]
          refine wpAnyH_done (by kernel_rfl) ?_ _
          go_simp
          clear hS hS1 hE0 hE1 hxa hf hSx
          go_wp2_with fail
          first | exact⟨false,rfl,fun h=>(nomatch h),hf3.out⟩ | (go_ret;exact⟨false,rfl,fun h=>(nomatch h),hf3.out⟩) | exact .inl ⟨rfl,hf3.out⟩ | (go_ret;exact .inl ⟨rfl,hf3.out⟩)
        | true =>
          refine hKK.out _ _ hS1 (fun hHeld=>?_)
          clear hKK K
          try dsimp only
          refine tk 9 (v:=?_) rfl (by kernel_rfl) (fun _ _ _ h=>h) (by assumption) ?_ ?_
          rotate_left
          · (intro w hSw;(try dsimp only at hSw);go_simp;try with_reducible rfl)
          try simp only [put_pack]
          refine tk 10 (v:=?_) rfl (by kernel_rfl) (fun _ _ _ h=>h) (by assumption) ?_ ?_
          rotate_left
          · (intro w hSw;(try dsimp only at hSw);go_simp;try with_reducible rfl)
          try simp only [put_pack]
          refine wpAnyH_done (by kernel_rfl) ?_ _
          go_simp
          have hall2:Hid (∀ j q,j<i+1->l[j]?=some q->okAt (l.take j) q):=Lib.hid fun j q hj hq=>by
           by_cases e:j=i
           · subst e
             rw [hoh.out] at hq
             obtain rfl:=Option.some.inj hq
             exact⟨hk1.out,hk2.out,hk3.out,fun p2 hp2=>by rw [hlh2.out] at hp2;obtain rfl:=Option.some.inj hp2;unfold isAhead at hah;exact of_decide_eq_true hah⟩
           · exact hallh.out j q (by omega) hq
          clear hS hS1 hE0 hE1 hxa hf hSx
          go_wp2_with fail
          refine⟨⟨i+1,by first | rfl | go_num,by omega,hall2,hf3⟩,?_⟩
          simp [intOf];omega
theorem take_snoc_eq {a b:List Int}{k:Nat}(ha:k<a.length)(hb:k<b.length)(h:a.take k=b.take k):(a.take (k+1)=b.take (k+1))↔a.getD k 0=b.getD k 0:=by
 rw [List.take_succ_eq_append_getElem ha,List.take_succ_eq_append_getElem hb,h]
 rw [List.append_cancel_left_eq]
 simp [List.getD,List.getElem?_eq_getElem ha,List.getElem?_eq_getElem hb]
theorem ints_r (v1 v2:Value)(a b:List Int)(w:World)(h1:Ints w v1 a)(h2:Ints w v2 b) :
  Calls Tryd.prog 36 #[v1,v2] w fun e w'=>e=.returned (.bool (decide (a=b)))/\Drew w w':=by
 obtain⟨A,c,rfl,q1,q2⟩:=h1.slice
 obtain⟨B,d,rfl,q3,q4⟩:=h2.slice
 by_cases hl:a.length=b.length
 · have H:Hid (a.length=b.length):=hl
   rw [<- hl] at h2 q3 ⊢
   have l1:a.length<=9223372036854775807:=by omega
   clear hl
   go_enter Tryd.func36,Tryd.ntmps36
   go_wp2_with fail
   go_loopw [5] (fun i wr=>∃ j:Nat,i=.int .i64 j/\j<=a.length/\Hid (a.take j=b.take j)/\Drew w wr) (fun i _=>a.length-(intOf i).toNat)
   case atStart=>exact⟨0,rfl,by omega,by simp [Hid],Drew.rfl' _⟩
   case round =>
    obtain⟨j,rfl,hj,ht,hd⟩:=hrel
    by_cases hlt:j<a.length
    · obtain⟨b1,o1,rfl,hb1,hc1⟩:=h1.at_ hlt
      obtain⟨b2,o2,rfl,hb2,hc2⟩:=h2.at_ hlt
      obtain⟨n,rfl⟩:=hd
      have hlt2:j<b.length:=by rw [<- H.out];exact hlt
      have T:=Lib.hid (take_snoc_eq hlt hlt2 ht.out)
      rw [List.getD_eq_getElem?_getD,List.getElem?_eq_getElem hlt,Option.getD_some] at hc1
      rw [List.getD_eq_getElem?_getD,List.getElem?_eq_getElem hlt2,Option.getD_some] at hc2
      clear h1 h2
      by_cases hx:a[j]=b[j]
      · have d1:(a[j]==b[j])=true:=by rw [beq_iff_eq];exact hx
        have d2:(a[j] != b[j])=false:=by rw [bne_eq_false_iff_eq];exact hx
        have HX:=Lib.hid hx
        clear hx
        go_wp2_with fail
        go_quiet (fail)
        go_wp2_with fail
        refine⟨⟨j+1,by go_num,by omega,T.out.2 (by simpa [List.getD,hlt,hlt2] using HX.out),Drew.mk' _ _⟩,?_⟩
        simp [intOf];omega
      · have d1:(a[j]==b[j])=false:=by rw [beq_eq_false_iff_ne];exact hx
        have d2:(a[j] != b[j])=true:=by rw [bne_iff_ne];exact hx
        have HX:=Lib.hid hx
        clear hx
        go_wp2_with fail
        go_quiet (fail)
        go_wp2_with fail
        go_ret
        refine⟨ret_bool ?_,(Drew.mk' _ _).trans (Drew.mk' _ _)⟩
        symm
        rw [decide_eq_false_iff_not]
        rintro rfl
        exact HX.out rfl
    · obtain rfl:j=a.length:=by omega
      have E:Hid (a=b):=by
       have:=ht.out
       rw [List.take_length,H.out,List.take_length] at this
       exact this
      go_wp2_with fail
      go_ret
      refine⟨ret_bool ?_,hd⟩
      simp [E.out]
 · have d1:((a.length:Int) != (b.length:Int))=true:=by rw [bne_iff_ne];omega
   have H:Hid (decide (a=b)=false):=by
    unfold Hid
    rw [decide_eq_false_iff_not]
    intro he
    exact hl (by rw [he])
   clear hl
   go_enter Tryd.func36,Tryd.ntmps36
   go_wp2_with fail
   go_ret
   exact⟨ret_bool H.out.symm,Drew.rfl' _⟩
def deBruijn64:List Int:=[0,1,56,2,57,49,28,3,61,58,42,50,38,29,17,4,62,47,59,36,45,43,51,22,53,39,33,30,24,18,12,5,63,55,48,27,60,41,37,16,46,35,44,21,52,32,23,11,54,26,40,15,34,20,31,10,25,14,19,9,13,8,7,6]
structure Tabs (w:World):Prop where
 bruijn:Lib.TabIs Tryd.prog w "math/bits.deBruijn64tab" .u8 deBruijn64
theorem Tabs.ext {w w':World}(h:Tabs w)(hx:Ext w w'):Tabs w':=⟨Lib.tabBelow_of_tabIs h.bruijn _ hx⟩
attribute [local go_sem] Oper.semAt_some
theorem bruijn_at:∀ k:Fin 64,2 ^ k.val*285870213051353865 % 18446744073709551616 / 288230376151711744<64/\deBruijn64.getD (2 ^ k.val*285870213051353865 % 18446744073709551616 / 288230376151711744) 0=(k.val:Int):=by decide +kernel
theorem tz_key (x a:Nat)(hx:x<18446744073709551616)(hx0:x≠0)(hlow:x &&& (18446744073709551616-x)=a) :
  IntKind.u64.wrap (bits BinOp.and IntKind.u64 (x:Int) (IntKind.u64.wrap (-(x:Int)))*285870213051353865) / 288230376151711744=((a*285870213051353865 % 18446744073709551616 / 288230376151711744:Nat):Int):=by
 have e1:IntKind.u64.wrap (-(x:Int))=((18446744073709551616-x:Nat):Int):=by rw [IntKind.wrap_u64];omega
 rw [e1,u64_and_nat x _ hx (by omega),hlow,IntKind.wrap_u64]
 omega
theorem brCell {w:World}(T:Tabs w)(i:Nat)(hi:i<64):w.cell? ⟨0,i,none⟩=some (.int .u8 (deBruijn64.getD i 0)) :=
 Lib.TabIs.cell T.bruijn (by kernel_rfl) i hi
theorem tz_core (x k idx:Nat)(w:World)(hx0:((x:Int)==0)=false)
  (key:IntKind.u64.wrap (bits BinOp.and IntKind.u64 (x:Int) (IntKind.u64.wrap (-(x:Int)))*285870213051353865) / 288230376151711744=(idx:Int))
  (hi:idx<64)(hk:k<64)(hcell:w.cell? ⟨0,idx,none⟩=some (.int .u8 k)) :
  Calls Tryd.prog 91 #[.int .u64 x] w fun e w'=>e=.returned (.int .i64 k)/\w=w':=by
 go_enter Tryd.func91,Tryd.ntmps91
 go_wp2_with (simp only [key])
 go_ret
 exact⟨rfl,rfl⟩
theorem tz_p (x:Nat)(hx:x<18446744073709551616)(h0:x≠0)(w:World)(T:Tabs w) :
  Calls Tryd.prog 91 #[.int .u64 x] w fun e w'=>e=.returned (.int .i64 (Go.Lib.ctz 64 x))/\w=w':=by
 obtain⟨hlow,hk⟩:=Go.Lib.lowest_bit 64 x h0 hx
 obtain⟨hi,htab⟩:=bruijn_at ⟨_,hk⟩
 have hc:=brCell T _ hi
 rw [htab] at hc
 exact tz_core x _ _ w (by rw [beq_eq_false_iff_ne];omega) (tz_key x _ hx h0 hlow) hi hk hc
theorem each_p (s:Nat)(w:World) :
  Calls Tryd.prog 81 #[.int .u64 s] w fun e w'=>e=.returned (.func (.func 90) #[] #[.pointer (some ⟨w.heap.size,0,none⟩)])/\w.alloc (.cells #[.int .u64 s] 91)=w':=by
 have hmf:∀ (fn:Fn) (first cap:Array Value) (w:World),(Instr.makeFunc fn first cap).run Tryd.prog w=.ok (.func fn first cap) w:=fun _ _ _ _=>rfl
 go_enter Tryd.func81,Tryd.ntmps81
 go_wp2
 go_ret
 exact⟨rfl,rfl⟩
def listF (s:Nat):List (Fin 64):=(listM s).attach.map fun x=>⟨x.1,listM_lt x.2⟩
theorem listF_val (s:Nat):(listF s).map Fin.val=listM s:=by
 unfold listF
 rw [List.map_map]
 exact List.attach_map_subtype_val _
theorem listF_inj:∀ {a b:List (Fin 64)},a.map Fin.val=b.map Fin.val->a=b
 | [],[],_=>rfl
 | [],_ :: _,h=>by simp at h
 | _ :: _,[],h=>by simp at h
 | x :: a,y :: b,h=>by
   simp only [List.map_cons,List.cons.injEq] at h
   rw [Fin.ext h.1,listF_inj h.2]
theorem listF_low (x:Nat)(h0:x≠0)(hx:x<18446744073709551616)(hk:Go.Lib.ctz 64 x<64):listF x=⟨Go.Lib.ctz 64 x,hk⟩ :: listF (dropLow x):=by
 refine listF_inj ?_
 rw [listF_val,List.map_cons,listF_val,listM_low x h0 hx]
theorem listF_zero:listF 0=[]:=listF_inj (by rw [listF_val];exact listM_zero)
theorem dropLow_bits64 (x:Nat)(hx:x<18446744073709551616)(h0:x≠0):bits .and .u64 (x:Int) ((x:Int)-1)=((dropLow x:Nat):Int):=by
 rw [show (x:Int)-1=((x-1:Nat):Int) from by omega,u64_and_nat _ _ hx (by omega)]
 rfl
abbrev Mem (s:Nat):={x:Fin 64 // s.testBit x.val=true}
theorem mem_listF {s:Nat}{x:Fin 64}(h:x∈listF s):s.testBit x.val=true:=by
 have h2:x.val∈(listF s).map Fin.val:=List.mem_map.2 ⟨x,h,rfl⟩
 rw [listF_val] at h2
 exact (List.mem_filter.1 h2).2
set_option maxRecDepth 100000 in
set_option maxHeartbeats 1000000 in
theorem each1_in (F:Fence)(n:Nat)(h6:F.fn 90)(h7:F.fn 91)(hro:F.round=none)(hwide:F=Fence.wide)(hn:1<=n)(l Bn n₀:Nat)(s:Nat)(hs:s<18446744073709551616)(J Jx:List (Mem s)->World->Prop)
  (hY:∀ pre x W,J pre W->pre.length<(listF s).length->YieldAt F (n-1) Tryd.prog l #[.int .i64 (x.1.val:Nat)] W fun e W' =>
    (e=.returned (.bool true)/\J (pre++[x]) W'/\Below n₀ W W')∨(e=.returned (.bool false)/\Jx (pre++[x]) W'))
  (W:World)(hBn:W.cell? ⟨Bn,0,none⟩=some (.int .u64 s))(hT:∀ W',Below n₀ W W'->Tabs W')(h0:J [] W) :
  CallsIn F n Tryd.prog 90 #[.func (.yield l) #[] #[],.pointer (some ⟨Bn,0,none⟩)] W fun e W'=>(∃ v,e=.returned v) /\
   ((∃ ys:List (Mem s),ys.map (·.1)=listF s/\J ys W')∨(∃ pre:List (Mem s),pre.map (·.1) <+: listF s/\Jx pre W')):=by
 subst hwide
 refine callsIn_of_wp Tryd.func90 rfl h6 ?_ hro
 simp only [Tryd.ntmps90,List.size_toArray,List.length_cons,List.length_nil,Nat.reduceAdd,Nat.reduceSub,Array.replicate_succ,Array.replicate_zero,List.push_toArray,List.append_toArray,List.nil_append,List.cons_append]
 gi_wp2
 gi_loopw [3] (fun p wr=>∃ (pre:List (Mem s)) (x:Nat),p=.int .u64 x/\x<18446744073709551616/\Hid (listF s=pre.map (·.1)++listF x)/\Below n₀ W wr/\J pre wr)
  (fun p _=>(intOf p).toNat)
 case atStart =>
  exact⟨[],s,rfl,hs,rfl,Below.refl _ _,h0⟩
 case round =>
  obtain⟨pre,x,rfl,hx,hp,hB,hJs⟩:=hrel
  by_cases hz:x=0
  · subst hz
    gi_wp2
    go_end0
    exact⟨⟨_,rfl⟩,.inl ⟨pre,by rw [hp.out,listF_zero,List.append_nil],hJs⟩⟩
  · have hk:=(Go.Lib.lowest_bit 64 x hz hx).2
    have hlow:=Lib.hid (listF_low x hz hx hk)
    have hlt:=dropLow_lt x hz
    have hd:(x != 0)=true:=by rw [bne_iff_ne];exact hz
    have hd2:((x:Int) != 0)=true:=by rw [bne_iff_ne];omega
    have hmh:Hid (s.testBit (Go.Lib.ctz 64 x)=true):=Lib.hid (mem_listF (x:=⟨_,hk⟩) (by rw [hp.out,hlow.out];simp))
    obtain⟨fn,tmps,assign,body,hy,hR⟩:=hY pre ⟨⟨_,hk⟩,hmh.out⟩ wr hJs (by rw [hp.out,hlow.out];simp)
    have htz:=(callsIn_wide.2 (tz_p x hx hz wr (hT _ hB)):CallsIn Fence.wide (n-1) _ _ _ _ _)
    have hdl:=Lib.hid (dropLow_bits64 x hx hz)
    gi_wp2_with fail
    refine htz.mono ?_
    rintro e w' ⟨rfl,rfl⟩
    clear htz
    gi_wp2_with fail
    refine hR.mono ?_
    rintro e W3 (⟨rfl,hJ3,hk3⟩ | ⟨rfl,hJx3⟩)
    · gi_wp2_with fail
      rw [hdl.out]
      refine⟨⟨pre++[⟨⟨_,hk⟩,hmh.out⟩],dropLow x,rfl,by omega,?_,hB.trans hk3,hJ3⟩,?_⟩
      · unfold Hid
        rw [hp.out,hlow.out]
        simp
      · simp [intOf]
        omega
    · gi_wp2_with fail
      refine bodyPost_ret (results_none rfl _ _ _) rfl ?_
      exact⟨⟨_,rfl⟩,.inr ⟨pre++[_],⟨listF (dropLow x),by rw [hp.out,hlow.out];simp⟩,hJx3⟩⟩
theorem each_stops (n:Nat)(hn:1<=n)(Bn n₀:Nat)(s:Nat)(hs:s<18446744073709551616)(w:World)(hBn:Bn<w.heap.size)(hn₀:n₀<=w.heap.size)
  (hc:w.cell? ⟨Bn,0,none⟩=some (.int .u64 s))(hT:∀ W',Below n₀ w W'->Tabs W') :
  SeqStopsK Fence.wide n Tryd.prog 90 #[.pointer (some ⟨Bn,0,none⟩)] (fun x:Mem s=>#[Value.int .i64 (x.1.val:Nat)]) (Below n₀) (fun ys=>ys.map (·.1)=listF s) (fun pre=>pre.map (·.1) <+: listF s) (listF s).length w:=fun l J Jx W hW _ _ hY h0 =>
 each1_in Fence.wide n trivial trivial rfl rfl hn l Bn n₀ s hs J Jx hY W ((hW.cell (p:=⟨Bn,0,none⟩) hBn).trans hc) (fun W' hB=>hT W' ((hW.mono hn₀).trans hB)) h0
end Go.Proofs.YtiahgcaenneonaaDoor
namespace Go.Proofs.YtiahgcaenneonaaDoor
open Go.RowKit Kv
def noDefers (ops:Array Oper):Bool:=ops.all fun o=>match o.op with | .defer _=>false | _=>true
section
variable {P:Program} {ops:Array Oper} {Q:Exit->Act->World->Prop} {md:Region.Mode} {l n:Nat}
theorem noDefers_spec (h:noDefers ops=true){i:Nat}{o:Oper}(hi:ops[i]?=some o):∀ c,o.op≠.defer c:=by
 intro c hc
 unfold noDefers at h
 rw [Array.all_eq_true] at h
 obtain⟨hlt,he⟩:=Array.getElem?_eq_some_iff.1 hi
 have:=h i hlt
 rw [he,hc] at this
 cases this
theorem wpOpIn_of_wpOp (hd:noDefers ops=true)(hQ:∀ a w,¬ Q .outgrown a w){i:Nat}{K K':Act->World->Prop}(hK:∀ a w,K a w->K' a w){a:Act}{w:World}(h:wpOp P ops Q i K a w) :
  wpOpIn (Fence.wide.inRound l) n P ops Q i K' a w:=by
 have hL:¬ LetsOut Q:=fun ⟨a0,w0,hq⟩=>hQ a0 w0 hq
 unfold wpOp at h
 unfold wpOpIn
 cases ho:ops[i]? with
 | none=>rw [ho] at h;exact hK _ _ h
 | some o =>
   rw [ho] at h
   simp only at h ⊢
   split
   · rename_i hw
     rw [if_pos hw] at h
     rcases h with h | ⟨_,h⟩
     · refine⟨fun _ _=>trivial,?_⟩
       rw [Oper.semAt_eq _ _ _ (noDefers_spec hd ho)]
       unfold Oper.wp at h
       generalize (execOp a.eval o).run P w=r at h
       cases r with
       | ok v w' =>
         cases v <;> simp only [Oper.upon,Oper.uponIn] at h ⊢
         case value v=>exact hK _ _ h
         case skip=>exact hK _ _ h
         case defer d=>exact hK _ _ h
         case enter f args =>
          refine⟨fun hx=>(by cases hx),(callsIn_wide.2 (Calls.mono h fun e w2 he=>?_):CallsIn Fence.wide (n-1) P f args w' _)⟩
          cases e with
          | returned v=>exact hK _ _ he
          | panicked c=>exact he
          | outgrown=>exact he
         case row row args =>
          refine⟨fun hx=>(by cases hx),fun c cs _=>?_⟩
          obtain⟨v,w2,hr,hs⟩:=h c cs
          exact⟨v,w2,hK _ _ hr,stepsIn_wide.2 hs⟩
       | halt x w'=>cases x <;> simp only [Oper.upon,Oper.uponIn] at h ⊢;exact h
     · exact absurd h hL
   · rename_i hw
     rw [if_neg hw] at h
     exact⟨fun _ _=>trivial,hK _ _ h⟩
theorem wpAnyIn_of_wpAny (hd:noDefers ops=true)(hQ:∀ a w,¬ Q .outgrown a w):∀ (fuel:Nat) (listed:Array Bool) (a:Act) (w:World),wpAny P md ops Q fuel listed a w->wpAnyIn (Fence.wide.inRound l) n P md ops Q fuel listed a w
 | 0,_,_,_,h=>h
 | fuel+1,_,_,_,h=>⟨h.1,fun i hi=>wpOpIn_of_wpOp hd hQ (fun a' w' h'=>wpAnyIn_of_wpAny hd hQ fuel _ a' w' h') (h.2 i hi)⟩
theorem wpIn_region_held {id:Nat}{a:Act}{w:World}{S:World->Prop}(hm:P.follows .mixedOrders=true)(hd:noDefers ops=true)(hQ:∀ a w,¬ Q .outgrown a w)(hS:S w.drew)
  (h:S w.drew->wpAnyH P .any ops Q S ops.size (Array.replicate ops.size false) a w.drew):(Code.region id ops true).wpIn (Fence.wide.inRound l) n P Q a w :=
 wpIn_region_any hm (wpAnyIn_of_wpAny hd hQ _ _ _ _ (wpAny_of_held _ _ _ _ (h hS)))
end
end Go.Proofs.YtiahgcaenneonaaDoor
