/-
  RemoteAddsSaid: part 0 of its proof.
-/
import Derived.Lib.ItoaNum
import Derived.Lib.BitFns
import Derived.Test.YtiahgcaenneonaaDoorProg
import Derived.WalkKit
import Derived.WalkLawsBesides
import Derived.WalkSpells
import Derived.Lib.MinMax
import Derived.Lib.Hide
import Derived.Deep.QuietTactic
import Derived.BigQuiet
import Derived.RegionTactic
import Derived.Deep.RegionWith
import Derived.Deep.LoopGhost
import Derived.ShutString
import Derived.WalkSmall
import Derived.Lib.AppendIntMem
import Derived.OrdersHeld
import Derived.Maps.AppendAt
import Derived.Maps.OwnSet
import Derived.Maps.OwnOps
import Derived.DeepKeys4
import Derived.Deep.DeepCutAuto
import Derived.Deep.CutBlock
import Derived.Deep.AppendLies
import Derived.Deep.RegionLaw
import Derived.Deep.RegionHeld2
namespace Kv
def within (n lo hi:Int):Int:=if n<lo then lo else if hi<n then hi else n
def clamp (n top:Int):Int:=within n 0 (within top 0 1099511627776)
def wrapI (n top:Int):Int:=n % (clamp top 1099511627776+1)
theorem within_bd (n lo hi:Int)(h:lo<=hi):lo<=within n lo hi/\within n lo hi<=hi:=by unfold within;omega
theorem clamp_bd (n top:Int):0<=clamp n top/\clamp n top<=1099511627776:=by unfold clamp within;omega
theorem clamp_word (n:Int):clamp n 1099511627776=within n 0 1099511627776:=by unfold clamp within;omega
theorem tmod_neg_fix (n m:Int)(hm:0<m)(h:n.tmod m<0):n.tmod m+m=n % m:=by
 have h1:=Int.tmod_eq_emod (a:=n) (b:=m)
 by_cases h0:0<=n
 · have:=Int.tmod_nonneg m h0;omega
 · rw [h1]
   have hd:¬ m ∣ n:=by
    intro hd
    have:n.tmod m=0:=Int.tmod_eq_zero_of_dvd hd
    omega
   rw [if_neg (by simp [h0,hd])]
   have:=Int.natAbs_of_nonneg (Int.le_of_lt hm)
   omega
theorem tmod_pos_fix (n m:Int)(hm:0<m)(h:0<=n.tmod m):n.tmod m=n % m:=by
 have h1:=Int.tmod_eq_emod (a:=n) (b:=m)
 have h2:=Int.emod_lt_of_pos n hm
 have h3:=Int.natAbs_of_nonneg (Int.le_of_lt hm)
 rw [h1]
 rw [h1] at h
 split at h <;> rename_i h'
 · rw [if_pos h'];omega
 · omega
theorem wrapI_bd (n top:Int):0<=wrapI n top/\wrapI n top<=clamp top 1099511627776:=by
 unfold wrapI
 have:=clamp_bd top 1099511627776
 have h1:=Int.emod_nonneg n (b:=clamp top 1099511627776+1) (by omega)
 have h2:=Int.emod_lt_of_pos n (b:=clamp top 1099511627776+1) (by omega)
 omega
theorem decDigits_one (u:Nat)(h:u<10):Go.Lib.decDigits u=[UInt8.ofNat (48+u)]:=by
 rw [Go.Lib.decDigits,dif_pos h]
end Kv
namespace Go.Proofs.YtiahgcaenneonaaDoor
open Go.RowKit Kv
@[go_sem high] theorem run_min_ints3 {P:Program} (w:World) (ts:Array TypeId) (t:TypeId) (k k' k'':IntKind) (x y z:Int) :
  (Builtin.min_ ts t #[.int k x,.int k' y,.int k'' z]).run P w=.ok (.int k (min (min x y) z)) w:=by
 have e:∀ a b:Int,(if b<a then b else a)=min a b:=by intro a b;rw [Int.min_def];split <;> split <;> omega
 simp [Builtin.min_,Builtin.min2,e]
theorem ret_int {k:IntKind}{a b:Int}(h:a=b):Ending.returned (.int k a)=.returned (.int k b):=by rw [h]
theorem ret_bool {a b:Bool}(h:a=b):Ending.returned (.bool a)=.returned (.bool b):=by rw [h]
theorem w64 (x:Int)(h:-9223372036854775808<=x)(h':x<=9223372036854775807):wrap64 x=x:=by unfold wrap64;omega
def Drew (w w':World):Prop:=∃ n,w'=w.drewN n
theorem Drew.trans {a b c:World}(h:Drew a b)(k:Drew b c):Drew a c:=by
 obtain⟨n,rfl⟩:=h
 obtain⟨m,rfl⟩:=k
 exact⟨n+m,by simp⟩
theorem Drew.below {w w':World}(B:Nat)(h:Drew w w'):Below B w w':=by
 obtain⟨n,rfl⟩:=h
 exact⟨rfl,rfl,rfl,Nat.le_refl _,fun _ _=>rfl⟩
def Ext (w w':World):Prop:=Below w.heap.size w w'
theorem Ext.refl (w:World):Ext w w:=Below.refl _ _
theorem Ext.size {w w':World}(h:Ext w w'):w.heap.size<=w'.heap.size:=Below.size h
theorem Ext.trans {a b c:World}(h:Ext a b)(k:Ext b c):Ext a c:=Below.trans h (Below.mono k (Ext.size h))
theorem Ext.drewN {a b:World}(h:Ext a b)(n:Nat):Ext a (b.drewN n):=Below.trans h ⟨rfl,rfl,rfl,Nat.le_refl _,fun _ _=>rfl⟩
theorem Ext.drew {a b:World}(h:Ext a b):Ext a b.drew:=Below.drew h
theorem Ext.alloc {a b:World}(h:Ext a b)(o:Obj):Ext a (b.alloc o):=Below.alloc h (Ext.size h) o
theorem Ext.setCell {a b:World}(h:Ext a b){p:Addr}(hp:a.heap.size<=p.block)(u:Value):Ext a (b.setCell p u):=Below.setCell h hp u
theorem Drew.ext {w w':World}(h:Drew w w'):Ext w w':=Drew.below _ h
theorem Ext.cell {w w':World}(h:Ext w w'){p:Addr}(hp:p.block<w.heap.size):w'.cell? p=w.cell? p:=Below.cell h hp
end Go.Proofs.YtiahgcaenneonaaDoor
namespace Go.Proofs.YtiahgcaenneonaaDoor
open Go.RowKit
theorem tk {P:Program}{ops:Array Oper}{Q:Exit->Act->World->Prop}{md:Region.Mode}{S:World->Prop}(i:Nat){oi:Oper}{v:Value}{fuel:Nat}{listed:Array Bool}{a:Act}{w:World}(hi:ops[i]?=some oi)
  (hc:(Region.noSelect ops&&Region.free md ops listed i&&(Region.ready md ops listed).contains i&&Region.wanted oi (yielded ops a.tmps))=true)
  (hQ:∀ c a w,Q (.panic c) (a.put oi.dst v) w->Q (.panic c) a w)(hS:S w)(hy:∀ w,S w->(execOp a.eval oi).run P w=.ok (.value v) w)
  (h:wpAnyH P md ops Q S fuel (listed.setIfInBounds i true) (a.put oi.dst v) w):wpAnyH P md ops Q S (fuel+1) listed a w:=by
 simp only [Bool.and_eq_true] at hc
 exact wpAnyH_take hi hc.1.1.1 hc.1.1.2 hc.1.2 hQ (Or.inl ⟨hc.2,hy⟩) hS h
def AnyN (_:Nat) (p:Prop):Prop:=p
theorem tkb {p:Prop}(i:Nat)(h:AnyN i p):p:=h
theorem tke {p:Prop}{i:Nat}(h:p):AnyN i p:=h
theorem tkn {P:Program}{ops:Array Oper}{Q:Exit->Act->World->Prop}{md:Region.Mode}{S:World->Prop}{i:Nat}{oi:Oper}{v:Value}{fuel:Nat}{listed:Array Bool}{a:Act}{w:World}(hi:ops[i]?=some oi)
  (hc:(Region.noSelect ops&&Region.free md ops listed i&&(Region.ready md ops listed).contains i&&Region.wanted oi (yielded ops a.tmps))=true)
  (hQ:∀ c a w,Q (.panic c) (a.put oi.dst v) w->Q (.panic c) a w)(hS:S w)(hy:∀ w,S w->(execOp a.eval oi).run P w=.ok (.value v) w)
  (h:AnyN (i+1) (wpAnyH P md ops Q S fuel (listed.setIfInBounds i true) (a.put oi.dst v) w)):AnyN i (wpAnyH P md ops Q S (fuel+1) listed a w):=tk i hi hc hQ hS hy h
end Go.Proofs.YtiahgcaenneonaaDoor
namespace Go.Proofs.YtiahgcaenneonaaDoor
open Go.RowKit Kv
def Ints (w:World) (v:Value) (l:List Int):Prop :=
 ∃ A c,v=.slice A l.length c/\l.length<=c/\c<=9223372036854775807/\(l≠[]->∃ b off,A=some ⟨b,off,none⟩/\b<w.heap.size/\∀ i x,l[i]?=some x->w.cell? ⟨b,off+i,none⟩=some (.int .i64 x))
theorem Ints.ext {w w':World}{v:Value}{l:List Int}(h:Ints w v l)(hx:Ext w w'):Ints w' v l:=by
 obtain⟨A,c,rfl,h1,h2,h3⟩:=h
 refine⟨A,c,rfl,h1,h2,fun hl=>?_⟩
 obtain⟨b,off,rfl,hb,hc⟩:=h3 hl
 exact⟨b,off,rfl,Nat.lt_of_lt_of_le hb (Ext.size hx),fun i x hi=>(Ext.cell hx (p:=⟨b,off+i,none⟩) hb).trans (hc i x hi)⟩
theorem Ints.nil (w:World):Ints w (.slice none 0 0) []:=⟨none,0,rfl,by simp,by omega,fun h=>absurd rfl h⟩
theorem Ints.at_ {w:World}{A:Option Addr}{n c:Nat}{l:List Int}(h:Ints w (.slice A n c) l){i:Nat}(hi:i<n) :
  ∃ b off,A=some ⟨b,off,none⟩/\b<w.heap.size/\w.cell? ⟨b,off+i,none⟩=some (.int .i64 (l.getD i 0)):=by
 obtain⟨A',c',he,h1,h2,h3⟩:=h
 injection he with e1 e2 e3
 subst e1 e2 e3
 have hl:l≠[]:=by rintro rfl;simp at hi
 obtain⟨b,off,rfl,hb,hc⟩:=h3 hl
 refine⟨b,off,rfl,hb,?_⟩
 have:l[i]?=some (l.getD i 0):=by simp [List.getD,List.getElem?_eq_getElem hi]
 exact hc i _ this
theorem Ints.slice {w:World}{v:Value}{l:List Int}(h:Ints w v l):∃ A c,v=.slice A l.length c/\l.length<=c/\c<=9223372036854775807:=by
 obtain⟨A,c,rfl,h1,h2,_⟩:=h
 exact⟨A,c,rfl,h1,h2⟩
def IntRow (w:World) (base:Nat) (v:Value) (l:List Int):Prop:=w.ownsRow base 3 1 v l.length (l.map (Value.int .i64))
theorem IntRow.nil (w:World)(base:Nat):IntRow w base (.slice none 0 0) []:=World.ownsRow_nil _ _ _ _
theorem IntRow.ints {w:World}{base:Nat}{v:Value}{l:List Int}(h:IntRow w base v l):Ints w v l:=by
 have h':=h
 obtain⟨hl,h2⟩:=h
 rcases h2 with⟨rfl,h0⟩ | ⟨g,cap,cur,rfl,hg,hh,hn,hm,hs,ht⟩
 · obtain rfl:l=[]:=List.eq_nil_of_length_eq_zero h0
   exact Ints.nil w
 · refine⟨_,_,rfl,hn,by unfold maxLen at hm;exact hm,fun _=>⟨g,0,rfl,?_,fun i x hi=>?_⟩⟩
   · rcases Nat.lt_or_ge g w.heap.size with hlt | hge
     · exact hlt
     · rw [Array.getElem?_eq_none hge] at hh;cases hh
   · have hc:=World.ownsRow.cells h' (g:=g) rfl i (.int .i64 x) (by rw [List.getElem?_map,hi];rfl)
     rw [Addr.add_lit] at hc
     exact hc
theorem info_int:(Tryd.prog.info? 3).map (fun i=>(i.zero,i.size,i.bytes))=some (some (.int .i64 0),1,8):=by kernel_rfl
theorem Ext.appended {w wr w':World}{v:Value}{l:List Int}{o:Obj}(h:Ext w wr)(hown:IntRow wr w.heap.size v l)(hg:(wr.alloc o).grownBy w' v.ownBlock):Ext w w':=by
 refine Below.grown (Below.alloc h h.size o) hg (by have:=h.size;simp;omega) fun k hk=>?_
 obtain⟨_,h2⟩:=hown
 rcases h2 with⟨rfl,_⟩ | ⟨g,cap,cur,rfl,hgb,_⟩
 · simp [Value.ownBlock] at hk
 · simp [Value.ownBlock] at hk
   omega
theorem cell_of_heap {w:World}{b:Nat}{cs:Array Value}{t:TypeId}{fz:Nat × Nat}(h:w.heap[b]?=some (.cells cs t fz))(i:Nat):w.cell? ⟨b,i,none⟩=cs[i]?:=by
 simp [World.cell?,h]
theorem heap_setCell {w:World}{b i:Nat}{cs:Array Value}{t:TypeId}{fz:Nat × Nat}(h:w.heap[b]?=some (.cells cs t fz))(v:Value) :
  (w.setCell ⟨b,i,none⟩ v).heap[b]?=some (.cells (cs.setIfInBounds i v) t fz):=by
 simp [World.setCell,Array.getElem?_modify,h]
theorem heap_setCell_ne (w:World){b i k:Nat}(v:Value)(h:k≠b):(w.setCell ⟨b,i,none⟩ v).heap[k]?=w.heap[k]?:=Below.heap_setCell _ _ _ _ h
theorem frozen_of_heap {w:World}{b:Nat}{cs:Array Value}{t:TypeId}(h:w.heap[b]?=some (.cells cs t (0,0)))(i:Nat):w.frozen? ⟨b,i,none⟩=false:=by
 simp [World.frozen?,h]
def Blk (w:World) (b:Nat) (o:Obj):Prop:=w.heap[b]?=some o
theorem Blk.lt {w:World}{b:Nat}{o:Obj}(h:Blk w b o):b<w.heap.size:=(Array.getElem?_eq_some_iff.1 h).1
theorem Blk.new (w:World)(o:Obj):Blk (w.alloc o) w.heap.size o:=heap_alloc_new w o
theorem Blk.ext {w w':World}{b:Nat}{o:Obj}(h:Blk w b o)(hx:Ext w w'):Blk w' b o:=(Below.block hx b (Array.getElem?_eq_some_iff.1 h).1).trans h
theorem Blk.alloc {w:World}{b:Nat}{o:Obj}(h:Blk w b o)(o':Obj):Blk (w.alloc o') b o:=h.ext ((Ext.refl w).alloc o')
theorem Blk.drew {w:World}{b:Nat}{o:Obj}(h:Blk w b o):Blk w.drew b o:=h
theorem Blk.cells {w:World}{b:Nat}{cs:Array Value}{t:TypeId}{fz:Nat × Nat}(h:Blk w b (.cells cs t fz))(i:Nat):w.cell? ⟨b,i,none⟩=cs[i]?:=cell_of_heap h i
theorem row_ext {w w':World}{base e size n:Nat}{v:Value}{xs:List Value}(h:w.ownsRow base e size v n xs)(hx:Ext w w'):w'.ownsRow base e size v n xs :=
 h.kept (row:=none) ⟨hx.os,hx.tape,hx.output,hx.size,fun k hk _=>hx.block k hk⟩ (by cases v.ownBlock <;> simp)
def rowOf (l:List Int):List Value:=l.map (Value.int .i64)
theorem own_ge {B k:Nat}{w:World}{v:Value}{xs:List Value}(h:w.ownsRow B 3 1 v k xs){b:Nat}(hb:v.ownBlock=some b):B<=b/\b<w.heap.size:=by
 rcases h.2 with⟨rfl,_⟩ | ⟨g,cap,cur,rfl,h1,h2,_⟩
 · simp [Value.ownBlock] at hb
 · simp only [Value.ownBlock,Option.some.injEq] at hb
   subst hb
   exact⟨h1,(Array.getElem?_eq_some_iff.1 h2).1⟩
def Vals (w:World) (A:Option Addr) (vals:List Value):Prop:=vals≠[]->∃ b,A=some ⟨b,0,none⟩/\b<w.heap.size/\∀ i u,vals[i]?=some u->w.cell? ⟨b,i,none⟩=some u
theorem Vals.ext {w w':World}{A:Option Addr}{vals:List Value}(h:Vals w A vals)(hx:Ext w w'):Vals w' A vals:=by
 intro hne
 obtain⟨b,rfl,hb,hc⟩:=h hne
 exact⟨b,rfl,Nat.lt_of_lt_of_le hb hx.size,fun i u hu=>(hx.cell (p:=⟨b,i,none⟩) hb).trans (hc i u hu)⟩
theorem vals_row {w:World}{B e size n:Nat}{v:Value}{xs:List Value}(h:w.ownsRow B e size v n xs):∃ A c,v=.slice A n c/\n<=c/\c<=9223372036854775807/\Vals w A xs:=by
 have h':=h
 obtain⟨hl,h2⟩:=h
 rcases h2 with⟨rfl,h0⟩ | ⟨g,cap,cur,rfl,hg,hh,hn,hm,hs,ht⟩
 · subst h0
   refine⟨none,0,rfl,Nat.le_refl _,by omega,fun hne=>absurd ?_ hne⟩
   simpa using hl
 · refine⟨_,_,rfl,hn,by unfold maxLen at hm;exact hm,fun _=>⟨g,rfl,(Array.getElem?_eq_some_iff.1 hh).1,fun i u hi=>?_⟩⟩
   have hc:=World.ownsRow.cells h' (g:=g) rfl i u hi
   rw [Addr.add_lit,Nat.zero_add] at hc
   exact hc
theorem flat_at {α:Type}(f:α->List Value)(k:Nat)(hf:∀ a,(f a).length=k):∀ (l:List α) (i j:Nat) (a:α),l[i]?=some a->j<k->(l.flatMap f)[k*i+j]?=(f a)[j]?
 | [],i,j,a,h,_=>by simp at h
 | x :: l,0,j,a,h,hj=>by
   obtain rfl:x=a:=by simpa using h
   rw [List.flatMap_cons,Nat.mul_zero,Nat.zero_add,List.getElem?_append_left (by rw [hf];exact hj)]
 | x :: l,i+1,j,a,h,hj=>by
   have:=flat_at f k hf l i j a (by simpa using h) hj
   rw [List.flatMap_cons,List.getElem?_append_right (by rw [hf,Nat.mul_add];omega),hf,show k*(i+1)+j-k=k*i+j by rw [Nat.mul_add];omega]
   exact this
theorem cells_new1 (w:World)(cs:Array Value)(t:TypeId):∀ (j:Nat) (u:Value),cs.toList[j]?=some u->((w.alloc (.cells cs t)).drew).cell? ((⟨w.heap.size,0,none⟩:Addr).add j)=some u:=by
 intro j u hu
 rw [Addr.add_lit,Nat.zero_add]
 exact (cell_of_heap (w:=(w.alloc (.cells cs t)).drew) (b:=w.heap.size) (cs:=cs) (t:=t) (fz:=(0,0)) (heap_alloc_new w (.cells cs t)) j).trans (by simpa using hu)
theorem grown1 {w w1:World}{O:Obj}{row:Option Nat}(hg:((w.alloc O).drew).grownBy w1 row):w.grownBy w1 row :=
 World.grownBy.trans (World.grownBy_alloc w O row) ⟨hg.os,hg.tape,hg.output,hg.size,hg.block⟩
theorem row_one {B:Nat}(w:World)(hB:B<=w.heap.size)(x:Int):(w.alloc (.cells #[.int .i64 x] 3)).ownsRow B 3 1 (.slice (some ⟨w.heap.size,0,none⟩) 1 1) 1 (rowOf [x]):=by
 refine⟨rfl,.inr ⟨w.heap.size,1,#[.int .i64 x],rfl,hB,heap_alloc_new w _,by omega,by unfold maxLen;omega,rfl,?_⟩⟩
 simp [rowOf]
structure HRows (B:Nat) (bs:List Nat) (w:World) (hv:Int->Value) (hd:Int->List Int):Prop where
 ge:B<=w.heap.size
 row:∀ y,w.ownsRow B 3 1 (hv y) (hd y).length (rowOf (hd y))
 off:∀ y b,(hv y).ownBlock=some b->b ∉ bs
 apart:∀ x y b,x≠y->(hv x).ownBlock=some b->(hv y).ownBlock≠some b
section
variable {B:Nat} {bs:List Nat} {w W:World} {hv:Int->Value} {hd:Int->List Int}
theorem HRows.start (B:Nat)(bs:List Nat)(w:World)(hB:B<=w.heap.size):HRows B bs w (fun _=>.slice none 0 0) (fun _=>[]) :=
 ⟨hB,fun _=>⟨rfl,.inl ⟨rfl,rfl⟩⟩,fun _ _ h=>by simp [Value.ownBlock] at h,fun _ _ _ _ h=>by simp [Value.ownBlock] at h⟩
theorem HRows.ints (h:HRows B bs w hv hd)(y:Int):∃ A c,hv y=.slice A (hd y).length c/\Ints w (.slice A (hd y).length c) (hd y)/\w.ownsRow B 3 1 (.slice A (hd y).length c) (hd y).length (rowOf (hd y)):=by
 have h2:=h.row y
 have h3:=IntRow.ints (show IntRow w B (hv y) (hd y) from h2)
 obtain⟨A,c,e,_⟩:=h3.slice
 rw [e] at h3 h2
 exact⟨A,c,e,h3,h2⟩
theorem HRows.kept (h:HRows B bs w hv hd){row:Option Nat}(hg:w.grownBy W row)(hr:∀ b,row=some b->b∈bs):HRows B bs W hv hd :=
 { h with
  ge:=Nat.le_trans h.ge hg.size
  row:=fun y=>(h.row y).kept hg (by
   cases e:(hv y).ownBlock with
   | none=>exact .inl rfl
   | some b=>exact .inr fun e2=>h.off y b e (hr b e2.symm)) }
theorem HRows.ext (h:HRows B bs w hv hd)(hx:Ext w W):HRows B bs W hv hd :=
 { h with
  ge:=Nat.le_trans h.ge hx.size
  row:=fun y=>row_ext (h.row y) hx }
theorem HRows.more (h:HRows B bs w hv hd){b:Nat}(hb:w.heap.size<=b):HRows B (b :: bs) w hv hd :=
 { h with
  off:=fun y k h2 hk=>by
   have:=own_ge (h.row y) h2
   rcases List.mem_cons.1 hk with rfl | hk
   · omega
   · exact h.off y k h2 hk }
theorem HRows.less {cs:List Nat}(h:HRows B bs w hv hd)(hc:∀ b∈cs,b∈bs):HRows B cs w hv hd :=
 { h with off:=fun y k h2 hk=>h.off y k h2 (hc k hk) }
theorem HRows.set (h:HRows B bs w hv hd)(x:Int){v:Value}{l:List Int}(hown:W.ownsRow B 3 1 v l.length (rowOf l))(hg:w.grownBy W (hv x).ownBlock)
  (hat:∀ g,v.ownBlock=some g->(hv x).ownBlock=some g∨w.heap.size<=g)(hbs:∀ b∈bs,b<w.heap.size) :
  HRows B bs W (fun y=>if y=x then v else hv y) (fun y=>if y=x then l else hd y):=by
 have other:∀ y b,y≠x->(hv y).ownBlock=some b->v.ownBlock≠some b:=fun y b hy h1 h2=>by
  rcases hat b h2 with e | e
  · exact h.apart y x b hy h1 e
  · have:=(own_ge (h.row y) h1).2
    omega
 refine⟨Nat.le_trans h.ge hg.size,fun y=>?_,fun y b h1 hb=>?_,fun y z b hne h1 h2=>?_⟩
 · by_cases e:y=x
   · rw [if_pos e,if_pos e]
     exact hown
   · rw [if_neg e,if_neg e]
     refine (h.row y).kept hg ?_
     cases hu:(hv y).ownBlock with
     | none=>exact .inl rfl
     | some b=>exact .inr fun e2=>h.apart y x b e hu e2.symm
 · by_cases e:y=x
   · rw [if_pos e] at h1
     rcases hat b h1 with e2 | e2
     · exact h.off x b e2 hb
     · have:=hbs b hb
       omega
   · rw [if_neg e] at h1
     exact h.off y b h1 hb
 · by_cases e:y=x
   · rw [if_pos e] at h1
     rw [if_neg (fun e2=>hne (e.trans e2.symm))] at h2
     exact other z b (fun e2=>hne (e.trans e2.symm)) h2 h1
   · rw [if_neg e] at h1
     by_cases e2:z=x
     · rw [if_pos e2] at h2
       exact other y b e h1 h2
     · rw [if_neg e2] at h2
       exact h.apart y z b hne h1 h2
end
end Go.Proofs.YtiahgcaenneonaaDoor
namespace Go.Proofs.YtiahgcaenneonaaDoor
open Go.RowKit Kv
open Go.Maps (Keyed)
def rawR (v:Value):Option (DataW Value × List MemPlace):=some (.held v,[])
def MapV (w:World) (P:Program) (k:TypeId) (b n:Nat) (f:Lit->Option Value) (m:Nat):Prop :=
 ∃ D:DataW Value,w.ownsMap P k rawR b n D/\(∀ kl,Maps.has D kl=(f kl).isSome)/\(∀ kl v,f kl=some v->∀ z,D.atKey kl z=.held v)/\Maps.size D=m
section
variable {P:Program} {k t e:TypeId} {b n m:Nat} {f:Lit->Option Value} {w W:World}
theorem MapV.made (w:World)(P:Program)(k:TypeId):MapV (w.alloc (.map #[] 0)) P k w.heap.size 0 (fun _=>none) 0 :=
 ⟨_,World.ownsMap_made w P k rawR,fun _=>rfl,fun _ _ h=>(nomatch h),rfl⟩
theorem MapV.lt (h:MapV w P k b n f m):b<w.heap.size:=by
 obtain⟨D,h1,_⟩:=h
 exact h1.lt
theorem MapV.mono (h:MapV w P k b n f m){n':Nat}(hn:n<=n'):MapV w P k b n' f m:=by
 obtain⟨D,h1,h2⟩:=h
 exact⟨D,h1.mono hn,h2⟩
theorem MapV.kept {row:Option Nat}(h:MapV w P k b n f m)(hg:w.grownBy W row)(hne:some b≠row):MapV W P k b n f m:=by
 obtain⟨D,h1,h2⟩:=h
 exact⟨D,h1.kept hg hne,h2⟩
theorem MapV.same (h:MapV w P k b n f m)(hb:W.heap[b]?=w.heap[b]?):MapV W P k b n f m:=by
 obtain⟨D,⟨es,clock,hh,r⟩,h2⟩:=h
 exact⟨D,⟨es,clock,hb.trans hh,r⟩,h2⟩
theorem MapV.ext (h:MapV w P k b n f m)(hx:Ext w W):MapV W P k b n f m:=h.same (Below.block hx b h.lt)
theorem MapV.alloc (h:MapV w P k b n f m)(o:Obj):MapV (w.alloc o) P k b n f m:=h.kept (World.grownBy_alloc w o none) (by simp)
theorem MapV.drew (h:MapV w P k b n f m):MapV w.drew P k b n f m:=h
theorem MapV.look (h:MapV w P k b n f m)(K:Keyed P k)(ht:P.underlying t=some (.map k e)){z:Value}(hz:(zeroValue e).run P w=.ok z w){key:Value}{kl:Lit}(hkey:keyOf P k key=some kl) :
  (Instr.lookup t (.map (some b)) key false).run P w=.ok ((f kl).getD z) w:=by
 obtain⟨D,h1,h2,h3,_⟩:=h
 obtain⟨v,ps,hrun,hv⟩:=h1.lookup K ht hz (zd:=.held z) (zp:=[]) rfl hkey
 rw [hrun]
 simp only [rawR,Option.some.injEq,Prod.mk.injEq] at hv
 cases hf:f kl with
 | none =>
   have:=h2 kl
   rw [hf] at this
   have e1:=Maps.atKey_of_not_has this (.held z)
   rw [e1] at hv
   injection hv.1 with hv
   rw [hv]
   rfl
 | some u =>
   rw [h3 kl u hf] at hv
   injection hv.1 with hv
   rw [hv]
   rfl
theorem MapV.look_ok (h:MapV w P k b n f m)(K:Keyed P k)(ht:P.underlying t=some (.map k e)){z:Value}(hz:(zeroValue e).run P w=.ok z w){key:Value}{kl:Lit}(hkey:keyOf P k key=some kl) :
  (Instr.lookup t (.map (some b)) key true).run P w=.ok (.tuple #[(f kl).getD z,.bool (f kl).isSome]) w:=by
 obtain⟨D,h1,h2,h3,_⟩:=h
 obtain⟨v,ps,hrun,hv⟩:=h1.look_ok K ht hz (zd:=.held z) (zp:=[]) rfl hkey
 rw [hrun,h2 kl]
 simp only [rawR,Option.some.injEq,Prod.mk.injEq] at hv
 cases hf:f kl with
 | none =>
   have:=h2 kl
   rw [hf] at this
   have e1:=Maps.atKey_of_not_has this (.held z)
   rw [e1] at hv
   injection hv.1 with hv
   rw [hv]
   rfl
 | some u =>
   rw [h3 kl u hf] at hv
   injection hv.1 with hv
   rw [hv]
   rfl
theorem MapV.store (h:MapV w P k b n f m)(K:Keyed P k)(ht:P.underlying t=some (.map k e))(hn:n<maxLen){key:Value}(val:Value){kl:Lit}(hkey:keyOf P k key=some kl) :
  ∃ w' g,(Instr.mapUpdate t (.map (some b)) key val).run P w=.ok () w'/\MapV w' P k b (n+1) g (if (f kl).isSome=true then m else m+1)/\g kl=some val/\(∀ x,x≠kl->g x=f x)/\w.mapTurned w' b:=by
 classical
 obtain⟨D,h1,h2,h3,h4⟩:=h
 have hT:=h1.tidy K
 have hk:=K.key hkey
 obtain⟨w',hrun,h5,h6⟩:=h1.store K ht hn (val:=val) hkey (d:=.held val) (ps:=[]) rfl
 refine⟨w',fun x=>if x=kl then some val else f x,hrun,⟨_,h5,fun x=>?_,fun x v hv z=>?_,?_⟩,if_pos rfl,fun x hx=>if_neg hx,h6⟩
 · dsimp only
   by_cases ex:x=kl
   · subst ex
     rw [if_pos rfl,Maps.has_put_same hT.isMap hk]
     rfl
   · rw [if_neg ex,Maps.has_put_other ex]
     exact h2 x
 · dsimp only at hv
   by_cases ex:x=kl
   · subst ex
     rw [if_pos rfl] at hv
     injection hv with hv
     rw [Maps.atKey_put_same hT.isMap hk,hv]
   · rw [if_neg ex] at hv
     rw [Maps.atKey_put_other ex]
     exact h3 x v hv z
 · rw [Maps.size_put hT,h2 kl,h4]
theorem MapV.drop (h:MapV w P k b n f m)(K:Keyed P k)(ht:P.underlying t=some (.map k e)){key:Value}{kl:Lit}(hkey:keyOf P k key=some kl)(ty:TypeId) :
  ∃ w' g,(Builtin.delete_ #[t,k] ty #[.map (some b),key]).run P w=.ok (.tuple #[]) w'/\MapV w' P k b n g (if (f kl).isSome=true then m-1 else m)/\g kl=none/\(∀ x,x≠kl->g x=f x)/\w.mapTurned w' b:=by
 classical
 obtain⟨D,h1,h2,h3,h4⟩:=h
 have hT:=h1.tidy K
 obtain⟨w',hrun,h5,h6⟩:=h1.drop K ht hkey ty
 refine⟨w',fun x=>if x=kl then none else f x,hrun,⟨_,h5,fun x=>?_,fun x v hv z=>?_,?_⟩,if_pos rfl,fun x hx=>if_neg hx,h6⟩
 · dsimp only
   by_cases ex:x=kl
   · subst ex
     rw [if_pos rfl,Maps.has_del_same]
     rfl
   · rw [if_neg ex,Maps.has_del_other ex]
     exact h2 x
 · dsimp only at hv
   by_cases ex:x=kl
   · rw [if_pos ex] at hv
     cases hv
   · rw [if_neg ex] at hv
     rw [Maps.atKey_del_other ex]
     exact h3 x v hv z
 · have:=Maps.size_del hT (k:=kl)
   rw [h2 kl,h4] at this
   split at this <;> rename_i hc
   · rw [if_pos hc];omega
   · rw [if_neg hc];omega
theorem MapV.len (h:MapV w P k b n f m)(ht:P.underlying t=some (.map k e))(ty:TypeId):(Builtin.len_ #[t] ty #[.map (some b)]).run P w=.ok (.int .i64 m) w:=by
 obtain⟨D,h1,_,_,rfl⟩:=h
 exact h1.len ht ty
end
section
variable {P:Program} (w:World) {ops:Array Oper} {rest:List Oper} {o:Oper} {a:Act} {Q:Exit->Act->World->Prop}
theorem wpList_look_mapV (hg:o.guard=none)(m x:Operand)(t:TypeId)(hop:o.op=Op.lookup t m x false)(k e:TypeId)(K:Keyed P k)(ht:P.underlying t=some (.map k e)){z:Value}(hz:(zeroValue e).run P w=.ok z w)
  (b n c:Nat)(f:Lit->Option Value)(hm:a.eval m=.map (some b))(h:MapV w P k b n f c)(key:Value)(kl:Lit)(hx:a.eval x=key)(hkey:keyOf P k key=some kl)(v:Value)(hv:(f kl).getD z=v)
  (hK:wpList P ops Q rest (a.put o.dst v) w):wpList P ops Q (o :: rest) a w:=by
 refine wpList_plain hg fun K' hK'=>?_
 unfold Oper.wp
 simp [execOp,hop,hm,hx,h.look K ht hz hkey,Result.andThen,hv]
 exact hK' _ _ hK
theorem wpList_lookok_mapV (hg:o.guard=none)(m x:Operand)(t:TypeId)(hop:o.op=Op.lookup t m x true)(k e:TypeId)(K:Keyed P k)(ht:P.underlying t=some (.map k e)){z:Value}(hz:(zeroValue e).run P w=.ok z w)
  (b n c:Nat)(f:Lit->Option Value)(hm:a.eval m=.map (some b))(h:MapV w P k b n f c)(key:Value)(kl:Lit)(hx:a.eval x=key)(hkey:keyOf P k key=some kl)(v:Value)(hv:(f kl).getD z=v)(y:Bool)(hy:(f kl).isSome=y)
  (hK:wpList P ops Q rest (a.put o.dst (.tuple #[v,.bool y])) w):wpList P ops Q (o :: rest) a w:=by
 refine wpList_plain hg fun K' hK'=>?_
 unfold Oper.wp
 simp [execOp,hop,hm,hx,h.look_ok K ht hz hkey,Result.andThen,hv,hy]
 exact hK' _ _ hK
theorem wpList_store_mapV (hg:o.guard=none)(m x v:Operand)(t:TypeId)(hop:o.op=Op.mapUpdate t m x v)(k e:TypeId)(K:Keyed P k)(ht:P.underlying t=some (.map k e))
  (b n c:Nat)(f:Lit->Option Value)(hm:a.eval m=.map (some b))(h:MapV w P k b n f c)(hn:n<maxLen)(key val:Value)(kl:Lit)(hx:a.eval x=key)(hv:a.eval v=val)(hkey:keyOf P k key=some kl)
  (hK:∀ w' g,MapV w' P k b (n+1) g (if (f kl).isSome=true then c else c+1)->g kl=some val->(∀ x,x≠kl->g x=f x)->w.mapTurned w' b->wpList P ops Q rest (a.put o.dst undef) w'):wpList P ops Q (o :: rest) a w:=by
 refine wpList_plain hg fun K' hK'=>?_
 obtain⟨w',g,hrun,r1,r2,r3,r4⟩:=h.store K ht hn val hkey
 unfold Oper.wp
 simp [execOp,hop,hm,hx,hv,hrun,Result.andThen]
 exact hK' _ _ (hK w' g r1 r2 r3 r4)
theorem wpList_drop_mapV (hg:o.guard=none)(m x:Operand)(t k:TypeId)(hop:o.op=Op.call { callee:=Callee.builtin Builtin.delete,args:=#[m,x],argTypes:=#[t,k] })(e:TypeId)(K:Keyed P k)(ht:P.underlying t=some (.map k e))
  (b n c:Nat) (f:Lit->Option Value) (hm:a.eval m=.map (some b)) (h:MapV w P k b n f c) (key:Value) (kl:Lit) (hx:a.eval x=key) (hkey:keyOf P k key=some kl)
  (hK:∀ w' g,MapV w' P k b n g (if (f kl).isSome=true then c-1 else c)->g kl=none->(∀ x,x≠kl->g x=f x)->w.mapTurned w' b->wpList P ops Q rest (a.put o.dst (.tuple #[])) w'):wpList P ops Q (o :: rest) a w:=by
 refine wpList_plain hg fun K' hK'=>?_
 obtain⟨w',g,hrun,r1,r2,r3,r4⟩:=h.drop K ht hkey o.type
 unfold Oper.wp
 simp [execOp,hop,resolve,invoke,builtin,hm,hx,hrun,Result.andThen]
 exact hK' _ _ (hK w' g r1 r2 r3 r4)
theorem wpList_len_mapV (hg:o.guard=none)(m:Operand)(t:TypeId)(hop:o.op=Op.call { callee:=Callee.builtin Builtin.len,args:=#[m],argTypes:=#[t] })(k e:TypeId)(ht:P.underlying t=some (.map k e))
  (b n c:Nat) (f:Lit->Option Value) (hm:a.eval m=.map (some b)) (h:MapV w P k b n f c)
  (hK:wpList P ops Q rest (a.put o.dst (.int .i64 c)) w):wpList P ops Q (o :: rest) a w:=by
 refine wpList_plain hg fun K' hK'=>?_
 unfold Oper.wp
 simp [execOp,hop,resolve,invoke,builtin,hm,h.len ht o.type,Result.andThen]
 exact hK' _ _ hK
end
theorem turned_ext {w0 w W:World}{b:Nat}(hx:Ext w0 w)(hb:w0.heap.size<=b)(ht:w.mapTurned W b):Ext w0 W:=by
 refine Below.grown hx ht.grown hx.size fun k hk=>?_
 injection hk with hk
 omega
theorem step_store_mapV {P:Program}{ops:Array Oper}{o:Oper}{a:Act}{w:World}{K':Act->World->Prop}{Q:Exit->Act->World->Prop}{E:Prop}(hg:o.guard=none)(m x v:Operand)(t:TypeId)(hop:o.op=Op.mapUpdate t m x v)(k e:TypeId)(K:Keyed P k)
  (ht:P.underlying t=some (.map k e))(b n c:Nat)(f:Lit->Option Value)(hm:a.eval m=.map (some b))(h:MapV w P k b n f c)(hn:n<maxLen)(key val:Value)(kl:Lit)(hx:a.eval x=key)(hv:a.eval v=val)(hkey:keyOf P k key=some kl)
  (hK:∀ w' g,MapV w' P k b (n+1) g (if (f kl).isSome=true then c else c+1)->g kl=some val->(∀ x,x≠kl->g x=f x)->w.mapTurned w' b->K' (a.put o.dst undef) w') :
  if Region.wanted o (yielded ops a.tmps)=true then Oper.wp P o a w K' Q else E:=by
 have hw:Region.wanted o (yielded ops a.tmps)=true:=by simp [Region.wanted,hg]
 rw [if_pos hw]
 obtain⟨w',g,hrun,r1,r2,r3,r4⟩:=h.store K ht hn val hkey
 unfold Oper.wp
 simp [execOp,hop,hm,hx,hv,hrun,Result.andThen]
 exact hK w' g r1 r2 r3 r4
def StopD (p:Prop):Prop:=p
theorem stopD {p:Prop}(h:StopD p):p:=h
end Go.Proofs.YtiahgcaenneonaaDoor
namespace Kv
structure RMark where
 th:Int
 kind:Int
 cell:Int
structure RCache where
 cp:Int->Int->Bool
 hd:Int->List Int
def RCache.zero:RCache:=⟨fun _ _=>false,fun _=>[]⟩
def RCache.wr (c:RCache) (t x:Int):RCache :=
 ⟨fun s y=>if y=x/\s≠t/\s∈c.hd x then false else c.cp s y,fun y=>if y=x then (if c.cp t x then [t] else []) else c.hd y⟩
def RCache.add (c:RCache) (t x:Int):RCache :=
 if c.cp t x then c else ⟨fun s y=>if s=t/\y=x then true else c.cp s y,fun y=>if y=x then c.hd x++[t] else c.hd y⟩
def RCache.acc (c:RCache) (m:RMark):RCache:=(if m.kind=2 then c.wr m.th m.cell else c).add m.th m.cell
structure RCount where
 reads:Nat
 writes:Nat
 home:Nat
 cache:Nat
 cells:List Int
def RCount.zero:RCount:=⟨0,0,0,0,[]⟩
def ownR0 (homes:List Int) (cell t:Int):Bool:=decide (0<=t/\0<=cell/\cell<homes.length/\homes.getD cell.toNat 0=t)
def RCount.tell (s:RCount) (homes:List Int) (c:RCache) (m:RMark):RCount :=
 ⟨s.reads+(if m.kind=1 then 1 else 0),s.writes+(if m.kind=1 then 0 else 1),s.home+(if ownR0 homes m.cell m.th then 0 else 1),
  s.cache+(if m.kind=1/\c.cp m.th m.cell=true then 0 else 1),if m.cell∈s.cells then s.cells else s.cells++[m.cell]⟩
def rstep (homes:List Int) (asked:Int->Bool) (s:RCache × RCount) (m:RMark):RCache × RCount :=
 if m.kind=1∨m.kind=2 then (s.1.acc m,if asked m.th then s.2.tell homes s.1 m else s.2) else s
def rcount (homes:List Int) (asked:Int->Bool) (l:List RMark):RCache × RCount:=l.foldl (rstep homes asked) (RCache.zero,RCount.zero)
theorem rcount_snoc (homes:List Int)(asked:Int->Bool)(l:List RMark)(m:RMark):rcount homes asked (l++[m])=rstep homes asked (rcount homes asked l) m:=by
 unfold rcount
 rw [List.foldl_append]
 rfl
def rsum (f:Nat->RCount):Nat->RCount
 | 0=>RCount.zero
 | n+1=>⟨(rsum f n).reads+(f n).reads,(rsum f n).writes+(f n).writes,(rsum f n).home+(f n).home,(rsum f n).cache+(f n).cache,[]⟩
theorem rsum_tell (f:Nat->RCount)(homes:List Int)(c:RCache)(m:RMark)(k:Nat)(hk:m.th=k):∀ n,
  let S:=rsum (fun t=>if (t:Int)=m.th then (f t).tell homes c m else f t) n
  let R:=rsum f n
  if k<n then S.reads=R.reads+(if m.kind=1 then 1 else 0)/\S.writes=R.writes+(if m.kind=1 then 0 else 1)/\S.home=R.home+(if ownR0 homes m.cell m.th then 0 else 1)/\S.cache=R.cache+(if m.kind=1/\c.cp m.th m.cell=true then 0 else 1)
  else S.reads=R.reads/\S.writes=R.writes/\S.home=R.home/\S.cache=R.cache
 | 0=>by simp [rsum]
 | n+1=>by
   have ih:=rsum_tell f homes c m k hk n
   simp only at ih ⊢
   unfold rsum
   by_cases h1:k<n
   · rw [if_pos h1] at ih
     rw [if_pos (by omega)]
     rw [if_neg (show ¬ ((n:Int)=m.th) by omega)]
     obtain⟨a,b,c,d⟩:=ih
     dsimp only
     rw [a,b,c,d]
     refine⟨by omega,by omega,by omega,by omega⟩
   · rw [if_neg h1] at ih
     obtain⟨a,b,c,d⟩:=ih
     dsimp only
     rw [a,b,c,d]
     by_cases h2:k=n
     · rw [if_pos (by omega),if_pos (show (n:Int)=m.th by omega)]
       unfold RCount.tell
       dsimp only
       refine⟨by omega,by omega,by omega,by omega⟩
     · rw [if_neg (by omega),if_neg (show ¬ ((n:Int)=m.th) by omega)]
       exact⟨rfl,rfl,rfl,rfl⟩
theorem list_snoc {α:Type}{P:List α->Prop}(h0:P [])(h1:∀ l a,P l->P (l++[a]))(l:List α):P l:=by
 have:∀ r:List α,P r.reverse:=fun r=>by
  induction r with
  | nil=>exact h0
  | cons a r ih=>rw [List.reverse_cons];exact h1 _ _ ih
 simpa using this l.reverse
theorem radds (homes:List Int):∀ (l:List RMark),(∀ m∈l,0<=m.th/\m.th<8) ->
  let A:=rcount homes (fun _=>true) l
  let S:=rsum (fun t=>(rcount homes (fun x=>x==(t:Int)) l).2) 8
  (∀ t:Nat,(rcount homes (fun x=>x==(t:Int)) l).1=A.1)/\S.reads=A.2.reads/\S.writes=A.2.writes/\S.home=A.2.home/\S.cache=A.2.cache:=by
 intro l
 refine list_snoc (P:=fun l=>(∀ m∈l,0<=m.th/\m.th<8)->(∀ t:Nat,(rcount homes (fun x=>x==(t:Int)) l).1=(rcount homes (fun _=>true) l).1)/\(rsum (fun t=>(rcount homes (fun x=>x==(t:Int)) l).2) 8).reads=(rcount homes (fun _=>true) l).2.reads/\(rsum (fun t=>(rcount homes (fun x=>x==(t:Int)) l).2) 8).writes=(rcount homes (fun _=>true) l).2.writes/\(rsum (fun t=>(rcount homes (fun x=>x==(t:Int)) l).2) 8).home=(rcount homes (fun _=>true) l).2.home/\(rsum (fun t=>(rcount homes (fun x=>x==(t:Int)) l).2) 8).cache=(rcount homes (fun _=>true) l).2.cache) ?_ ?_ l
 · intro _;exact⟨fun _=>rfl,rfl,rfl,rfl,rfl⟩
 · intro l m ih h
   obtain⟨h0,h1,h2,h3,h4⟩:=ih fun x hx=>h x (by simp [hx])
   have hm:=h m (by simp)
   obtain⟨k,hk⟩:∃ k:Nat,m.th=k:=⟨m.th.toNat,by omega⟩
   simp only [rcount_snoc]
   by_cases hkd:m.kind=1∨m.kind=2
   · have e1:∀ t:Nat,rstep homes (fun x=>x==(t:Int)) (rcount homes (fun x=>x==(t:Int)) l) m=((rcount homes (fun _=>true) l).1.acc m,if (t:Int)=m.th then (rcount homes (fun x=>x==(t:Int)) l).2.tell homes (rcount homes (fun _=>true) l).1 m else (rcount homes (fun x=>x==(t:Int)) l).2):=fun t=>by
      unfold rstep
      rw [if_pos hkd,h0 t]
      by_cases e:(t:Int)=m.th
      · rw [if_pos e,if_pos (by rw [beq_iff_eq];exact e.symm)]
      · rw [if_neg e,if_neg (by rw [beq_iff_eq];exact fun h=>e h.symm)]
     have e2:rstep homes (fun _=>true) (rcount homes (fun _=>true) l) m=((rcount homes (fun _=>true) l).1.acc m,(rcount homes (fun _=>true) l).2.tell homes (rcount homes (fun _=>true) l).1 m):=by
      unfold rstep
      rw [if_pos hkd,if_pos rfl]
     rw [e2]
     simp only [e1]
     have hs:=rsum_tell (fun t=>(rcount homes (fun x=>x==(t:Int)) l).2) homes (rcount homes (fun _=>true) l).1 m k hk 8
     simp only at hs
     rw [if_pos (by omega)] at hs
     obtain⟨a,b,c,d⟩:=hs
     refine⟨fun _=>trivial,?_,?_,?_,?_⟩
     · rw [a,h1];rfl
     · rw [b,h2];rfl
     · rw [c,h3];rfl
     · rw [d,h4];rfl
   · have e1:∀ (f:Int->Bool) s,rstep homes f s m=s:=fun f s=>by
      unfold rstep
      rw [if_neg hkd]
     simp only [e1]
     exact⟨h0,h1,h2,h3,h4⟩
theorem ralone (homes:List Int)(l:List RMark)(hl:∀ m∈l,m.th≠9)(x:Int):∀ n:Nat,
  let A:=rcount homes (fun t=>t==9) (l++List.replicate n ⟨9,1,x⟩)
  (∀ y,A.1.cp 9 y=decide (y=x/\0<n))/\A.2.reads=n/\A.2.writes=0/\A.2.home=(if ownR0 homes x 9 then 0 else n)/\A.2.cache=(if 0<n then 1 else 0)/\A.2.cells=if 0<n then [x] else []
 | 0=>by
   simp only [List.replicate,List.append_nil]
   revert hl
   refine list_snoc (P:=fun l=>(∀ m∈l,m.th≠9)->(∀ y,(rcount homes (fun t=>t==9) l).1.cp 9 y=decide (y=x/\0<0))/\(rcount homes (fun t=>t==9) l).2.reads=0/\(rcount homes (fun t=>t==9) l).2.writes=0/\(rcount homes (fun t=>t==9) l).2.home=(if ownR0 homes x 9 then 0 else 0)/\(rcount homes (fun t=>t==9) l).2.cache=(if 0<0 then 1 else 0)/\(rcount homes (fun t=>t==9) l).2.cells=if 0<0 then [x] else []) ?_ ?_ l
   · intro _
     exact⟨fun y=>by simp [rcount,RCache.zero],rfl,rfl,by simp [rcount,RCount.zero],rfl,rfl⟩
   · intro l m ih h
     have hm:=h m (by simp)
     obtain⟨a,b⟩:=ih fun z hz=>h z (by simp [hz])
     rw [rcount_snoc]
     unfold rstep
     by_cases hk:m.kind=1∨m.kind=2
     · rw [if_pos hk,if_neg (by rw [beq_iff_eq];exact hm)]
       refine⟨fun y=>?_,b⟩
       have hy:=a y
       simp only [Nat.lt_irrefl,and_false,decide_false] at hy ⊢
       generalize (rcount homes (fun t=>t==9) l).1=c at *
       have e1:(if m.kind=2 then c.wr m.th m.cell else c).cp 9 y=false:=by
        split
        · unfold RCache.wr
          dsimp only
          split
          · rfl
          · exact hy
        · exact hy
       show ((if m.kind=2 then c.wr m.th m.cell else c).add m.th m.cell).cp 9 y=false
       generalize (if m.kind=2 then c.wr m.th m.cell else c)=c2 at *
       unfold RCache.add
       split
       · exact e1
       · dsimp only
         rw [if_neg (by intro h;exact hm h.1.symm)]
         exact e1
     · rw [if_neg hk]
       exact⟨a,b⟩
 | n+1=>by
   have ih:=ralone homes l hl x n
   simp only at ih ⊢
   have e:l++List.replicate (n+1) (⟨9,1,x⟩:RMark)=(l++List.replicate n ⟨9,1,x⟩)++[⟨9,1,x⟩]:=by
    rw [List.replicate_succ',List.append_assoc]
   rw [e,rcount_snoc]
   generalize rcount homes (fun t=>t==9) (l++List.replicate n ⟨9,1,x⟩)=A at *
   obtain⟨a,b,c,d,f,g⟩:=ih
   unfold rstep
   rw [if_pos (.inl rfl),if_pos (by rfl)]
   have hx:=a x
   refine⟨fun y=>?_,?_,?_,?_,?_,?_⟩
   · show (RCache.add _ _ _).cp 9 y=_
     rw [if_neg (show ¬ ((1:Int)=2) by decide)]
     unfold RCache.add
     dsimp only
     split
     · rename_i h
       rw [hx] at h
       rw [a y]
       have:0<n:=by simpa using h
       simp [this]
     · dsimp only
       rw [a y]
       by_cases e:y=x
       · simp [e]
       · simp [e]
   · simp [RCount.tell,b]
   · simp [RCount.tell,c]
   · simp only [RCount.tell,d]
     split <;> rfl
   · simp only [RCount.tell,f,hx]
     by_cases h:0<n
     · simp [h]
     · simp [h]
   · simp only [RCount.tell,g]
     by_cases h:0<n
     · simp [h]
     · simp [h]
end Kv
namespace Go.Proofs.YtiahgcaenneonaaDoor
open Go.RowKit Kv
open Go.Maps (Keyed)
theorem laid_out:laidOutB Tryd.prog=true:=by kernel_rfl
theorem key_copied:Keyed Tryd.prog 154:=Keyed.of_law (deep_law_laid laid_out (m:=2) (by omega) (of_decide_eq_true (by kernel_rfl)) (by kernel_rfl) (by kernel_rfl))
theorem key_int:Keyed Tryd.prog 3:=Maps.int_keyed Tryd.underlying3
theorem copied_lt:(154:TypeId)<Tryd.prog.types.size:=of_decide_eq_true (by kernel_rfl)
theorem succ_of {k n:Nat}(h:k<n):∃ m,n=m+1:=⟨n-1,by omega⟩
def ckey (s y:Int):Lit:=.string (keyBytes [.int .i64 s,.int .i64 y])
def I64 (x:Int):Prop:=-9223372036854775808<=x/\x<=9223372036854775807
theorem I64.wf {x:Int}(h:I64 x):(Lit.int .i64 x).wf=true:=WalkArith.wf_i64 h
theorem ckey_of {s y:Int}(hs:I64 s)(hy:I64 y):keyOf Tryd.prog 154 (.agg #[.int .i64 s,.int .i64 y])=some (ckey s y):=by
 obtain⟨m,hm⟩:=succ_of copied_lt
 have hkt:Tryd.prog.keyType 154=true:=by kernel_rfl
 have hc:Tryd.prog.cellsOf 154=2:=by kernel_rfl
 have h1:Tryd.prog.cellsOf 3=1:=by kernel_rfl
 unfold keyOf
 simp only [Tryd.underlying154]
 rw [if_pos (by simp [hkt,Value.formed,Tryd.underlying154,hc]),hm]
 unfold Program.keyLits
 simp only [Tryd.underlying154,Value.cells]
 simp [hc,h1,Program.keyLits,Tryd.underlying3,hs.wf,hy.wf,ckey]
theorem ckey_inj {s y s' y':Int}(hs:I64 s)(hy:I64 y)(hs':I64 s')(hy':I64 y')(h:ckey s y=ckey s' y'):s=s'/\y=y':=by
 have:=key_copied.inj (ckey_of hs hy) (h▸ckey_of hs' hy')
 injection this with h
 simp only [Array.mk.injEq,List.cons.injEq,Value.int.injEq,true_and,and_true] at h
 exact h
theorem ikey_of {y:Int}(hy:I64 y):keyOf Tryd.prog 3 (.int .i64 y)=some (.int .i64 y):=Maps.keyOf_int_mk Tryd.underlying3 hy.wf
def KeepC (B:Nat) (bs:List Nat) (w W:World):Prop:=Below B w W/\∀ b∈bs,W.heap[b]?=w.heap[b]?
theorem KeepC.refl (B:Nat)(bs:List Nat)(w:World):KeepC B bs w w:=⟨Below.refl _ _,fun _ _=>rfl⟩
theorem KeepC.trans {B:Nat}{bs:List Nat}{a b c:World}(h:KeepC B bs a b)(k:KeepC B bs b c):KeepC B bs a c:=⟨h.1.trans k.1,fun x hx=>(k.2 x hx).trans (h.2 x hx)⟩
theorem KeepC.less {B:Nat}{bs cs:List Nat}{a b:World}(h:KeepC B bs a b)(hc:∀ x∈cs,x∈bs):KeepC B cs a b:=⟨h.1,fun x hx=>h.2 x (hc x hx)⟩
theorem KeepC.size {B:Nat}{bs:List Nat}{a b:World}(h:KeepC B bs a b):a.heap.size<=b.heap.size:=h.1.size
theorem KeepC.blk {B:Nat}{bs:List Nat}{a b:World}(h:KeepC B bs a b){x:Nat}{o:Obj}(hx:x∈bs)(hb:Blk a x o):Blk b x o:=(h.2 x hx).trans hb
theorem KeepC.of_ext {B:Nat}{bs:List Nat}{a b:World}(h:Ext a b)(hB:B<=a.heap.size)(hbs:∀ x∈bs,x<a.heap.size):KeepC B bs a b:=⟨Below.mono h hB,fun x hx=>Below.block h x (hbs x hx)⟩
theorem KeepC.turned {B:Nat}{bs:List Nat}{w W:World}{b:Nat}(ht:w.mapTurned W b)(hB:B<=b)(hB2:B<=w.heap.size)(hb:∀ x∈bs,x≠b/\x<w.heap.size):KeepC B bs w W :=
 ⟨Below.grown (Below.refl _ _) ht.grown hB2 (fun k hk=>by injection hk with hk;omega),fun x hx=>ht.grown.block x (hb x hx).2 (by intro e;injection e with e;exact (hb x hx).1 e)⟩
structure CaMem (w:World) (B:Nat) (bs:List Nat) (bc bh n:Nat) (c:RCache):Prop where
 cop:∃ cp mc,MapV w Tryd.prog 154 bc n cp mc/\∀ s y,I64 s->I64 y->(cp (ckey s y)).isSome=c.cp s y
 hol:∃ fh mh hv,MapV w Tryd.prog 3 bh n fh mh/\(∀ y,I64 y->(fh (.int .i64 y)).getD (.slice none 0 0)=hv y)/\HRows B (bc :: bh :: bs) w hv c.hd
 len:∀ y,(c.hd y).length<=n
 thr:∀ y s,s∈c.hd y->I64 s
 geC:B<=bc
 geH:B<=bh
 ne:bc≠bh
 bsl:∀ b∈bs,b<w.heap.size/\b≠bc/\b≠bh
section
variable {B bc bh n:Nat} {bs:List Nat} {w W:World} {c:RCache}
theorem CaMem.ge (h:CaMem w B bs bc bh n c):B<=w.heap.size:=by
 obtain⟨_,_,_,_,_,h3⟩:=h.hol
 exact h3.ge
theorem CaMem.ltC (h:CaMem w B bs bc bh n c):bc<w.heap.size:=by
 obtain⟨_,_,h1,_⟩:=h.cop
 exact h1.lt
theorem CaMem.ltH (h:CaMem w B bs bc bh n c):bh<w.heap.size:=by
 obtain⟨_,_,_,h1,_⟩:=h.hol
 exact h1.lt
theorem CaMem.ext (h:CaMem w B bs bc bh n c)(hx:Ext w W):CaMem W B bs bc bh n c :=
 { h with
  cop:=by
   obtain⟨cp,mc,h1,h2⟩:=h.cop
   exact⟨cp,mc,h1.ext hx,h2⟩
  hol:=by
   obtain⟨fh,mh,hv,h1,h2,h3⟩:=h.hol
   exact⟨fh,mh,hv,h1.ext hx,h2,h3.ext hx⟩
  bsl:=fun b hb=>⟨Nat.lt_of_lt_of_le (h.bsl b hb).1 hx.size,(h.bsl b hb).2⟩ }
theorem CaMem.mono (h:CaMem w B bs bc bh n c){m:Nat}(hm:n<=m):CaMem w B bs bc bh m c :=
 { h with
  cop:=by
   obtain⟨cp,mc,h1,h2⟩:=h.cop
   exact⟨cp,mc,h1.mono hm,h2⟩
  hol:=by
   obtain⟨fh,mh,hv,h1,h2,h3⟩:=h.hol
   exact⟨fh,mh,hv,h1.mono hm,h2,h3⟩
  len:=fun y=>Nat.le_trans (h.len y) hm }
theorem CaMem.less {cs:List Nat}(h:CaMem w B bs bc bh n c)(hc:∀ b∈cs,b∈bs):CaMem w B cs bc bh n c :=
 { h with
  hol:=by
   obtain⟨fh,mh,hv,h1,h2,h3⟩:=h.hol
   refine⟨fh,mh,hv,h1,h2,h3.less fun b hb=>?_⟩
   rcases List.mem_cons.1 hb with rfl | hb
   · exact List.mem_cons_self
   · rcases List.mem_cons.1 hb with rfl | hb
     · exact List.mem_cons_of_mem _ List.mem_cons_self
     · exact List.mem_cons_of_mem _ (List.mem_cons_of_mem _ (hc b hb))
  bsl:=fun b hb=>h.bsl b (hc b hb) }
theorem CaMem.alloc (h:CaMem w B bs bc bh n c)(o:Obj):CaMem (w.alloc o) B (w.heap.size :: bs) bc bh n c:=by
 have hx:=(Ext.refl w).alloc o
 have h0:=h.ext hx
 refine { h0 with hol:=?_,bsl:=fun b hb=>?_ }
 · obtain⟨fh,mh,hv,h1,h2,h3⟩:=h.hol
   refine⟨fh,mh,hv,h1.ext hx,h2,((h3.more (Nat.le_refl _)).ext hx).less fun b hb=>?_⟩
   simp only [List.mem_cons] at hb ⊢
   rcases hb with hb | hb | hb | hb
   · exact .inr (.inl hb)
   · exact .inr (.inr (.inl hb))
   · exact .inl hb
   · exact .inr (.inr (.inr hb))
 · rcases List.mem_cons.1 hb with rfl | hb
   · have:=h.ltC
     have:=h.ltH
     refine⟨by simp,by omega,by omega⟩
   · exact h0.bsl b hb
theorem CaMem.del (h:CaMem w B bs bc bh n c){s x:Int}(hs:I64 s)(hx:I64 x){g:Lit->Option Value}{cp:Lit->Option Value}{m:Nat}(hc:∀ s y,I64 s->I64 y->(cp (ckey s y)).isSome=c.cp s y)(hM:MapV W Tryd.prog 154 bc n g m)
  (h1:g (ckey s x)=none)(h2:∀ k,k≠ckey s x->g k=cp k)(ht:w.mapTurned W bc):CaMem W B bs bc bh n ⟨fun a y=>if a=s/\y=x then false else c.cp a y,c.hd⟩ :=
 { h with
  cop:=⟨g,m,hM,fun a y ha hy=>by
   dsimp only
   by_cases e:a=s/\y=x
   · obtain⟨rfl,rfl⟩:=e
     rw [if_pos ⟨rfl,rfl⟩,h1]
     rfl
   · rw [if_neg e,h2 _ (fun e2=>e (ckey_inj ha hy hs hx e2)),hc a y ha hy]⟩
  hol:=by
   obtain⟨fh,mh,hv,q1,q2,q3⟩:=h.hol
   exact⟨fh,mh,hv,q1.kept ht.grown (by intro e;injection e with e;exact h.ne e.symm),q2,q3.kept ht.grown fun b hb=>by injection hb with hb;subst hb;exact List.mem_cons_self⟩
  bsl:=fun b hb=>⟨Nat.lt_of_lt_of_le (h.bsl b hb).1 ht.grown.size,(h.bsl b hb).2⟩ }
theorem CaMem.put (h:CaMem w B bs bc bh n c){s x:Int}(hs:I64 s)(hx:I64 x){g:Lit->Option Value}{cp:Lit->Option Value}{m:Nat}{v:Value}(hc:∀ s y,I64 s->I64 y->(cp (ckey s y)).isSome=c.cp s y)(hM:MapV W Tryd.prog 154 bc (n+1) g m)
  (h1:g (ckey s x)=some v)(h2:∀ k,k≠ckey s x->g k=cp k)(ht:w.mapTurned W bc):CaMem W B bs bc bh (n+1) ⟨fun a y=>if a=s/\y=x then true else c.cp a y,c.hd⟩ :=
 { h with
  cop:=⟨g,m,hM,fun a y ha hy=>by
   dsimp only
   by_cases e:a=s/\y=x
   · obtain⟨rfl,rfl⟩:=e
     rw [if_pos ⟨rfl,rfl⟩,h1]
     rfl
   · rw [if_neg e,h2 _ (fun e2=>e (ckey_inj ha hy hs hx e2)),hc a y ha hy]⟩
  hol:=by
   obtain⟨fh,mh,hv,q1,q2,q3⟩:=h.hol
   exact⟨fh,mh,hv,(q1.kept ht.grown (by intro e;injection e with e;exact h.ne e.symm)).mono (by omega),q2,q3.kept ht.grown fun b hb=>by injection hb with hb;subst hb;exact List.mem_cons_self⟩
  len:=fun y=>Nat.le_succ_of_le (h.len y)
  bsl:=fun b hb=>⟨Nat.lt_of_lt_of_le (h.bsl b hb).1 ht.grown.size,(h.bsl b hb).2⟩ }
theorem CaMem.hold {w0:World}(h:CaMem w0 B bs bc bh n c){x:Int}(hx:I64 x){v:Value}{l:List Int}{fh g:Lit->Option Value}{hv:Int->Value}{m:Nat}(hl:l.length<=n+1)(ht1:∀ s∈l,I64 s)
  (hf:∀ y,I64 y->(fh (.int .i64 y)).getD (.slice none 0 0)=hv y)(hR:HRows B (bc :: bh :: bs) w0 hv c.hd)
  (hown:w.ownsRow B 3 1 v l.length (rowOf l))(hg:w0.grownBy w (hv x).ownBlock)(hat:∀ g,v.ownBlock=some g->(hv x).ownBlock=some g∨w0.heap.size<=g)
  (hM:MapV W Tryd.prog 3 bh (n+1) g m)(h1:g (.int .i64 x)=some v)(h2:∀ k,k≠.int .i64 x->g k=fh k)(ht:w.mapTurned W bh) :
  CaMem W B bs bc bh (n+1) ⟨c.cp,fun y=>if y=x then l else c.hd y⟩:=by
 have hbs:∀ b∈bc :: bh :: bs,b<w0.heap.size:=fun b hb=>by
  rcases List.mem_cons.1 hb with rfl | hb
  · exact h.ltC
  · rcases List.mem_cons.1 hb with rfl | hb
    · exact h.ltH
    · exact (h.bsl b hb).1
 have hR2:=hR.set x hown hg hat hbs
 have hR3:=hR2.kept ht.grown fun b hb=>by injection hb with hb;subst hb;exact List.mem_cons_of_mem _ List.mem_cons_self
 have hoff:∀ b∈bc :: bh :: bs,some b≠(hv x).ownBlock:=fun b hb e=>hR.off x b e.symm hb
 obtain⟨cp,mc,q1,q2⟩:=h.cop
 refine⟨⟨cp,mc,((q1.kept hg (hoff bc List.mem_cons_self)).kept ht.grown (by intro e;injection e with e;exact h.ne e)).mono (by omega),q2⟩,⟨g,m,_,hM,fun y hy=>?_,hR3⟩,fun y=>?_,fun y s=>?_,h.geC,h.geH,h.ne,fun b hb=>⟨Nat.lt_of_lt_of_le (h.bsl b hb).1 (Nat.le_trans hg.size ht.grown.size),(h.bsl b hb).2⟩⟩
 · by_cases e:y=x
   · subst e
     rw [if_pos rfl,h1]
     rfl
   · rw [if_neg e,h2 _ (by intro e2;injection e2 with _ e2;exact e e2)]
     exact hf y hy
 · dsimp only
   split
   · exact hl
   · exact Nat.le_succ_of_le (h.len y)
 · dsimp only
   split
   · exact ht1 s
   · exact h.thr y s
end
end Go.Proofs.YtiahgcaenneonaaDoor
namespace Kv
def RCache.strip (c:RCache) (t x:Int) (j:Nat):RCache:=⟨fun s y=>if y=x/\s≠t/\s∈(c.hd x).take j then false else c.cp s y,c.hd⟩
theorem RCache.strip_zero (c:RCache)(t x:Int):c.strip t x 0=c:=by
 unfold RCache.strip
 simp
theorem RCache.strip_same {c:RCache}{t x:Int}{j:Nat}(hj:(c.hd x)[j]?=some t):c.strip t x (j+1)=c.strip t x j:=by
 unfold RCache.strip
 congr 1
 funext s y
 rw [List.take_add_one,hj]
 by_cases e:s=t
 · rw [if_neg (fun q=>q.2.1 e),if_neg (fun q=>q.2.1 e)]
 · have:s∈(c.hd x).take j++(some t).toList↔s∈(c.hd x).take j:=by simp [e]
   simp only [this]
theorem RCache.strip_other {c:RCache}{t x s0:Int}{j:Nat}(hj:(c.hd x)[j]?=some s0)(h:s0≠t):c.strip t x (j+1)=⟨fun s y=>if s=s0/\y=x then false else (c.strip t x j).cp s y,(c.strip t x j).hd⟩:=by
 unfold RCache.strip
 congr 1
 funext s y
 rw [List.take_add_one,hj]
 dsimp only
 by_cases e:s=s0/\y=x
 · obtain⟨rfl,rfl⟩:=e
   rw [if_pos ⟨rfl,h,by simp⟩,if_pos ⟨rfl,rfl⟩]
 · rw [if_neg e]
   by_cases e1:y=x/\s≠t/\s∈(c.hd x).take j
   · rw [if_pos e1,if_pos ⟨e1.1,e1.2.1,by simp [e1.2.2]⟩]
   · rw [if_neg e1,if_neg]
     rintro ⟨q1,q2,q3⟩
     rw [List.mem_append] at q3
     rcases q3 with q3 | q3
     · exact e1 ⟨q1,q2,q3⟩
     · simp at q3
       exact e ⟨q3,q1⟩
theorem RCache.strip_all (c:RCache)(t x:Int):c.wr t x=⟨(c.strip t x (c.hd x).length).cp,fun y=>if y=x then (if (c.strip t x (c.hd x).length).cp t x=true then [t] else []) else (c.strip t x (c.hd x).length).hd y⟩:=by
 unfold RCache.wr RCache.strip
 simp
end Kv
namespace Go.Proofs.YtiahgcaenneonaaDoor
open Go.RowKit Kv
theorem ints_turned {w W:World}{v:Value}{l:List Int}{b:Nat}(h:Ints w v l)(ht:w.mapTurned W b):Ints W v l:=by
 obtain⟨A,c,rfl,h1,h2,h3⟩:=h
 refine⟨A,c,rfl,h1,h2,fun hl=>?_⟩
 obtain⟨g,off,rfl,hb,hc⟩:=h3 hl
 refine⟨g,off,rfl,Nat.lt_of_lt_of_le hb ht.grown.size,fun i x hi=>?_⟩
 have e:=hc i x hi
 obtain⟨es,ck,es',ck',q1,q2⟩:=ht
 by_cases eb:g=b
 · subst eb
   rw [World.cell?,q1] at e
   cases e
 · rw [<- e]
   exact World.cell?_of_block (w:=w) (World.mapTurned.grown ⟨es,ck,es',ck',q1,q2⟩ |>.block g hb (by intro e2;injection e2 with e2;exact eb e2))
theorem zero_int (w:World):(zeroValue 3).run Tryd.prog w=.ok (.int .i64 0) w:=by kernel_rfl
theorem zero_row (w:World):(zeroValue 25).run Tryd.prog w=.ok (.slice none 0 0) w:=by kernel_rfl
theorem holds_p {w:World}{B bc bh n:Nat}{bs:List Nat}{c:RCache}(h:CaMem w B bs bc bh n c){s y:Int}(hs:I64 s)(hy:I64 y) :
  Calls Tryd.prog 69 #[.agg #[.map (some bc),.map (some bh)],.int .i64 s,.int .i64 y] w fun e w'=>e=.returned (.bool (c.cp s y))/\Ext w w':=by
 obtain⟨cp,mc,h1,h2⟩:=h.cop
 have hq:=Lib.hid (h1.alloc (.cells #[.map (some bc),.map (some bh)] 126))
 have hk:=Lib.hid (h2 s y hs hy)
 have hx:=Lib.hid ((Ext.refl w).alloc (.cells #[.map (some bc),.map (some bh)] 126))
 obtain⟨v0,hv0⟩:∃ v,v=(cp (ckey s y)).getD (.int .i64 0):=⟨_,rfl⟩
 have hv1:=Lib.hid hv0.symm
 have hsh:=Lib.hid hs
 have hyh:=Lib.hid hy
 clear hv0 h2 h1 h hs hy
 go_enter Tryd.func69,Tryd.ntmps69
 go_wp2_with (at_lookup;refine wpList_lookok_mapV _ rfl _ _ 123 rfl 154 3 key_copied Tryd.underlying123 (zero_int _) bc n mc cp rfl hq.out _ _ rfl (ckey_of hsh.out hyh.out) v0 hv1.out _ hk.out ?_)
 go_ret
 exact⟨rfl,hx.out⟩
set_option maxRecDepth 100000 in
set_option maxHeartbeats 800000 in
theorem access_p {w:World}{B bc bh n:Nat}{bs:List Nat}{c:RCache}(h:CaMem w B bs bc bh n c)(hn:n<=100000){t kd x vl:Int}(ht:I64 t)(hx:I64 x) :
  Calls Tryd.prog 70 #[.agg #[.map (some bc),.map (some bh)],.int .i64 t,.agg #[.int .i64 kd,.int .i64 x,.int .i64 vl]] w fun e w'=>e=.returned (.tuple #[])/\CaMem w' B bs bc bh (n+3) (c.acc ⟨t,kd,x⟩)/\KeepC B bs w w':=by
 have hM:=(h.alloc (.cells #[.map (some bc),.map (some bh)] 126)).alloc (.cells #[.int .i64 kd,.int .i64 x,.int .i64 vl] 42)
 have k3:=(Blk.new w (.cells #[.map (some bc),.map (some bh)] 126)).alloc (.cells #[.int .i64 kd,.int .i64 x,.int .i64 vl] 42)
 have k5:=Blk.new (w.alloc (.cells #[.map (some bc),.map (some bh)] 126)) (.cells #[.int .i64 kd,.int .i64 x,.int .i64 vl] 42)
 have hK:=KeepC.of_ext (((Ext.refl w).alloc (.cells #[.map (some bc),.map (some bh)] 126)).alloc (.cells #[.int .i64 kd,.int .i64 x,.int .i64 vl] 42)) h.ge (fun b hb=>(h.bsl b hb).1)
 rw [World.size_alloc] at hM k5
 have hth:=Lib.hid ht
 have hxh:=Lib.hid hx
 have hnh:=Lib.hid hn
 clear h ht hx hn
 go_enter Tryd.func70,Tryd.ntmps70
 go_upto_if 10 with fail
 generalize World.alloc (World.alloc w _) _=W0 at *
 generalize hb5:w.heap.size+1=b5 at *
 generalize hb3:w.heap.size=b3 at *
 clear hb5 hb3
 obtain⟨c1,hc1⟩:∃ c1,c1=(if kd=2 then c.wr t x else c):=⟨_,rfl⟩
 have hc1h:=Lib.hid hc1
 clear hc1
 go_cut [] (fun wx=>Hid (CaMem wx B (b5 :: b3 :: bs) bc bh (n+1) c1/\KeepC B (b5 :: b3 :: bs) W0 wx))
 case first =>
  have c30:=k3.cells 0
  have c31:=k3.cells 1
  have c50:=k5.cells 0
  have c51:=k5.cells 1
  by_cases hkd:kd=2
  rotate_left
  · have d1:(kd==2)=false:=by rw [beq_eq_false_iff_ne];exact hkd
    have d2:decide (kd=2)=false:=by rw [decide_eq_false_iff_not];exact hkd
    have hf:=Lib.hid (hM.mono (Nat.le_succ n))
    clear hM hK
    go_wp2_with fail
    go_meet
    rw [hc1h.out,if_neg hkd]
    exact⟨hf.out,KeepC.refl _ _ _⟩
  · subst hkd
    have hcw:=Lib.hid (show c1=c.wr t x by have h:=hc1h.out;simpa using h)
    clear hc1h
    obtain⟨fh,mh,hv,q1,q2,q3⟩:=hM.hol
    obtain⟨A,cc,hvx,hI0,hown⟩:=q3.ints x
    have hlk:=q2 x hxh.out
    rw [hvx] at hlk
    have hlkh:=Lib.hid hlk
    have q1h:=Lib.hid q1
    have hM0:=Lib.hid (show CaMem W0 B (b5 :: b3 :: bs) bc bh n (c.strip t x 0) by rw [RCache.strip_zero];exact hM)
    have hIh:=Lib.hid hI0
    have k3h:=Lib.hid k3
    have k5h:=Lib.hid k5
    have hlen:=hM.len x
    clear hlk q1 hI0 hown hM q2 q3 hvx hK k3 k5
    go_wp2_with (at_lookup;refine wpList_look_mapV _ rfl _ _ 124 rfl 3 25 key_int Tryd.underlying124 (zero_row _) bh n mh fh rfl q1h.out _ _ rfl (ikey_of hxh.out) _ hlkh.out ?_)
    clear hlkh q1h
    go_loopw [17] (fun a17 wr=>∃ j:Nat,a17=.int .i64 j/\j<=(c.hd x).length/\Hid (CaMem wr B (b5 :: b3 :: bs) bc bh n (c.strip t x j)/\KeepC B (b5 :: b3 :: bs) W0 wr/\Ints wr (.slice A (c.hd x).length cc) (c.hd x))) (fun a17 _=>(c.hd x).length-(intOf a17).toNat)
    case atStart=>exact⟨0,rfl,by omega,hM0.out,KeepC.refl _ _ _,hIh.out⟩
    case round =>
     clear hM0 hIh
     obtain⟨j,rfl,hj,hR⟩:=hrel
     obtain⟨hc2,hK2,hI2⟩:=hR.out
     clear hR
     have k3w:Blk wr b3 (.cells #[.map (some bc),.map (some bh)] 126):=hK2.blk (by simp) k3h.out
     have k5w:Blk wr b5 (.cells #[.int .i64 2,.int .i64 x,.int .i64 vl] 42):=hK2.blk (by simp) k5h.out
     clear c30 c31 c50 c51
     have c30:=k3w.cells 0
     have c31:=k3w.cells 1
     have c50:=k5w.cells 0
     have c51:=k5w.cells 1
     by_cases hjl:j<(c.hd x).length
     · have dj:decide ((j:Int)<((c.hd x).length:Int))=true:=by rw [decide_eq_true_eq];omega
       have hjn:(j:Int)+1<=100000:=by have:=hnh.out;omega
       obtain⟨s0,hs0⟩:∃ s0,(c.hd x)[j]?=some s0:=⟨_,List.getElem?_eq_getElem hjl⟩
       obtain⟨b,off,rfl,hbl,hcx⟩:=hI2.at_ hjl
       rw [show (c.hd x).getD j 0=s0 from by simp [List.getD,hs0]] at hcx
       have hs0i:I64 s0:=hc2.thr x s0 (List.mem_of_getElem? hs0)
       have hs0h:=Lib.hid hs0
       have hih:=Lib.hid hs0i
       clear hs0 hs0i
       by_cases hst:s0=t
       · subst hst
         have e1:(s0 != s0)=false:=by simp
         have hq:=Lib.hid (show CaMem wr B (b5 :: b3 :: bs) bc bh n (c.strip s0 x (j+1)) by rw [RCache.strip_same hs0h.out];exact hc2)
         have hK2h:=Lib.hid hK2
         have hI2h:=Lib.hid hI2
         clear hc2 hK2 hI2
         go_wp2_with fail
         refine⟨⟨j+1,by first | rfl | go_num,by omega,hq.out,hK2h.out,hI2h.out⟩,?_⟩
         simp [intOf];omega
       · have e1:(s0 != t)=true:=by simpa using hst
         obtain⟨cp,mc,z1,z2⟩:=hc2.cop
         have z1h:=Lib.hid z1
         have z2h:=Lib.hid z2
         have hc2h:=Lib.hid hc2
         have hK2h:=Lib.hid hK2
         have hI2h:=Lib.hid hI2
         clear z1 z2 hc2 hK2 hI2
         go_wp2_with (at_delete;refine stopD ?_)
         unfold StopD
         refine wpList_drop_mapV _ rfl _ _ 123 154 rfl 3 key_copied Tryd.underlying123 bc n mc cp rfl z1h.out _ _ rfl (ckey_of hih.out hxh.out) ?_
         intro w3 g m1 m2 m3 m4
         have hq:=hc2h.out.del hih.out hxh.out z2h.out m1 m2 m3 m4
         rw [<- RCache.strip_other hs0h.out hst] at hq
         have hk3:KeepC B (b5 :: b3 :: bs) wr w3:=KeepC.turned m4 hc2h.out.geC hc2h.out.ge fun b hb=>⟨(hc2h.out.bsl b hb).2.1,(hc2h.out.bsl b hb).1⟩
         have hqh:=Lib.hid hq
         have hK3h:=Lib.hid (hK2h.out.trans hk3)
         have hI3h:Hid (Ints w3 (.slice (some ⟨b,off,none⟩) (c.hd x).length cc) (c.hd x)):=Lib.hid (ints_turned hI2h.out m4)
         clear m1 m2 m3 m4 hq hk3
         go_wp2_with fail
         refine⟨⟨j+1,by first | rfl | go_num,by omega,hqh.out,hK3h.out,hI3h.out⟩,?_⟩
         simp [intOf];omega
     · have dj:decide ((j:Int)<((c.hd x).length:Int))=false:=by rw [decide_eq_false_iff_not];omega
       obtain rfl:j=(c.hd x).length:=by omega
       generalize hcs:c.strip t x (c.hd x).length=cs at hc2
       have hwr:=RCache.strip_all c t x
       rw [hcs] at hwr
       have hwrh:=Lib.hid hwr
       have hK2h:=Lib.hid hK2
       have hc2h:=Lib.hid hc2
       clear hcs hwr hK2 hc2 hI2
       go_wp2_with fail
       refine (holds_p hc2h.out hth.out hxh.out).mono ?_
       rintro e w2 ⟨rfl,hx2⟩
       have hcx:=hc2h.out.ext hx2
       have hkx:=hK2h.out.trans (KeepC.of_ext hx2 hc2h.out.ge fun b hb=>(hc2h.out.bsl b hb).1)
       clear c30 c31 c50 c51
       have c30:=(k3w.ext hx2).cells 0
       have c31:=(k3w.ext hx2).cells 1
       have c50:=(k5w.ext hx2).cells 0
       have c51:=(k5w.ext hx2).cells 1
       obtain⟨fh2,mh2,hv2,r1,r2,r3⟩:=hcx.hol
       have hnn:=hnh.out
       have hnm:n<maxLen:=by unfold maxLen;omega
       have r1h:=Lib.hid r1
       have r2h:=Lib.hid r2
       have r3h:=Lib.hid r3
       have hcxh:=Lib.hid hcx
       have hkxh:=Lib.hid hkx
       clear r1 r2 r3 hcx hkx hx2 hc2h hK2h k3w k5w
       by_cases hcp:cs.cp t x=true
       · rw [hcp]
         go_wp2_with (at_mapUpdate;refine stopD ?_)
         unfold StopD
         refine wpList_store_mapV _ rfl _ _ _ 124 rfl 3 25 key_int Tryd.underlying124 bh n mh2 fh2 rfl (r1h.out.alloc _) hnm _ _ _ rfl rfl (ikey_of hxh.out) ?_
         intro w3 g m1 m2 m3 m4
         have hq:=CaMem.hold hcxh.out hxh.out (l:=[t]) (by simp) (by simp;exact hth.out) r2h.out r3h.out (row_one w2 r3h.out.ge t) (World.grownBy_alloc w2 _ _) (fun g hg=>by simp [Value.ownBlock] at hg;exact .inr (by omega)) m1 m2 m3 m4
         have hk3:KeepC B (b5 :: b3 :: bs) (w2.alloc (.cells #[.int .i64 t] 3)) w3:=KeepC.turned m4 hcxh.out.geH (by have:=hcxh.out.ge;simp;omega) fun b hb=>⟨(hcxh.out.bsl b hb).2.2,by have:=(hcxh.out.bsl b hb).1;simp;omega⟩
         have hk4:=(hkxh.out.trans (KeepC.of_ext ((Ext.refl w2).alloc (.cells #[.int .i64 t] 3)) hcxh.out.ge fun b hb=>(hcxh.out.bsl b hb).1)).trans hk3
         have hqh:=Lib.hid hq
         have hk4h:=Lib.hid hk4
         clear m1 m2 m3 m4 hq hk3 hk4
         go_wp2_with fail
         go_meet
         rw [hcw.out,hwrh.out,if_pos hcp]
         exact⟨hqh.out,hk4h.out⟩
       · rw [show cs.cp t x=false by simpa using hcp]
         go_wp2_with (at_mapUpdate;refine stopD ?_)
         unfold StopD
         refine wpList_store_mapV _ rfl _ _ _ 124 rfl 3 25 key_int Tryd.underlying124 bh n mh2 fh2 rfl r1h.out hnm _ _ _ rfl rfl (ikey_of hxh.out) ?_
         intro w3 g m1 m2 m3 m4
         have hq:=CaMem.hold hcxh.out hxh.out (l:=[]) (by simp) (by simp) r2h.out r3h.out (v:=.slice none 0 0) ⟨rfl,.inl ⟨rfl,rfl⟩⟩ (World.grownBy.refl w2 _) (fun g hg=>by simp [Value.ownBlock] at hg) m1 m2 m3 m4
         have hk3:KeepC B (b5 :: b3 :: bs) w2 w3:=KeepC.turned m4 hcxh.out.geH hcxh.out.ge fun b hb=>⟨(hcxh.out.bsl b hb).2.2,(hcxh.out.bsl b hb).1⟩
         have hk4:=hkxh.out.trans hk3
         have hqh:=Lib.hid hq
         have hk4h:=Lib.hid hk4
         clear m1 m2 m3 m4 hq hk3 hk4
         go_wp2_with fail
         go_meet
         rw [hcw.out,hwrh.out,if_neg hcp]
         exact⟨hqh.out,hk4h.out⟩
 case rest =>
  obtain⟨hM1,hK1⟩:=hcut.out
  have hKh:=Lib.hid hK
  have hacc:Hid (c.acc ⟨t,kd,x⟩=c1.add t x):=Lib.hid (by rw [hc1h.out];rfl)
  clear hcut hM hK hc1h
  have k3w:Blk wc b3 (.cells #[.map (some bc),.map (some bh)] 126):=hK1.blk (by simp) k3
  have k5w:Blk wc b5 (.cells #[.int .i64 kd,.int .i64 x,.int .i64 vl] 42):=hK1.blk (by simp) k5
  have c30:=k3w.cells 0
  have c31:=k3w.cells 1
  have c50:=k5w.cells 0
  have c51:=k5w.cells 1
  have hM1h:=Lib.hid hM1
  have hK1h:=Lib.hid hK1
  have k3h:=Lib.hid k3w
  have k5h:=Lib.hid k5w
  clear hM1 hK1 k3 k5 k3w k5w
  go_wp2_with fail
  refine (holds_p hM1h.out hth.out hxh.out).mono ?_
  rintro e w2 ⟨rfl,hx2⟩
  have hcx:=hM1h.out.ext hx2
  have hkx:=hK1h.out.trans (KeepC.of_ext hx2 hM1h.out.ge fun b hb=>(hM1h.out.bsl b hb).1)
  have k3:=k3h.out.ext hx2
  have k5:=k5h.out.ext hx2
  clear c30 c31 c50 c51 k3h k5h
  have c30:=k3.cells 0
  have c31:=k3.cells 1
  have c50:=k5.cells 0
  have c51:=k5.cells 1
  have hcxh:=Lib.hid hcx
  have hkxh:=Lib.hid hkx
  have k3h:=Lib.hid k3
  have k5h:=Lib.hid k5
  clear hcx hkx hx2 hM1h hK1h k3 k5
  by_cases hcp:c1.cp t x=true
  · rw [hcp]
    have hf:CaMem w2 B bs bc bh (n+3) (c.acc ⟨t,kd,x⟩)/\KeepC B bs w w2:=by
     refine⟨?_,hKh.out.trans (hkxh.out.less fun b hb=>List.mem_cons_of_mem _ (List.mem_cons_of_mem _ hb))⟩
     rw [hacc.out]
     unfold RCache.add
     rw [if_pos hcp]
     exact (hcxh.out.mono (by omega)).less fun b hb=>List.mem_cons_of_mem _ (List.mem_cons_of_mem _ hb)
    have hfh:=Lib.hid hf
    clear hf hcxh hkxh hKh
    go_wp2_with fail
    first | go_end0 | refine bodyPost_ret (results_none rfl _ _ _) rfl ?_
    exact⟨rfl,hfh.out⟩
  · rw [show c1.cp t x=false by simpa using hcp]
    obtain⟨cp,mc,z1,z2⟩:=hcxh.out.cop
    have hnn:=hnh.out
    have hnm:n+1<maxLen:=by unfold maxLen;omega
    have z1h:=Lib.hid z1
    have z2h:=Lib.hid z2
    clear z1 z2
    go_wp2_with (at_mapUpdate;refine stopD ?_)
    unfold StopD
    refine wpList_store_mapV _ rfl _ _ _ 123 rfl 154 3 key_copied Tryd.underlying123 bc (n+1) mc cp rfl z1h.out hnm _ _ _ rfl rfl (ckey_of hth.out hxh.out) ?_
    intro w3 g m1 m2 m3 m4
    have hq:=hcxh.out.put hth.out hxh.out z2h.out m1 m2 m3 m4
    have hk3:KeepC B (b5 :: b3 :: bs) w2 w3:=KeepC.turned m4 hcxh.out.geC hcxh.out.ge fun b hb=>⟨(hcxh.out.bsl b hb).2.1,(hcxh.out.bsl b hb).1⟩
    have hk4:=hkxh.out.trans hk3
    have k3:Blk w3 b3 (.cells #[.map (some bc),.map (some bh)] 126):=hk3.blk (by simp) k3h.out
    have k5:Blk w3 b5 (.cells #[.int .i64 kd,.int .i64 x,.int .i64 vl] 42):=hk3.blk (by simp) k5h.out
    clear c30 c31 c50 c51 m1 m2 m3 m4 hk3 k3h k5h hcxh hkxh z1h z2h
    have hqh:=Lib.hid hq
    have hk4h:=Lib.hid hk4
    have k3h:=Lib.hid k3
    have k5h:=Lib.hid k5
    clear hq hk4 k3 k5
    obtain⟨fh,mh,hv,r1,r2,r3⟩:=hqh.out.hol
    obtain⟨A,cc,hvx,hI,hown⟩:=r3.ints x
    have hlk:=r2 x hxh.out
    rw [hvx] at hlk
    have hlen:=hqh.out.len x
    have hlenh:=Lib.hid hlen
    have r1h:=Lib.hid r1
    have r2h:=Lib.hid r2
    have r3h:=Lib.hid r3
    have hlkh:=Lib.hid hlk
    have hvxh:=Lib.hid hvx
    have hownh:=Lib.hid hown
    have hgeh:=Lib.hid r3.ge
    clear r1 r2 r3 hlk hvx hown hI hlen
    go_upto_region 13 with fail
    obtain⟨i0,hi,hz0,hz1,hz2⟩:=info_parts info_int
    have hS:(World.drew w3).cell? ⟨b3,1,none⟩=some (.map (some bh))/\(World.drew w3).cell? ⟨b5,1,none⟩=some (.int .i64 x):=⟨k3h.out.cells 1,k5h.out.cells 1⟩
    have hS2:((World.drew w3).alloc (.cells #[.int .i64 t] 3)).cell? ⟨b3,1,none⟩=some (.map (some bh))/\((World.drew w3).alloc (.cells #[.int .i64 t] 3)).cell? ⟨b5,1,none⟩=some (.int .i64 x):=⟨(k3h.out.drew.alloc _).cells 1,(k5h.out.drew.alloc _).cells 1⟩
    have hl1:=r1h.out.drew.look (t:=124) key_int Tryd.underlying124 (zero_row _) (ikey_of hxh.out)
    have hl2:=(r1h.out.alloc (.cells #[.int .i64 t] 3)).drew.look (t:=124) key_int Tryd.underlying124 (zero_row _) (ikey_of hxh.out)
    rw [hlkh.out] at hl1 hl2
    refine wp_region_held_drew (S:=fun w'=>w'.cell? ⟨b3,1,none⟩=some (.map (some bh))/\w'.cell? ⟨b5,1,none⟩=some (.int .i64 x)) rfl hS (fun hHeld=>?_)
    refine tkb 0 ?_
    iterate 8
     refine tkn (v:=?_) rfl (by kernel_rfl) (fun _ _ _ h=>h) (by assumption) ?_ ?_
     rotate_left
     · (intro w hSw;(try dsimp only at hSw);go_simp;try with_reducible rfl)
     try simp only [put_pack]
    refine tke ?_
    refine tk 9 (v:=?_) rfl (by kernel_rfl) (fun _ _ _ h=>h) (by assumption) ?_ ?_
    rotate_left
    · (intro w hSw;(try dsimp only at hSw);go_simp;try with_reducible rfl)
    try simp only [put_pack]
    refine wpAnyH_ready (rs:=[8,10]) (by kernel_rfl) (by simp) ?_
    refine AllReadyH.cons rfl (fun K hKK=>?_) (AllReadyH.cons rfl (fun K hKK=>?_) (AllReadyH.nil))
    · go_simp
      refine hKK.out _ _ hS (fun hHeld=>?_)
      clear hKK K
      try dsimp only
      refine wpAnyH_ready (rs:=[10]) (by kernel_rfl) (by simp) ?_
      refine AllReadyH.cons rfl (fun K hKK=>?_) (AllReadyH.nil)
      go_simp
      refine hKK.out _ _ hS2 (fun hHeld=>?_)
      clear hKK K hl1 hl2
      try dsimp only
      refine wpAnyH_ready (rs:=[11]) (by kernel_rfl) (by simp) ?_
      refine AllReadyH.cons rfl (fun K hKK=>?_) (AllReadyH.nil)
      have hl3:=hlenh.out
      dsimp only at hl3
      refine step_append_lies _ (by rfl) _ _ _ (by rfl) B 3 i0 _ 1 8 Tryd.underlying25 hi hz0 hz1 hz2 rfl (by omega) (Value.slice A (c1.hd x).length cc) (c1.hd x).length (rowOf (c1.hd x)) (by rfl) ((World.ownsRow.drew hownh.out).alloc _) ⟨w3.heap.size,0,none⟩ 1 1 [.int .i64 t] (by rfl) (by rfl) (cells_new1 w3 _ _) (by simp [Value.oneCell']) (by omega) (by unfold maxLen;omega) (by omega) (by have:=hgeh.out;simp;omega) (w3.heap.size+1) (by simp) ?_
      intro gg cap w4 hown1 hgrow hat1 hlt1
      have hg4:=grown1 hgrow
      have hoff:∀ b,b∈bc :: bh :: b5 :: b3 :: bs->some b≠(Value.slice A (c1.hd x).length cc).ownBlock:=fun b hb e=>r3h.out.off x b (by rw [hvxh.out];exact e.symm) hb
      have k34:Blk w4 b3 (.cells #[.map (some bc),.map (some bh)] 126):=(hg4.block b3 k3h.out.lt (hoff b3 (by simp))).trans k3h.out
      have k54:Blk w4 b5 (.cells #[.int .i64 kd,.int .i64 x,.int .i64 vl] 42):=(hg4.block b5 k5h.out.lt (hoff b5 (by simp))).trans k5h.out
      have hm4:=r1h.out.kept hg4 (hoff bh (by simp))
      refine hKK.out _ _ ⟨k34.cells 1,k54.cells 1⟩ (fun hHeld=>?_)
      clear hKK K hgrow hlt1
      try dsimp only
      refine wpAnyH_ready (rs:=[12]) (by kernel_rfl) (by simp) ?_
      refine AllReadyH.cons rfl (fun K hKK=>?_) (AllReadyH.nil)
      refine step_store_mapV rfl _ _ _ 124 rfl 3 25 key_int Tryd.underlying124 bh (n+2) mh fh rfl hm4 (by unfold maxLen;omega) (.int .i64 x) (.slice (some ⟨gg,0,none⟩) ((c1.hd x).length+1) cap) _ rfl rfl (ikey_of hxh.out) ?_
      intro w5 g2 m1 m2 m3 m4
      have hq:=CaMem.hold (w0:=w3) (w:=w4) hqh.out hxh.out (l:=c1.hd x++[t]) (by simp;omega) (fun s hs=>by
       rcases List.mem_append.1 hs with hs | hs
       · exact hqh.out.thr x s hs
       · simp at hs;subst hs;exact hth.out) r2h.out r3h.out (by unfold rowOf at hown1 ⊢;rw [List.length_append,List.map_append];exact hown1) (by rw [hvxh.out];exact hg4) (fun b hb=>by
       simp only [Value.ownBlock,Option.some.injEq] at hb
       subst hb
       rw [hvxh.out]
       exact hat1.imp id (by omega)) m1 m2 m3 m4
      have hk5:KeepC B (b5 :: b3 :: bs) w3 w5:=by
       refine KeepC.trans (b:=w4) ⟨Below.grown (Below.refl _ _) hg4 hgeh.out (fun k hk=>?_),fun b hb=>hg4.block b (hqh.out.bsl b hb).1 (hoff b (by simp at hb ⊢;exact .inr (.inr hb)))⟩ (KeepC.turned m4 hqh.out.geH (Nat.le_trans hgeh.out hg4.size) fun b hb=>⟨(hqh.out.bsl b hb).2.2,Nat.lt_of_lt_of_le (hqh.out.bsl b hb).1 hg4.size⟩)
       exact (own_ge hownh.out hk).1
      have k35:=hk5.blk (x:=b3) (by simp) k3h.out
      have k55:=hk5.blk (x:=b5) (by simp) k5h.out
      have hf:CaMem w5 B bs bc bh (n+3) (c.acc ⟨t,kd,x⟩)/\KeepC B bs w w5:=by
       refine⟨?_,hKh.out.trans ((hk4h.out.trans hk5).less fun b hb=>List.mem_cons_of_mem _ (List.mem_cons_of_mem _ hb))⟩
       rw [hacc.out]
       unfold RCache.add
       rw [if_neg hcp]
       exact hq.less fun b hb=>List.mem_cons_of_mem _ (List.mem_cons_of_mem _ hb)
      have hfh:=Lib.hid hf
      refine hKK.out _ _ ⟨k35.cells 1,k55.cells 1⟩ (fun hHeld=>?_)
      clear hKK K m1 m2 m3 m4 hq hk5 hf k34 k54 k35 k55 hown1 hat1 hg4 hoff hm4
      try dsimp only
      refine wpAnyH_done (by kernel_rfl) ?_ _
      go_simp
      go_wp2_with fail
      first | go_end0 | refine bodyPost_ret (results_none rfl _ _ _) rfl ?_
      exact⟨rfl,hfh.out⟩
    · go_simp
      refine hKK.out _ _ hS2 (fun hHeld=>?_)
      clear hKK K
      try dsimp only
      refine wpAnyH_ready (rs:=[8]) (by kernel_rfl) (by simp) ?_
      refine AllReadyH.cons rfl (fun K hKK=>?_) (AllReadyH.nil)
      go_simp
      refine hKK.out _ _ hS2 (fun hHeld=>?_)
      clear hKK K hl1 hl2
      try dsimp only
      refine wpAnyH_ready (rs:=[11]) (by kernel_rfl) (by simp) ?_
      refine AllReadyH.cons rfl (fun K hKK=>?_) (AllReadyH.nil)
      have hl3:=hlenh.out
      dsimp only at hl3
      refine step_append_lies _ (by rfl) _ _ _ (by rfl) B 3 i0 _ 1 8 Tryd.underlying25 hi hz0 hz1 hz2 rfl (by omega) (Value.slice A (c1.hd x).length cc) (c1.hd x).length (rowOf (c1.hd x)) (by rfl) ((World.ownsRow.drew hownh.out).alloc _) ⟨w3.heap.size,0,none⟩ 1 1 [.int .i64 t] (by rfl) (by rfl) (cells_new1 w3 _ _) (by simp [Value.oneCell']) (by omega) (by unfold maxLen;omega) (by omega) (by have:=hgeh.out;simp;omega) (w3.heap.size+1) (by simp) ?_
      intro gg cap w4 hown1 hgrow hat1 hlt1
      have hg4:=grown1 hgrow
      have hoff:∀ b,b∈bc :: bh :: b5 :: b3 :: bs->some b≠(Value.slice A (c1.hd x).length cc).ownBlock:=fun b hb e=>r3h.out.off x b (by rw [hvxh.out];exact e.symm) hb
      have k34:Blk w4 b3 (.cells #[.map (some bc),.map (some bh)] 126):=(hg4.block b3 k3h.out.lt (hoff b3 (by simp))).trans k3h.out
      have k54:Blk w4 b5 (.cells #[.int .i64 kd,.int .i64 x,.int .i64 vl] 42):=(hg4.block b5 k5h.out.lt (hoff b5 (by simp))).trans k5h.out
      have hm4:=r1h.out.kept hg4 (hoff bh (by simp))
      refine hKK.out _ _ ⟨k34.cells 1,k54.cells 1⟩ (fun hHeld=>?_)
      clear hKK K hgrow hlt1
      try dsimp only
      refine wpAnyH_ready (rs:=[12]) (by kernel_rfl) (by simp) ?_
      refine AllReadyH.cons rfl (fun K hKK=>?_) (AllReadyH.nil)
      refine step_store_mapV rfl _ _ _ 124 rfl 3 25 key_int Tryd.underlying124 bh (n+2) mh fh rfl hm4 (by unfold maxLen;omega) (.int .i64 x) (.slice (some ⟨gg,0,none⟩) ((c1.hd x).length+1) cap) _ rfl rfl (ikey_of hxh.out) ?_
      intro w5 g2 m1 m2 m3 m4
      have hq:=CaMem.hold (w0:=w3) (w:=w4) hqh.out hxh.out (l:=c1.hd x++[t]) (by simp;omega) (fun s hs=>by
       rcases List.mem_append.1 hs with hs | hs
       · exact hqh.out.thr x s hs
       · simp at hs;subst hs;exact hth.out) r2h.out r3h.out (by unfold rowOf at hown1 ⊢;rw [List.length_append,List.map_append];exact hown1) (by rw [hvxh.out];exact hg4) (fun b hb=>by
       simp only [Value.ownBlock,Option.some.injEq] at hb
       subst hb
       rw [hvxh.out]
       exact hat1.imp id (by omega)) m1 m2 m3 m4
      have hk5:KeepC B (b5 :: b3 :: bs) w3 w5:=by
       refine KeepC.trans (b:=w4) ⟨Below.grown (Below.refl _ _) hg4 hgeh.out (fun k hk=>?_),fun b hb=>hg4.block b (hqh.out.bsl b hb).1 (hoff b (by simp at hb ⊢;exact .inr (.inr hb)))⟩ (KeepC.turned m4 hqh.out.geH (Nat.le_trans hgeh.out hg4.size) fun b hb=>⟨(hqh.out.bsl b hb).2.2,Nat.lt_of_lt_of_le (hqh.out.bsl b hb).1 hg4.size⟩)
       exact (own_ge hownh.out hk).1
      have k35:=hk5.blk (x:=b3) (by simp) k3h.out
      have k55:=hk5.blk (x:=b5) (by simp) k5h.out
      have hf:CaMem w5 B bs bc bh (n+3) (c.acc ⟨t,kd,x⟩)/\KeepC B bs w w5:=by
       refine⟨?_,hKh.out.trans ((hk4h.out.trans hk5).less fun b hb=>List.mem_cons_of_mem _ (List.mem_cons_of_mem _ hb))⟩
       rw [hacc.out]
       unfold RCache.add
       rw [if_neg hcp]
       exact hq.less fun b hb=>List.mem_cons_of_mem _ (List.mem_cons_of_mem _ hb)
      have hfh:=Lib.hid hf
      refine hKK.out _ _ ⟨k35.cells 1,k55.cells 1⟩ (fun hHeld=>?_)
      clear hKK K m1 m2 m3 m4 hq hk5 hf k34 k54 k35 k55 hown1 hat1 hg4 hoff hm4
      try dsimp only
      refine wpAnyH_done (by kernel_rfl) ?_ _
      go_simp
      go_wp2_with fail
      first | go_end0 | refine bodyPost_ret (results_none rfl _ _ _) rfl ?_
      exact⟨rfl,hfh.out⟩
theorem own_p (A:Option Addr)(cc:Nat)(l:List Int)(cell t:Int)(w:World)(h:Ints w (.slice A l.length cc) l)(hl:l.length<=1000000) :
  Calls Tryd.prog 71 #[.slice A l.length cc,.int .i64 cell,.int .i64 t] w fun e w'=>e=.returned (.bool (ownR0 l cell t))/\Ext w w':=by
 have hx:=Lib.hid (Ext.refl w)
 by_cases h0:0<=t
 rotate_left
 · have d0:decide (0<=t)=false:=by rw [decide_eq_false_iff_not];exact h0
   have hr:ownR0 l cell t=false:=by unfold ownR0;rw [decide_eq_false_iff_not];exact fun q=>h0 q.1
   rw [hr]
   clear h
   go_enter Tryd.func71,Tryd.ntmps71
   go_wp2_with fail
   go_ret
   exact⟨rfl,hx.out⟩
 have d0:decide (0<=t)=true:=by rw [decide_eq_true_eq];exact h0
 by_cases h1:0<=cell
 rotate_left
 · have d1:decide (0<=cell)=false:=by rw [decide_eq_false_iff_not];exact h1
   have hr:ownR0 l cell t=false:=by unfold ownR0;rw [decide_eq_false_iff_not];exact fun q=>h1 q.2.1
   rw [hr]
   clear h
   go_enter Tryd.func71,Tryd.ntmps71
   go_wp2_with fail
   go_ret
   exact⟨rfl,hx.out⟩
 have d1:decide (0<=cell)=true:=by rw [decide_eq_true_eq];exact h1
 by_cases h2:cell<l.length
 rotate_left
 · have d2:decide (cell<(l.length:Int))=false:=by rw [decide_eq_false_iff_not];exact h2
   have hr:ownR0 l cell t=false:=by unfold ownR0;rw [decide_eq_false_iff_not];exact fun q=>h2 q.2.2.1
   rw [hr]
   clear h
   go_enter Tryd.func71,Tryd.ntmps71
   go_wp2_with fail
   go_ret
   exact⟨rfl,hx.out⟩
 obtain⟨k,rfl⟩:∃ k:Nat,cell=k:=⟨cell.toNat,by omega⟩
 have hk:k<l.length:=by omega
 have d2:decide ((k:Int)<(l.length:Int))=true:=by rw [decide_eq_true_eq];exact h2
 obtain⟨b,off,rfl,hb,hc⟩:=h.at_ hk
 have hr:=Lib.hid (show ownR0 l (k:Int) t=decide (l.getD k 0=t) by
  unfold ownR0
  by_cases e:l.getD k 0=t
  · rw [decide_eq_true e,decide_eq_true_eq];exact⟨h0,h1,h2,by simpa using e⟩
  · rw [decide_eq_false e,decide_eq_false_iff_not];exact fun q=>e (by simpa using q.2.2.2))
 generalize l.getD k 0=v at *
 clear h
 go_enter Tryd.func71,Tryd.ntmps71
 go_wp2_with fail
 go_ret
 rw [hr.out]
 exact⟨ret_bool (by first | rfl | (cases e:(v==t) <;> simp_all) | simp),hx.out⟩
structure CtMem (w0 w:World) (b6 b7 b8 bx bc bh n:Nat) (ex:List Nat) (c:RCache) (s:RCount):Prop where
 ca:CaMem w w0.heap.size (ex++[b6,b7,b8,bx]) bc bh n c
 k6:Blk w b6 (.cells #[.int .i64 0,.int .i64 0,.int .i64 0,.int .i64 0,.int .i64 0] 47)
 k7:Blk w b7 (.cells #[.int .i64 s.reads,.int .i64 s.writes,.int .i64 s.home,.int .i64 s.cache,.int .i64 0] 47)
 k8:Blk w b8 (.cells #[.map (some bc),.map (some bh)] 126)
 mx:∃ fx,MapV w Tryd.prog 3 bx n fx s.cells.length/\∀ y,I64 y->(fx (.int .i64 y)).isSome=decide (y∈s.cells)
 ext:Ext w0 w
 ge:w0.heap.size<=b7/\w0.heap.size<=bx
 ne:b7≠b6/\b7≠b8
 ge6:w0.heap.size<=b6
section
variable {w0 w W:World} {b6 b7 b8 bx bc bh n:Nat} {ex:List Nat} {c:RCache} {s:RCount}
theorem CtMem.neX (h:CtMem w0 w b6 b7 b8 bx bc bh n ex c s):bx≠b6/\bx≠b7/\bx≠b8:=by
 obtain⟨fx,⟨D,⟨es,ck,hh,_⟩,_⟩,_⟩:=h.mx
 refine⟨?_,?_,?_⟩ <;> rintro rfl
 · have:=h.k6;unfold Blk at this;rw [hh] at this;cases this
 · have:=h.k7;unfold Blk at this;rw [hh] at this;cases this
 · have:=h.k8;unfold Blk at this;rw [hh] at this;cases this
theorem CtMem.extend (h:CtMem w0 w b6 b7 b8 bx bc bh n ex c s)(hx:Ext w W):CtMem w0 W b6 b7 b8 bx bc bh n ex c s :=
 { h with
  ca:=h.ca.ext hx
  k6:=h.k6.ext hx
  k7:=h.k7.ext hx
  k8:=h.k8.ext hx
  mx:=by
   obtain⟨fx,q1,q2⟩:=h.mx
   exact⟨fx,q1.ext hx,q2⟩
  ext:=h.ext.trans hx }
theorem CtMem.alloc (h:CtMem w0 w b6 b7 b8 bx bc bh n ex c s)(o:Obj):CtMem w0 (w.alloc o) b6 b7 b8 bx bc bh n (w.heap.size :: ex) c s :=
 { h.extend ((Ext.refl w).alloc o) with ca:=h.ca.alloc o }
theorem CtMem.less {ey:List Nat}(h:CtMem w0 w b6 b7 b8 bx bc bh n ex c s)(he:∀ b∈ey,b∈ex):CtMem w0 w b6 b7 b8 bx bc bh n ey c s :=
 { h with ca:=h.ca.less fun b hb=>(List.mem_append.1 hb).elim (fun q=>List.mem_append_left _ (he b q)) (fun q=>List.mem_append_right _ q) }
theorem CtMem.mono (h:CtMem w0 w b6 b7 b8 bx bc bh n ex c s){m:Nat}(hm:n<=m):CtMem w0 w b6 b7 b8 bx bc bh m ex c s :=
 { h with
  ca:=h.ca.mono hm
  mx:=by
   obtain⟨fx,q1,q2⟩:=h.mx
   exact⟨fx,q1.mono hm,q2⟩ }
theorem CtMem.acc {c':RCache}(h:CtMem w0 w b6 b7 b8 bx bc bh n ex c s)(hc:CaMem W w0.heap.size (ex++[b6,b7,b8,bx]) bc bh (n+3) c')(hk:KeepC w0.heap.size (ex++[b6,b7,b8,bx]) w W):CtMem w0 W b6 b7 b8 bx bc bh (n+3) ex c' s :=
 { h with
  ca:=hc
  k6:=hk.blk (by simp) h.k6
  k7:=hk.blk (by simp) h.k7
  k8:=hk.blk (by simp) h.k8
  mx:=by
   obtain⟨fx,q1,q2⟩:=h.mx
   exact⟨fx,(q1.same (hk.2 bx (by simp))).mono (by omega),q2⟩
  ext:=Below.trans h.ext hk.1 }
theorem CaMem.grown {B:Nat}{bs:List Nat}(h:CaMem w B bs bc bh n c){b:Nat}(hb:b∈bs)(hg:w.grownBy W (some b)):CaMem W B bs bc bh n c :=
 { h with
  cop:=by
   obtain⟨cp,mc,h1,h2⟩:=h.cop
   exact⟨cp,mc,h1.kept hg (by intro e;injection e with e;exact (h.bsl b hb).2.1 e.symm),h2⟩
  hol:=by
   obtain⟨fh,mh,hv,h1,h2,h3⟩:=h.hol
   exact⟨fh,mh,hv,h1.kept hg (by intro e;injection e with e;exact (h.bsl b hb).2.2 e.symm),h2,h3.kept hg fun x hx=>by injection hx with hx;subst hx;exact List.mem_cons_of_mem _ (List.mem_cons_of_mem _ hb)⟩
  bsl:=fun x hx=>⟨Nat.lt_of_lt_of_le (h.bsl x hx).1 hg.size,(h.bsl x hx).2⟩ }
theorem grown_cell (w:World)(b i:Nat)(v:Value):w.grownBy (w.setCell ⟨b,i,none⟩ v) (some b):=⟨rfl,rfl,rfl,by simp,fun k _ hne=>heap_setCell_ne w v (fun e=>hne (by rw [e]))⟩
theorem CtMem.bump {s':RCount}(h:CtMem w0 w b6 b7 b8 bx bc bh n ex c s)(i:Nat)(v:Value)
  (hv:(#[.int .i64 s.reads,.int .i64 s.writes,.int .i64 s.home,.int .i64 s.cache,.int .i64 0]:Array Value).setIfInBounds i v=#[.int .i64 s'.reads,.int .i64 s'.writes,.int .i64 s'.home,.int .i64 s'.cache,.int .i64 0])(hc:s'.cells=s.cells) :
  CtMem w0 (w.setCell ⟨b7,i,none⟩ v) b6 b7 b8 bx bc bh n ex c s':=by
 have hg:=grown_cell w b7 i v
 refine { h with ca:=h.ca.grown (b:=b7) (by simp) hg,k6:=?_,k7:=?_,k8:=?_,mx:=?_,ext:=h.ext.setCell h.ge.1 _ }
 · exact (heap_setCell_ne w v (Ne.symm h.ne.1)).trans h.k6
 · have:=heap_setCell (i:=i) h.k7 v
   rw [hv] at this
   exact this
 · exact (heap_setCell_ne w v (Ne.symm h.ne.2)).trans h.k8
 · obtain⟨fx,q1,q2⟩:=h.mx
   rw [hc]
   exact⟨fx,q1.same (heap_setCell_ne w v h.neX.2.1),q2⟩
theorem CtMem.cell (h:CtMem w0 w b6 b7 b8 bx bc bh n ex c s){x:Int}(hx:I64 x){fx g:Lit->Option Value}{v:Value}(q1:∀ y,I64 y->(fx (.int .i64 y)).isSome=decide (y∈s.cells))
  (hM:MapV W Tryd.prog 3 bx (n+1) g (if (fx (.int .i64 x)).isSome=true then s.cells.length else s.cells.length+1))(h1:g (.int .i64 x)=some v)(h2:∀ k,k≠.int .i64 x->g k=fx k)(ht:w.mapTurned W bx) :
  CtMem w0 W b6 b7 b8 bx bc bh (n+1) ex c { s with cells:=if x∈s.cells then s.cells else s.cells++[x] }:=by
 have hg:=ht.grown
 have nx:=h.neX
 have hb:∀ b,b≠bx->b<w.heap.size->W.heap[b]?=w.heap[b]?:=fun b hb hl=>hg.block b hl (by intro e;injection e with e;exact hb e)
 refine⟨(h.ca.grown (b:=bx) (by simp) hg).mono (by omega),(hb b6 (Ne.symm nx.1) h.k6.lt).trans h.k6,(hb b7 (Ne.symm nx.2.1) h.k7.lt).trans h.k7,(hb b8 (Ne.symm nx.2.2) h.k8.lt).trans h.k8,⟨g,?_,fun y hy=>?_⟩,turned_ext h.ext h.ge.2 ht,h.ge,h.ne,h.ge6⟩
 · rw [q1 x hx] at hM
   dsimp only
   by_cases e:x∈s.cells
   · rw [if_pos (by simpa using e)] at hM
     rw [if_pos e]
     exact hM
   · rw [if_neg (by simpa using e)] at hM
     rw [if_neg e,List.length_append]
     exact hM
 · dsimp only
   by_cases e:y=x
   · subst e
     rw [h1]
     split
     · rename_i h;simp [h]
     · simp
   · rw [h2 _ (by intro e2;injection e2 with _ e2;exact e e2),q1 y hy]
     split
     · rfl
     · simp [e]
end
end Go.Proofs.YtiahgcaenneonaaDoor
namespace Kv
theorem rcount_le (homes:List Int)(asked:Int->Bool)(l:List RMark):(rcount homes asked l).2.reads<=l.length/\(rcount homes asked l).2.writes<=l.length/\(rcount homes asked l).2.home<=l.length/\(rcount homes asked l).2.cache<=l.length/\(rcount homes asked l).2.cells.length<=l.length:=by
 refine list_snoc (P:=fun l=>(rcount homes asked l).2.reads<=l.length/\(rcount homes asked l).2.writes<=l.length/\(rcount homes asked l).2.home<=l.length/\(rcount homes asked l).2.cache<=l.length/\(rcount homes asked l).2.cells.length<=l.length) ⟨Nat.le_refl _,Nat.le_refl _,Nat.le_refl _,Nat.le_refl _,Nat.le_refl _⟩ ?_ l
 intro l m ⟨h1,h2,h3,h4,h5⟩
 rw [rcount_snoc]
 unfold rstep
 split
 · dsimp only
   split
   · unfold RCount.tell
     dsimp only
     rw [List.length_append]
     refine⟨?_,?_,?_,?_,?_⟩
     · split <;> simp <;> omega
     · split <;> simp <;> omega
     · split <;> simp <;> omega
     · split <;> simp <;> omega
     · split <;> simp <;> omega
   · rw [List.length_append]
     exact⟨by omega,by omega,by omega,by omega,by omega⟩
 · rw [List.length_append]
   exact⟨by omega,by omega,by omega,by omega,by omega⟩
end Kv
namespace Go.Proofs.YtiahgcaenneonaaDoor
open Go.RowKit Kv
def markVals (q:RMark × Int):List Value:=[.int .i64 q.1.th,.int .i64 q.1.kind,.int .i64 q.1.cell,.int .i64 q.2]
def encCt (s:RCount):Value:=.agg #[.int .i64 s.reads,.int .i64 s.writes,.int .i64 s.home,.int .i64 s.cache,.int .i64 s.cells.length]
theorem of1_p (x:Int)(w:World):Calls Tryd.prog 49 #[.int .i64 x] w fun e w'=>e=.returned (.bool true)/\w=w':=by
 go_enter Tryd.func49,Tryd.ntmps49
 go_wp2_with fail
 go_ret
 exact⟨rfl,rfl⟩
theorem by1_p (x t:Int)(bt:Nat)(w:World)(h:Blk w bt (.cells #[.int .i64 t] 3)):Calls Tryd.prog 50 #[.int .i64 x,.pointer (some ⟨bt,0,none⟩)] w fun e w'=>e=.returned (.bool (x==t))/\w=w':=by
 have c:=h.cells 0
 clear h
 go_enter Tryd.func50,Tryd.ntmps50
 go_wp2_with fail
 go_ret
 exact⟨by first | rfl | simp,rfl⟩
theorem mark_at {w:World}{A:Option Addr}{l:List (RMark × Int)}(h:Vals w A (l.flatMap markVals)){i:Nat}{q:RMark × Int}(hi:l[i]?=some q) :
  ∃ b,A=some ⟨b,0,none⟩/\b<w.heap.size/\w.cell? ⟨b,i*4,none⟩=some (.int .i64 q.1.th)/\w.cell? ⟨b,i*4+1,none⟩=some (.int .i64 q.1.kind)/\w.cell? ⟨b,i*4+2,none⟩=some (.int .i64 q.1.cell)/\w.cell? ⟨b,i*4+3,none⟩=some (.int .i64 q.2):=by
 have h0:=flat_at markVals 4 (fun _=>rfl) l i 0 q hi (by omega)
 have h1:=flat_at markVals 4 (fun _=>rfl) l i 1 q hi (by omega)
 have h2:=flat_at markVals 4 (fun _=>rfl) l i 2 q hi (by omega)
 have h3:=flat_at markVals 4 (fun _=>rfl) l i 3 q hi (by omega)
 obtain⟨b,rfl,hb,hc⟩:=h (fun e=>by rw [e] at h0;simp [markVals] at h0)
 rw [Nat.mul_comm i 4]
 exact⟨b,rfl,hb,hc _ _ h0,hc _ _ h1,hc _ _ h2,hc _ _ h3⟩
theorem CtMem.start (w:World){b6 b7 bc bh b8 bx:Nat}(h6:w.heap.size=b6)(h7:w.heap.size+1=b7)(hc:w.heap.size+1+1=bc)(hh:w.heap.size+1+1+1=bh)(h8:w.heap.size+1+1+1+1=b8)(hx:w.heap.size+1+1+1+1+1=bx) :
  CtMem w ((((((w.alloc (.cells #[.int .i64 0,.int .i64 0,.int .i64 0,.int .i64 0,.int .i64 0] 47)).alloc (.cells #[.int .i64 0,.int .i64 0,.int .i64 0,.int .i64 0,.int .i64 0] 47)).alloc (.map #[] 0)).alloc (.map #[] 0)).alloc (.cells #[.map (some bc),.map (some bh)] 126)).alloc (.map #[] 0))
   b6 b7 b8 bx bc bh 0 [] RCache.zero RCount.zero:=by
 have k6:=Blk.new w (.cells #[.int .i64 0,.int .i64 0,.int .i64 0,.int .i64 0,.int .i64 0] 47)
 have x6:=(Ext.refl w).alloc (.cells #[.int .i64 0,.int .i64 0,.int .i64 0,.int .i64 0,.int .i64 0] 47)
 have s6:(w.alloc (.cells #[.int .i64 0,.int .i64 0,.int .i64 0,.int .i64 0,.int .i64 0] 47)).heap.size=w.heap.size+1:=by simp
 generalize w.alloc (.cells #[.int .i64 0,.int .i64 0,.int .i64 0,.int .i64 0,.int .i64 0] 47)=w1 at *
 have k7:=Blk.new w1 (.cells #[.int .i64 0,.int .i64 0,.int .i64 0,.int .i64 0,.int .i64 0] 47)
 replace k6:=k6.alloc (w:=w1) (.cells #[.int .i64 0,.int .i64 0,.int .i64 0,.int .i64 0,.int .i64 0] 47)
 replace x6:=x6.alloc (b:=w1) (.cells #[.int .i64 0,.int .i64 0,.int .i64 0,.int .i64 0,.int .i64 0] 47)
 have s7:(w1.alloc (.cells #[.int .i64 0,.int .i64 0,.int .i64 0,.int .i64 0,.int .i64 0] 47)).heap.size=w1.heap.size+1:=by simp
 generalize w1.alloc (.cells #[.int .i64 0,.int .i64 0,.int .i64 0,.int .i64 0,.int .i64 0] 47)=w2 at *
 have kc:=MapV.made w2 Tryd.prog 154
 replace k6:=k6.alloc (w:=w2) (.map #[] 0)
 replace k7:=k7.alloc (w:=w2) (.map #[] 0)
 replace x6:=x6.alloc (b:=w2) (.map #[] 0)
 have sc:(w2.alloc (.map #[] 0)).heap.size=w2.heap.size+1:=by simp
 generalize w2.alloc (.map #[] 0)=w3 at *
 have kh:=MapV.made w3 Tryd.prog 3
 replace k6:=k6.alloc (w:=w3) (.map #[] 0)
 replace k7:=k7.alloc (w:=w3) (.map #[] 0)
 replace kc:=kc.alloc (w:=w3) (.map #[] 0)
 replace x6:=x6.alloc (b:=w3) (.map #[] 0)
 have sh:(w3.alloc (.map #[] 0)).heap.size=w3.heap.size+1:=by simp
 generalize w3.alloc (.map #[] 0)=w4 at *
 have k8:=Blk.new w4 (.cells #[.map (some bc),.map (some bh)] 126)
 replace k6:=k6.alloc (w:=w4) (.cells #[.map (some bc),.map (some bh)] 126)
 replace k7:=k7.alloc (w:=w4) (.cells #[.map (some bc),.map (some bh)] 126)
 replace kc:=kc.alloc (w:=w4) (.cells #[.map (some bc),.map (some bh)] 126)
 replace kh:=kh.alloc (w:=w4) (.cells #[.map (some bc),.map (some bh)] 126)
 replace x6:=x6.alloc (b:=w4) (.cells #[.map (some bc),.map (some bh)] 126)
 have s8:(w4.alloc (.cells #[.map (some bc),.map (some bh)] 126)).heap.size=w4.heap.size+1:=by simp
 generalize w4.alloc (.cells #[.map (some bc),.map (some bh)] 126)=w5 at *
 have kx:=MapV.made w5 Tryd.prog 3
 replace k6:=k6.alloc (w:=w5) (.map #[] 0)
 replace k7:=k7.alloc (w:=w5) (.map #[] 0)
 replace k8:=k8.alloc (w:=w5) (.map #[] 0)
 replace kc:=kc.alloc (w:=w5) (.map #[] 0)
 replace kh:=kh.alloc (w:=w5) (.map #[] 0)
 replace x6:=x6.alloc (b:=w5) (.map #[] 0)
 have sx:(w5.alloc (.map #[] 0)).heap.size=w5.heap.size+1:=by simp
 rw [s6] at k7 s7
 rw [show w2.heap.size=bc by omega] at kc
 rw [show w3.heap.size=bh by omega] at kh
 rw [show w4.heap.size=b8 by omega] at k8
 rw [show w5.heap.size=bx by omega] at kx
 rw [show w.heap.size=b6 from h6] at k6
 rw [show w.heap.size+1=b7 from h7] at k7
 refine⟨⟨⟨_,_,kc,fun s y _ _=>rfl⟩,⟨_,_,_,kh,fun y _=>rfl,HRows.start _ _ _ (by omega)⟩,fun y=>Nat.le_refl _,fun y s h=>(by simp [RCache.zero] at h),by omega,by omega,by omega,fun b hb=>?_⟩,k6,k7,k8,⟨_,kx,fun y _=>rfl⟩,x6,⟨by omega,by omega⟩,⟨by omega,by omega⟩,by omega⟩
 simp only [List.nil_append,List.mem_cons,List.not_mem_nil,or_false] at hb
 rcases hb with rfl | rfl | rfl | rfl <;> omega
theorem Blk.set {w:World}{b c i:Nat}{o:Obj}(h:Blk w b o)(hb:b≠c)(v:Value):Blk (w.setCell ⟨c,i,none⟩ v) b o:=(heap_setCell_ne w v hb).trans h
theorem rstep_skip {homes:List Int}{ask:Int->Bool}{s:RCache × RCount}{m:RMark}(h1:m.kind≠1)(h2:m.kind≠2):rstep homes ask s m=s:=by
 unfold rstep
 rw [if_neg (fun q=>q.elim h1 h2)]
theorem rstep_not {homes:List Int}{ask:Int->Bool}{s:RCache × RCount}{m:RMark}(h:m.kind=1∨m.kind=2)(ha:ask m.th=false):rstep homes ask s m=(s.1.acc m,s.2):=by
 unfold rstep
 rw [if_pos h,if_neg (by rw [ha];decide)]
theorem rstep_ask {homes:List Int}{ask:Int->Bool}{s:RCache × RCount}{m:RMark}(h:m.kind=1∨m.kind=2)(ha:ask m.th=true):rstep homes ask s m=(s.1.acc m,s.2.tell homes s.1 m):=by
 unfold rstep
 rw [if_pos h,if_pos ha]
end Go.Proofs.YtiahgcaenneonaaDoor
