/-
  SnapCostsSaid: part 2 of its proof.
-/
import Derived.Test.YtbphlkaihfbgeaaJSnapCostsSaid1
import Derived.Deep.DeepCutAuto
import Derived.Maps.AppendAt
import Derived.Defers
import Derived.Recover
import Derived.LaidEqlPtr
import Derived.Deep.RegionHeld3
import Derived.Laws.AppendOwnNone
import Derived.Deep.QuietTactic
import Derived.BigQuiet
import Derived.ProofKit
import Derived.OpenShut
import Derived.Deep.DeepHandedRow
import Derived.WideKeyArgs
import Derived.Carry
import Derived.ChangeSame
import Derived.Lib.SmallJoins
import Derived.Test.YtbphlkaihfbgeaaRows
import Derived.Laws.BitsLemmas
import Derived.ScopeJumps
import Derived.WalkMore
import Derived.ChangeKeysEq
namespace Go.Proofs.Ytbphlkaihfbgeaa
open Go.RowKit Kv
theorem flat_at {α:Type}(f:α->List Value)(k:Nat)(hf:∀ a,(f a).length=k):∀ (l:List α) (i j:Nat) (a:α),l[i]?=some a->j<k->(l.flatMap f)[k*i+j]?=(f a)[j]?
 | [],i,j,a,h,_=>by simp at h
 | x :: l,0,j,a,h,hj=>by
   obtain rfl:x=a:=by simpa using h
   rw [List.flatMap_cons,Nat.mul_zero,Nat.zero_add,List.getElem?_append_left (by rw [hf];exact hj)]
 | x :: l,i+1,j,a,h,hj=>by
   have:=flat_at f k hf l i j a (by simpa using h) hj
   rw [List.flatMap_cons,List.getElem?_append_right (by rw [hf,Nat.mul_add];omega),hf,show k*(i+1)+j-k=k*i+j by rw [Nat.mul_add];omega]
   exact this
theorem flat_len {α:Type}(f:α->List Value)(k:Nat)(hf:∀ a,(f a).length=k):∀ l:List α,(l.flatMap f).length=k*l.length
 | []=>rfl
 | x :: l=>by rw [List.flatMap_cons,List.length_append,hf,flat_len f k hf l,List.length_cons,Nat.mul_add];omega
def Recs (w:World) (v:Value) (n:Nat) (vals:List Value):Prop:=∃ A c,v=.slice A n c/\n<=c/\c<=9223372036854775807/\Vals w A vals
theorem Recs.ext {w w':World}{v:Value}{n:Nat}{vals:List Value}(h:Recs w v n vals)(hx:Ext w w'):Recs w' v n vals:=by
 obtain⟨A,c,e,h1,h2,h3⟩:=h
 exact⟨A,c,e,h1,h2,h3.ext hx⟩
theorem Recs.of_row {w:World}{B e size n:Nat}{v:Value}{xs:List Value}(h:w.ownsRow B e size v n xs):Recs w v n xs:=vals_row h
structure RegCells (w:World) (b o:Nat) (r:Reg):Prop where
 kind:w.cell? ⟨b,o,none⟩=some (.int .i64 r.kind)
 base:w.cell? ⟨b,o+1,none⟩=some (.int .i64 r.base)
 loc:w.cell? ⟨b,o+2,none⟩=some (.int .i64 r.loc)
 n:w.cell? ⟨b,o+3,none⟩=some (.int .i64 r.n)
 wr:w.cell? ⟨b,o+4,none⟩=some (.int .i64 r.wr)
 rd:w.cell? ⟨b,o+5,none⟩=some (.int .i64 r.rd)
 top:w.cell? ⟨b,o+6,none⟩=some (.int .i64 r.top)
theorem reg_cells {w:World}{b:Nat}{l:List Reg}(hc:∀ (i:Nat) u,(l.flatMap regVals)[i]?=some u->w.cell? ⟨b,i,none⟩=some u){i:Nat}{r:Reg}(hi:l[i]?=some r):RegCells w b (i*7) r:=by
 have f:=fun j hj=>flat_at regVals 7 (fun _=>rfl) l i j r hi hj
 rw [Nat.mul_comm i 7]
 exact⟨hc _ _ (f 0 (by omega)),hc _ _ (f 1 (by omega)),hc _ _ (f 2 (by omega)),hc _ _ (f 3 (by omega)),hc _ _ (f 4 (by omega)),hc _ _ (f 5 (by omega)),hc _ _ (f 6 (by omega))⟩
theorem info_reg:(Try.prog.info? 56).map (fun i=>(i.zero,i.size,i.bytes))=some (some (.agg #[.int .i64 0,.int .i64 0,.int .i64 0,.int .i64 0,.int .i64 0,.int .i64 0,.int .i64 0]),7,56):=by kernel_rfl
theorem append_rec {ops:Array Oper}{rest:List Oper}{o:Oper}{a:Act}{Q:Exit->Act->World->Prop}{w0 w:World}{e t:TypeId}{z:Value}{size bytes:Nat}
  (hinfo:(Try.prog.info? e).map (fun i=>(i.zero,i.size,i.bytes))=some (some z,size,bytes))(hund:Try.prog.underlying t=some (.slice e))(hzs:z.cells.size=size)(hsz:0<size)(hby:bytes<=100)
  (hgd:o.guard=none)(s x:Operand)(ho:o.op=.call { callee:=.builtin .append,args:=#[s,x],argTypes:=#[t,t] })
  (v:Value)(n:Nat)(xs news:List Value)(hX:Ext w0 w)(hown:w.ownsRow w0.heap.size e size v n xs)(hs:a.eval s=v)(hx:a.eval x=.slice (some ⟨w.heap.size,0,none⟩) 1 1)
  (hnl:news.length=size)(h1:∀ u∈news,u.oneCell'=true)(hlen:n<1000000000)
  (h:∀ v' w',w'.ownsRow w0.heap.size e size v' (n+1) (xs++news)->Ext w0 w'->(∀ k,k<w.heap.size->v.ownBlock≠some k->w'.heap[k]?=w.heap[k]?)->wpList Try.prog ops Q rest (a.put o.dst v') w') :
  wpList Try.prog ops Q (o :: rest) a (w.alloc (.cells news.toArray e)):=by
 obtain⟨i0,hi,hz0,hz1,hz2⟩:=info_parts hinfo
 refine wpList_append_own_at _ hgd s x t ho w0.heap.size e i0 z size bytes hund hi hz0 hz1 hz2 hzs hsz v n xs hs (World.ownsRow.alloc hown _) ⟨w.heap.size,0,none⟩ 1 1 news hx (by omega) ?_ h1 (by unfold maxLen;omega) ?_ (by have:=hX.size;simp;omega) fun v' w' h2 h3 _ _=>?_
 · intro j u hu
   rw [Addr.add_lit,Nat.zero_add]
   refine (cell_of_heap (w:=w.alloc (.cells news.toArray e)) (b:=w.heap.size) (cs:=news.toArray) (t:=e) (fz:=(0,0)) (heap_alloc_new w _) j).trans (by simpa using hu)
 · have:(n+1)*bytes<=(n+1)*100:=Nat.mul_le_mul_left _ hby
   omega
 · refine h v' w' h2 (Below.grown (Below.alloc hX hX.size _) h3 (by have:=hX.size;simp;omega) fun k hk=>?_) (fun k hk hv=>(h3.block k (by simp;omega) (fun e=>hv e.symm)).trans (Below.heap_alloc w _ k hk))
   rcases hown.2 with⟨rfl,_⟩ | ⟨g,cap,cur,rfl,hgb,_⟩
   · simp [Value.ownBlock] at hk
   · simp [Value.ownBlock] at hk
     omega
def lenOf:Option Value->Nat
 | some (.slice _ n _)=>n
 | _=>0
def leftW (i j:Nat) (w:World) (p:Nat):Nat:=lenOf (w.cell? ⟨p,i,none⟩)-lenOf (w.cell? ⟨p,j,none⟩)
theorem row_slice {w:World}{B e size n:Nat}{v:Value}{xs:List Value}(h:w.ownsRow B e size v n xs):∃ A c,v=.slice A n c:=by
 rcases h.2 with⟨rfl,h0⟩ | ⟨g,cap,cur,rfl,_⟩
 · exact⟨none,0,by rw [h0]⟩
 · exact⟨_,_,rfl⟩
theorem Plays.left {B p:Nat}{w:World}{S:TS}(h:Plays B w p S):leftW 1 3 w p=S.left:=by
 obtain⟨_,vA,vL,vC,vN,L,h⟩:=h
 obtain⟨A,c,rfl,_⟩:=h.ans.slice
 obtain⟨C,d,rfl⟩:=row_slice h.rowC
 unfold leftW TS.left
 rw [cell_of_heap h.heap,cell_of_heap h.heap]
 rfl
theorem RegsAt.extL {ix:List Nat}{p b:Nat}{w w':World}{l:List Reg}(h:RegsAt ix w p b l)(hx:Ext w w')(hp:p<w.heap.size):RegsAt ix w' p b l:=h.keep (B:=0) (Keep.of_ext hx hp (Nat.zero_le _))
theorem Plays.len {B p:Nat}{w:World}{S:TS}(h:Plays B w p S):S.acc.length<=S.ans.length:=h.1
theorem RegsAt.four {ix:List Nat}{p b:Nat}{w:World}{x y z u:Reg}(h:RegsAt ix w p b [x,y,z,u]) :
  RegCells w b 0 x/\RegCells w b 7 y/\RegCells w b 14 z/\RegCells w b 21 u :=
 ⟨⟨h.cells 0 _ rfl,h.cells 1 _ rfl,h.cells 2 _ rfl,h.cells 3 _ rfl,h.cells 4 _ rfl,h.cells 5 _ rfl,h.cells 6 _ rfl⟩,⟨h.cells 7 _ rfl,h.cells 8 _ rfl,h.cells 9 _ rfl,h.cells 10 _ rfl,h.cells 11 _ rfl,h.cells 12 _ rfl,h.cells 13 _ rfl⟩,
  ⟨h.cells 14 _ rfl,h.cells 15 _ rfl,h.cells 16 _ rfl,h.cells 17 _ rfl,h.cells 18 _ rfl,h.cells 19 _ rfl,h.cells 20 _ rfl⟩,⟨h.cells 21 _ rfl,h.cells 22 _ rfl,h.cells 23 _ rfl,h.cells 24 _ rfl,h.cells 25 _ rfl,h.cells 26 _ rfl,h.cells 27 _ rfl⟩⟩
end Go.Proofs.Ytbphlkaihfbgeaa
namespace Kv
theorem Prog.Notes.keep {α:Type}{p:Prog α}{n:Nat}(h:p.Notes 0){S S1:TS}{a:Option α}(hr:p.run S=(a,S1))(hn:S.nts.length<=n):S1.nts.length<=n:=by
 have:=h.run S
 rw [hr] at this
 simp only at this
 omega
end Kv
namespace Go.Proofs.Ytbphlkaihfbgeaa
open Go.RowKit Kv
theorem RegsAt.nth {ix:List Nat}{p b:Nat}{w:World}{l:List Reg}(h:RegsAt ix w p b l){i:Nat}{r:Reg}(hi:l[i]?=some r):RegCells w b (i*7) r:=reg_cells h.cells hi
theorem Plays.fresh {B p b:Nat}{w w':World}{S:TS}(h:Plays B w p S)(hx:Ext w w')(hb:w.heap.size<=b):¬ ownR [2,3,4] w' p b:=by
 obtain⟨_,_,_,_,_,_,h⟩:=h
 intro ho
 have:=(h.own ((ownR_same (Below.block hx p h.lt) b).1 ho)).2
 omega
end Go.Proofs.Ytbphlkaihfbgeaa
namespace Kv
inductive Prog.Sets {α:Type} (lo hi:Int):Prog α->Prop
 | ret (a:α):Sets lo hi (.ret a)
 | read (c:Int) {k:Int->Prog α}:(∀ x,Sets lo hi (k x))->Sets lo hi (.read c k)
 | write (c v:Int) {k:Unit->Prog α}:Sets lo hi (k ())->Sets lo hi (.write c v k)
 | get (i:Int) {k:Int->Prog α}:(∀ x,Sets lo hi (k x))->Sets lo hi (.get i k)
 | set (i v:Int) {k:Unit->Prog α}:lo<=i->i<hi->Sets lo hi (k ())->Sets lo hi (.set i v k)
 | note (m:Int) {k:Unit->Prog α}:Sets lo hi (k ())->Sets lo hi (.note m k)
theorem Prog.Sets.bind {α β:Type}{lo hi:Int}{p:Prog α}{f:α->Prog β}(h:p.Sets lo hi)(hf:∀ a,(f a).Sets lo hi):(p.bind f).Sets lo hi:=by
 induction h with
 | ret a=>exact hf a
 | read c _ ih=>exact .read c fun x=>ih x
 | write c v _ ih=>exact .write c v ih
 | get c _ ih=>exact .get c fun x=>ih x
 | set c v h1 h2 _ ih=>exact .set c v h1 h2 ih
 | note m _ ih=>exact .note m ih
theorem Prog.Sets.mono {α:Type}{lo hi lo' hi':Int}{p:Prog α}(h:p.Sets lo hi)(h1:lo'<=lo)(h2:hi<=hi'):p.Sets lo' hi':=by
 induction h with
 | ret a=>exact .ret a
 | read c _ ih=>exact .read c fun x=>ih x
 | write c v _ ih=>exact .write c v ih
 | get c _ ih=>exact .get c fun x=>ih x
 | set c v h3 h4 _ ih=>exact .set c v (by omega) (by omega) ih
 | note m _ ih=>exact .note m ih
theorem Prog.Sets.got {α:Type}{lo hi i:Int}{p:Prog α}(h:p.Sets lo hi)(hi2:i<lo∨hi<=i):∀ S:TS,(p.run S).2.got i=S.got i:=by
 induction h with
 | ret a=>intro S;rfl
 | read c _ ih =>
   intro S
   simp only [Prog.run]
   cases S.next with
   | none=>rfl
   | some v=>exact (ih v _).trans rfl
 | write c v _ ih =>
   intro S
   simp only [Prog.run]
   cases S.next with
   | none=>rfl
   | some _=>exact (ih _).trans rfl
 | get c _ ih=>intro S;exact ih _ _
 | set j v h1 h2 _ ih =>
   intro S
   refine (ih (S.upd j v)).trans ?_
   unfold TS.got TS.upd
   split
   · rfl
   · split
     · simp only
       rw [if_neg (by omega)]
     · rfl
 | note m _ ih=>intro S;exact (ih _).trans rfl
theorem sets_rd (lo hi c:Int):(rd c).Sets lo hi:=.read c fun x=>.ret x
theorem ranks_mem {but:Int}:∀ (n:Nat) (i:Int) {a:Int},a∈ranksFrom but n i->i<=a/\a<i+n/\a≠but
 | 0,i,a,h=>by cases h
 | n+1,i,a,h=>by
   unfold ranksFrom at h
   split at h
   · have:=ranks_mem n (i+1) h
     omega
   · rcases List.mem_cons.1 h with rfl | h
     · omega
     · have:=ranks_mem n (i+1) h
       omega
theorem tells_bd {k a b:Int}(ha:0<=a)(ha2:a<k)(hb:0<=b)(hb2:b<k)(hab:a≠b):0<=tellsM k a b/\tellsM k a b<k*k:=by
 unfold tellsM
 have h1:a*(k-1)<=(k-1)*(k-1):=Int.mul_le_mul_of_nonneg_right (by omega) (by omega)
 have h0:0<=a*(k-1):=Int.mul_nonneg ha (by omega)
 have h2:(k-1)*(k-1)=k*k-2*k+1:=by
  rw [Int.sub_mul,Int.mul_sub,Int.mul_one,Int.one_mul];omega
 split
 · omega
 · rename_i h
   by_cases e:a=k-1
   · omega
   · have h3:a*(k-1)<=(k-2)*(k-1):=Int.mul_le_mul_of_nonneg_right (by omega) (by omega)
     have h4:(k-2)*(k-1)=k*k-3*k+2:=by
      rw [Int.sub_mul,Int.mul_sub,Int.mul_one];omega
     omega
end Kv
namespace Go.Proofs.Ytbphlkaihfbgeaa
open Go.RowKit Kv
theorem locals_bd (n:Int)(h1:1<=n)(h2:n<=8):(0<=18*(n-1)/\18*(n-1)<=126)/\(0<=18*(n-1)*(n-1)/\18*(n-1)*(n-1)<=882)/\(0<=n*(2+18*(n-1)*(n-1))/\n*(2+18*(n-1)*(n-1))<=7072):=by
 have a1:0<=18*(n-1)*(n-1):=Int.mul_nonneg (by omega) (by omega)
 have a2:18*(n-1)*(n-1)<=126*7:=Int.mul_le_mul (by omega) (by omega) (by omega) (by omega)
 have a3:0<=n*(2+18*(n-1)*(n-1)):=Int.mul_nonneg (by omega) (by omega)
 have a4:n*(2+18*(n-1)*(n-1))<=8*884:=Int.mul_le_mul (by omega) (by omega) (by omega) (by omega)
 omega
@[go_sem] theorem build_reg (a b c d e f g:Int) (w:World):(Instr.build 56 #[(0,.int .i64 a),(1,.int .i64 b),(2,.int .i64 c),(3,.int .i64 d),(4,.int .i64 e),(5,.int .i64 f),(6,.int .i64 g)]).run Try.prog w=.ok (.agg #[.int .i64 a,.int .i64 b,.int .i64 c,.int .i64 d,.int .i64 e,.int .i64 f,.int .i64 g]) w:=run_build w 56 _ _ (by kernel_rfl)
end Go.Proofs.Ytbphlkaihfbgeaa
namespace Kv
end Kv
namespace Go.Proofs.Ytbphlkaihfbgeaa
open Go.RowKit Kv
@[go_sem] theorem build_want (a b:Int) (w:World):(Instr.build 91 #[(0,.int .i64 a),(1,.int .i64 b)]).run Try.prog w=.ok (.agg #[.int .i64 a,.int .i64 b]) w:=run_build w 91 _ _ (by kernel_rfl)
@[go_sem] theorem build_regn (a:Int) (w:World):(Instr.build 56 #[(3,.int .i64 a)]).run Try.prog w=.ok (.agg #[.int .i64 0,.int .i64 0,.int .i64 0,.int .i64 a,.int .i64 0,.int .i64 0,.int .i64 0]) w:=run_build w 56 _ _ (by kernel_rfl)
set_option maxRecDepth 100000 in
theorem append_all {ops:Array Oper}{rest:List Oper}{o:Oper}{a:Act}{Q:Exit->Act->World->Prop}{w:World}(hgd:o.guard=none)(s x:Operand)
  (ho:o.op=.call { callee:=.builtin .append,args:=#[s,x],argTypes:=#[28,28] })
  (ad:Addr)(c:Nat)(L:List Int)(hL:Ints w (.slice (some ad) L.length c) L)(hs:a.eval s=.slice (some ⟨w.heap.size,0,none⟩) 0 0)(hx:a.eval x=.slice (some ad) L.length c)
  (hlen:L.length<1000000)
  (h:∀ v' w',IntRow w' w.heap.size v' L->Ext w w'->wpList Try.prog ops Q rest (a.put o.dst v') w') :
  wpList Try.prog ops Q (o :: rest) a (w.alloc (.cells #[] 3)):=by
 obtain⟨i0,hi,hz0,hz1,hz2⟩:=info_parts info_int
 have hown:(w.alloc (.cells #[] 3)).ownsRow w.heap.size 3 1 (.slice (some ⟨w.heap.size,0,none⟩) 0 0) 0 [] :=
  ⟨rfl,.inr ⟨w.heap.size,0,#[],rfl,Nat.le_refl _,heap_alloc_new _ _,Nat.le_refl _,Nat.zero_le _,rfl,rfl⟩⟩
 refine wpList_append_own_at _ hgd s x 28 ho w.heap.size 3 i0 (.int .i64 0) 1 8 Try.underlying28 hi hz0 hz1 hz2 rfl (by decide) _ 0 [] hs hown ad L.length c (L.map (Value.int .i64)) hx (by simp) ?_ (by simp [Value.oneCell']) (by unfold maxLen;omega) (by omega) (by simp) fun v' w' h1 h2 _ _=>?_
 · intro j u hu
   obtain⟨A',c',he,_,_,h3⟩:=hL.ext ((Ext.refl w).alloc (.cells #[] 3))
   rw [List.getElem?_map] at hu
   cases hj:L[j]? with
   | none=>rw [hj] at hu;cases hu
   | some y =>
     rw [hj] at hu
     obtain⟨b,off,rfl,_,hc⟩:=h3 (fun e=>by rw [e] at hj;cases hj)
     injection he with e1 e2 e3
     injection e1 with e1
     subst e1
     rw [Addr.add_lit]
     rw [hc j y hj]
     simpa using hu
 · rw [List.nil_append,Nat.zero_add] at h1
   exact h v' w' h1 (Below.grown ((Ext.refl w).alloc (.cells #[] 3)) h2 (by simp) (fun k hk=>by simp [Value.ownBlock] at hk;omega))
set_option maxRecDepth 100000 in
theorem clone_x (a:Addr)(c:Nat)(L:List Int)(w:World)(h:Ints w (.slice (some a) L.length c) L)(hl:L.length<1000000) :
  Calls Try.prog 59 #[.slice (some a) L.length c] w fun e w'=>∃ v',e=.returned v'/\IntRow w' w.heap.size v' L/\Ext w w':=by
 have hcmp:∀ (n:Nat) (w:World),(binOp .eql 28 (.slice (some a) n c) (.slice none 0 0)).run Try.prog w=.ok (.bool false) w:=fun _ _=>rfl
 go_enter Try.func59,Try.ntmps59
 go_wp2_with (at_builtin;refine append_all rfl _ _ rfl a c L h rfl rfl hl ?_)
 intro v' w' h1 h2
 go_wp2_with fail
 go_ret
 exact⟨v',rfl,h1,h2⟩
set_option maxRecDepth 100000 in
theorem clone_nil (c:Nat)(w:World):Calls Try.prog 59 #[.slice none 0 c] w fun e w'=>e=.returned (.slice none 0 0)/\w=w':=by
 have hcmp:∀ (n:Nat) (w:World),(binOp .eql 28 (.slice none n c) (.slice none 0 0)).run Try.prog w=.ok (.bool true) w:=fun _ _=>rfl
 go_enter Try.func59,Try.ntmps59
 go_wp2_with fail
 go_ret
 exact⟨rfl,rfl⟩
theorem clone_any (A:Option Addr)(c:Nat)(L:List Int)(w:World)(h:Ints w (.slice A L.length c) L)(hl:L.length<1000000) :
  Calls Try.prog 59 #[.slice A L.length c] w fun e w'=>∃ v',e=.returned v'/\IntRow w' w.heap.size v' L/\Ext w w':=by
 cases A with
 | some a=>exact clone_x a c L w h hl
 | none =>
   have hL:L=[]:=by
    obtain⟨A',c',he,_,_,h3⟩:=h
    by_cases e:L=[]
    · exact e
    · obtain⟨b,off,rfl,_⟩:=h3 e
      cases he
   subst hL
   refine (clone_nil c w).mono ?_
   rintro e w' ⟨rfl,rfl⟩
   exact⟨_,rfl,IntRow.nil _ _,Ext.refl _⟩
set_option maxRecDepth 100000 in
theorem tshort_p (A:Option Addr)(c:Nat)(L:List Int)(w:World)(h:Ints w (.slice A L.length c) L)(q1:L.length<=c)(_q2:c<=9223372036854775807)(_q3:L.length<1000000) :
  Calls Try.prog 61 #[.slice A L.length c] w fun e w'=>∃ v',e=.returned v'/\IntRow w' w.heap.size v' (shortL L)/\Ext w w':=by
 go_enter Try.func61,Try.ntmps61
 go_wp2_with fail
 go_loopw [3] (fun v wr=>∃ n:Nat,v=.int .i64 n/\n<=L.length/\Hid (shortN L n=shortN L L.length)/\w=wr) (fun v _=>(intOf v).toNat)
 case atStart=>exact⟨L.length,rfl,by omega,rfl,rfl⟩
 case round =>
  obtain⟨n,rfl,hn,hs,rfl⟩:=hrel
  have hlen:∀ m,m<=L.length->(L.take m).length=m:=fun m hm=>by rw [List.length_take];omega
  cases n with
  | zero =>
    have hf:L.take 0=shortL L:=by unfold shortL;rw [<- hs.out];rfl
    have hT:=clone_any A c (L.take 0) w (by have:=h.take 0 (by omega);rw [hlen 0 (by omega)];exact this) (by simp)
    rw [hlen 0 (by omega),hf] at hT
    clear hs h hf hlen
    go_wp2_with fail
    refine hT.mono ?_
    rintro e w1 ⟨v',rfl,h1,h2⟩
    go_wp2_with fail
    go_ret
    exact⟨v',rfl,h1,h2⟩
  | succ n =>
    obtain⟨b,off,rfl,hb,hcell⟩:=h.at_ (show n<L.length by omega)
    by_cases e:L.getD n 0=0
    · have hs2:Hid (shortN L n=shortN L L.length):=Lib.hid (by rw [<- hs.out];show _=(if L.getD n 0=0 then shortN L n else n+1);rw [if_pos e])
      rw [e] at hcell
      clear hs e h hlen
      go_wp2_with fail
      exact⟨⟨n,rfl,by omega,hs2,by trivial⟩,by simp [intOf]⟩
    · have e3:=Lib.hid (show shortN L L.length=n+1 from by rw [<- hs.out];show (if L.getD n 0=0 then shortN L n else n+1)=_;rw [if_neg e])
      have hf:L.take (n+1)=shortL L:=by unfold shortL;rw [e3.out]
      have hT:=clone_any (some ⟨b,off,none⟩) c (L.take (n+1)) w (by have:=h.take (n+1) (by omega);rw [hlen (n+1) (by omega)];exact this) (by rw [hlen (n+1) (by omega)];omega)
      rw [hlen (n+1) (by omega),hf] at hT
      have e2:(L.getD n 0==0)=false:=by rw [beq_eq_false_iff_ne];exact e
      generalize L.getD n 0=E at *
      clear hs e h hf hlen
      go_wp2_with fail
      refine hT.mono ?_
      rintro e w1 ⟨v',rfl,h1,h2⟩
      go_wp2_with fail
      go_ret
      exact⟨v',rfl,h1,h2⟩
structure Near (W:World) (b n:Nat) (t:TypeId) (w:World):Prop where
 os:w.os=W.os
 tape:w.tape=W.tape
 output:w.output=W.output
 size:W.heap.size<=w.heap.size
 rest:∀ k,k<W.heap.size->k≠b->w.heap[k]?=W.heap[k]?
 blk:∃ cs,w.heap[b]?=some (.cells cs t (0,0))/\cs.size=n
section
variable {W w w':World} {b n:Nat} {t:TypeId}
theorem Near.new {cs:Array Value}(h:W.heap[b]?=some (.cells cs t (0,0)))(hn:cs.size=n):Near W b n t W:=⟨rfl,rfl,rfl,Nat.le_refl _,fun _ _ _=>rfl,cs,h,hn⟩
theorem Near.ext (h:Near W b n t w)(hx:Ext w w'):Near W b n t w':=by
 obtain⟨cs,h1,h2⟩:=h.blk
 exact⟨hx.os.trans h.os,hx.tape.trans h.tape,hx.output.trans h.output,Nat.le_trans h.size hx.size,fun k hk hb=>(Below.block hx k (Nat.lt_of_lt_of_le hk h.size)).trans (h.rest k hk hb),cs,(Below.block hx b (Array.getElem?_eq_some_iff.1 h1).1).trans h1,h2⟩
theorem Near.drew (h:Near W b n t w):Near W b n t w.drew:=h.ext (Ext.refl w).drew
theorem Near.set (h:Near W b n t w)(i:Nat)(u:Value):Near W b n t (w.setCell ⟨b,i,none⟩ u):=by
 obtain⟨cs,h1,h2⟩:=h.blk
 refine⟨h.os,h.tape,h.output,by have:=h.size;simpa using this,fun k hk hb=>(heap_setCell_ne _ _ hb).trans (h.rest k hk hb),_,heap_setCell h1 u,by simpa using h2⟩
theorem Near.cell (h:Near W b n t w){k i:Nat}(hk:k<W.heap.size)(hb:k≠b):w.cell? ⟨k,i,none⟩=W.cell? ⟨k,i,none⟩:=World.cell?_of_block (w:=W) (a:=⟨k,i,none⟩) (h.rest k hk hb)
theorem Near.frozen (h:Near W b n t w)(i:Nat):w.frozen? ⟨b,i,none⟩=false:=by
 obtain⟨cs,h1,h2⟩:=h.blk
 exact frozen_of_heap h1 i
theorem Near.below {B:Nat}{w0:World}(h:Near W b n t w)(h0:Below B w0 W)(hb:B<=b)(hB:B<=W.heap.size):Below B w0 w :=
 h0.trans ⟨h.os,h.tape,h.output,h.size,fun k hk=>h.rest k (by omega) (by omega)⟩
def cellD (w:World) (b i:Nat):Value:=(w.cell? ⟨b,i,none⟩).getD undef
theorem Near.four (h:Near W b 4 t w):∀ i,w.cell? ⟨b,i,none⟩=(#[cellD w b 0,cellD w b 1,cellD w b 2,cellD w b 3]:Array Value)[i]?:=by
 obtain⟨cs,h1,h2⟩:=h.blk
 intro i
 have e:=cell_of_heap h1
 unfold cellD
 rw [e,e,e,e,e]
 match i with
 | 0=>simp [h2]
 | 1=>simp [h2]
 | 2=>simp [h2]
 | 3=>simp [h2]
 | i+4=>simp [h2]
theorem Near.five (h:Near W b 5 t w):∀ i,w.cell? ⟨b,i,none⟩=(#[cellD w b 0,cellD w b 1,cellD w b 2,cellD w b 3,cellD w b 4]:Array Value)[i]?:=by
 obtain⟨cs,h1,h2⟩:=h.blk
 intro i
 have e:=cell_of_heap h1
 unfold cellD
 rw [e,e,e,e,e,e]
 match i with
 | 0=>simp [h2]
 | 1=>simp [h2]
 | 2=>simp [h2]
 | 3=>simp [h2]
 | 4=>simp [h2]
 | i+5=>simp [h2]
end
def locOf (L:List Int) (i:Nat):Int:=L.getD i 0
def TS0 (L ans:List Int):TS:=⟨ans,[],[],locOf L⟩
@[go_sem] theorem build_out (x:Bool) (A1 A2 A3:Option Addr) (n1 n2 n3 c1 c2 c3:Nat) (w:World):(Instr.build 30 #[(0,.bool x),(1,.slice A1 n1 c1),(2,.slice A2 n2 c2),(3,.slice A3 n3 c3)]).run Try.prog w=.ok (.agg #[.bool x,.slice A1 n1 c1,.slice A2 n2 c2,.slice A3 n3 c3]) w:=run_build w 30 _ _ (by kernel_rfl)
@[go_sem] theorem as_stop (v:Value) (w:World):(Instr.typeAssert (.iface 81 v) 20 81 true).run Try.prog w=.ok (.tuple #[v,.bool true]) w:=by kernel_rfl
@[go_sem] theorem ne_mem (a:Addr) (w:World):(binOp .neq 33 (.pointer (some a)) (.pointer (some a))).run Try.prog w=.ok (.bool false) w:=by
 have hs:(Try.prog.info? 78).isSome=true:=by kernel_rfl
 obtain⟨j,hj⟩:=Option.isSome_iff_exists.1 hs
 have h:∀ d:Nat,(Op.equalIn (d+1) 33 (.pointer (some a)) (.pointer (some a))).run Try.prog w=.ok true w:=fun d=>by
  simp [Op.equalIn,run_underlying Try.underlying33,sizeOf,typeInfo,hj,run_sameAddr_same]
 simp only [binOp]
 simp [Op.equal,Op.maxDepth,h 9999]
section
variable {B p b bo:Nat} {w w' W:World} {S:TS} {st:Int} {vA vL vC vN vs:Value} {L:List Int}
theorem PMem.setO (h:PMem B w p S st vA vL vC vN L)(hn:¬ ownR [2,3,4] w p b)(hb:B<=b)(i:Nat)(u:Value):PMem B (w.setCell ⟨b,i,none⟩ u) p S st vA vL vC vN L:=by
 have hp:p≠b:=fun e=>hn (.inl e.symm)
 refine { h with heap:=(heap_setCell_ne _ _ hp).trans h.heap,ans:=ints_set h.ans _ _ ?_,rowL:=row_set h.rowL ?_,rowC:=row_set h.rowC ?_,rowN:=row_set h.rowN ?_ }
 · intro k hk e
   have:=h.ansB k hk
   simp only at e
   omega
 · exact fun e=>hn (ownR_at (i:=2) h.heap (by simp) rfl e)
 · exact fun e=>hn (ownR_at (i:=3) h.heap (by simp) rfl e)
 · exact fun e=>hn (ownR_at (i:=4) h.heap (by simp) rfl e)
theorem Held.setO {ix:List Nat}{k:Nat}{o:Obj}(h:Held ix w p k o)(hk:k≠b)(hn:¬ ownR ix w p b)(i:Nat)(u:Value):Held ix (w.setCell ⟨b,i,none⟩ u) p k o :=
 ⟨(heap_setCell_ne _ _ hk).trans h.1,fun h'=>h.2 ((ownR_same (heap_setCell_ne _ _ (fun e=>hn (.inl e.symm))) k).1 h')⟩
theorem end_out {d x0:Bool}{x1 x2 x3:Value}(HM:PMem B W p S st vA vL vC vN L)(ho:W.heap[bo]?=some (.cells #[.bool x0,x1,x2,x3] 30 (0,0)))(h2:Ext W w')(h1:IntRow w' W.heap.size vs (shortL L)) :
  ((((w'.setCell ⟨bo,0,none⟩ (.bool d)).setCell ⟨bo,1,none⟩ vC).setCell ⟨bo,2,none⟩ vN).setCell ⟨bo,3,none⟩ vs).heap[bo]?=some (.cells #[.bool d,vC,vN,vs] 30 (0,0)) /\
    Outs ((((w'.setCell ⟨bo,0,none⟩ (.bool d)).setCell ⟨bo,1,none⟩ vC).setCell ⟨bo,2,none⟩ vN).setCell ⟨bo,3,none⟩ vs) (.agg #[.bool d,vC,vN,vs]) d S:=by
 have hlt:=(Array.getElem?_eq_some_iff.1 ho).1
 have e0:=(Below.block h2 bo hlt).trans ho
 have rC:=row_ext HM.rowC h2
 have rN:=row_ext HM.rowN h2
 have nC:=row_not rC e0 (by decide)
 have nN:=row_not rN e0 (by decide)
 have hv:∀ k,vs.ownBlock=some k->k≠bo:=fun k hk=>by have:=(h1.lt k hk).1;omega
 have e4:=heap_setCell (i:=3) (heap_setCell (i:=2) (heap_setCell (i:=1) (heap_setCell (i:=0) e0 (.bool d)) vC) vN) vs
 refine⟨e4,outs_of (L:=L) (row_set (row_set (row_set (row_set rC nC) nC) nC) nC) (row_set (row_set (row_set (row_set rN nN) nN) nN) nN) (ints_set (ints_set (ints_set (ints_set h1.ints _ _ hv) _ _ hv) _ _ hv) _ _ hv) HM.loc HM.locN⟩
end
def EndAt (B:Nat) (w w':World) (bg bo:Nat) (v:Value) (d:Bool) (S:TS):Prop :=
 w'.heap[bg]?=some (.cells #[v] 3 (0,0))/\(∃ vC vN vs,w'.heap[bo]?=some (.cells #[.bool d,vC,vN,vs] 30 (0,0))/\Outs w' (.agg #[.bool d,vC,vN,vs]) d S)/\Below B w w'
set_option maxRecDepth 100000 in
set_option maxHeartbeats 1000000 in
theorem end_ok (B p:Nat)(S:TS)(bm bg bo:Nat)(v:Value)(w:World)(h:Plays B w p S)(hm:HeldP w p bm (.cells #[.pointer (some ⟨p,0,none⟩)] 33 (0,0)))(hg:HeldP w p bg (.cells #[v] 3 (0,0)))
  (ho:HeldP w p bo (.cells #[.bool false,.slice none 0 0,.slice none 0 0,.slice none 0 0] 30 (0,0)))(hB2:B<=bo) :
  CallsD Try.prog 65 #[.pointer (some ⟨bm,0,none⟩),.pointer (some ⟨bg,0,none⟩),.pointer (some ⟨bo,0,none⟩)] .returning w fun e u' w'=>e=.returned (.tuple #[])/\u'=.returning/\EndAt B w w' bg bo v true S:=by
 obtain⟨h1,vA,vL,vC,vN,L,h⟩:=h
 have hc:=cell_of_heap h.heap
 have hfz:=frozen_of_heap h.heap
 have cm:=hm.cells
 refine callsD_of_wpS Try.func65 rfl fun c₀ cs hu=>?_
 simp only [Try.ntmps65,List.size_toArray,List.length_cons,List.length_nil,Nat.reduceAdd,Nat.reduceSub,Array.replicate_succ,Array.replicate_zero,List.push_toArray,List.append_toArray,List.nil_append,List.cons_append]
 apply wpS_seq
 refine wpS_of_wp ?_
 go_wp2_with fail
 simp only [Exit.thenS]
 apply wpS_seq
 refine wpS_of_wp ?_
 go_wp2_with fail
 simp only [Exit.thenS]
 obtain⟨HM,HK⟩:=h.state 0
 have hmh:=Lib.hid (hm.keep HK)
 have hgh:=Lib.hid (hg.keep HK).1
 have hoh:=Lib.hid (ho.keep HK)
 have hq:=cell_of_heap HM.heap
 have cm2:=hmh.out.cells
 have HMh:=Lib.hid HM
 have hbel:=Lib.hid HK.below
 clear HM HK hc hfz cm hm hg ho h
 generalize w.setCell ⟨p,0,none⟩ (.int .i64 0)=W at *
 apply wpS_seq
 apply wpS_seq
 apply wpS_region
 simp [wpOpsS,go_sem,recoverD,hu,Exit.thenS]
 refine wpS_of_wp ?_
 go_wp2_with fail
 simp only [Exit.thenS]
 refine wpS_of_wp ?_
 go_wp2_with fail
 have hI:Ints W vL L:=IntRow.ints HMh.out.rowL
 obtain⟨Al,cl,rfl,q1,q2⟩:=hI.slice
 have hIh:=Lib.hid hI
 obtain⟨Ac,cc,rfl,-,-,-⟩:=vals_row HMh.out.rowC
 obtain⟨An,cn,rfl,-,-,-⟩:=vals_row HMh.out.rowN
 have hlen:=HMh.out.locN
 have hplt:=HMh.out.lt
 have hmlt:=hmh.out.lt
 clear hI
 have hpo:p≠bo:=fun e=>hoh.out.2 (.inl e.symm)
 have hmo:bm≠bo:=fun e=>by
  have h1:=hmh.out.1
  rw [e,hoh.out.1] at h1
  injection h1 with h1
  injection h1 with _ h2
  cases h2
 have hlo:(Value.slice Al L.length cl).ownBlock≠some bo:=row_not HMh.out.rowL hoh.out.1 (by decide)
 have hS:∀ w',Near W bo 4 30 w'->((∀ i,w'.cell? ⟨p,i,none⟩=(#[.int .i64 0,vA,.slice Al L.length cl,.slice Ac S.acc.length cc,.slice An S.nts.length cn]:Array Value)[i]?)/\(∀ i,w'.cell? ⟨bm,i,none⟩=(#[.pointer (some ⟨p,0,none⟩)]:Array Value)[i]?)/\(∀ i,w'.cell? ⟨bo,i,none⟩=(#[cellD w' bo 0,cellD w' bo 1,cellD w' bo 2,cellD w' bo 3]:Array Value)[i]?)/\(∀ i,w'.frozen? ⟨bo,i,none⟩=false)/\Near W bo 4 30 w'):=fun w' hx =>
  ⟨fun i=>(hx.cell hplt hpo).trans (hq i),fun i=>(hx.cell hmlt hmo).trans (cm2 i),hx.four,hx.frozen,hx⟩
 have hN:Near W bo 4 30 W:=Near.new hoh.out.1 rfl
 go_region_held2 (fun w'=>(∀ i,w'.cell? ⟨p,i,none⟩=(#[.int .i64 0,vA,.slice Al L.length cl,.slice Ac S.acc.length cc,.slice An S.nts.length cn]:Array Value)[i]?)/\(∀ i,w'.cell? ⟨bm,i,none⟩=(#[.pointer (some ⟨p,0,none⟩)]:Array Value)[i]?)/\(∀ i,w'.cell? ⟨bo,i,none⟩=(#[cellD w' bo 0,cellD w' bo 1,cellD w' bo 2,cellD w' bo 3]:Array Value)[i]?)/\(∀ i,w'.frozen? ⟨bo,i,none⟩=false)/\Near W bo 4 30 w') (first | exact hS _ hN.drew | (refine hS _ ?_;(repeat refine Near.set ?_ _ _);exact hN.drew.ext h2))
  (first
    | (go_at_call 61
       refine (tshort_p Al cl L _ (hIh.out.ext (Ext.refl W).drew) q1 q2 (by omega)).mono ?_
       rintro e w' ⟨v',rfl,h1,h2⟩
       obtain⟨As,cs,rfl,hs1,hs2⟩:=h1.ints.slice))
 obtain⟨f1,f2⟩:=end_out (d:=true) HMh.out hoh.out.1 ((Ext.refl W).drew.trans h2) h1
 have fg:bg≠bo:=fun e=>by
  have h1:=hgh.out
  rw [e,hoh.out.1] at h1
  injection h1 with h1
  injection h1 with _ h2
  cases h2
 refine⟨rfl,FrameMode.returning,(by cases c₀;simp only at hu;subst hu;rfl),.tuple #[],(by simp [results,Try.results65,go_sem]),rfl,rfl,?_,⟨_,_,_,f1,f2⟩,?_⟩
 · rw [heap_setCell_ne _ _ fg,heap_setCell_ne _ _ fg,heap_setCell_ne _ _ fg,heap_setCell_ne _ _ fg]
   exact (Below.block ((Ext.refl W).drew.trans h2) bg (Array.getElem?_eq_some_iff.1 hgh.out).1).trans hgh.out
 · exact ((((hN.drew.ext h2).set _ _).set _ _).set _ _ |>.set _ _).below hbel.out hB2 (by have:=HMh.out.ge;omega)
set_option maxRecDepth 100000 in
set_option maxHeartbeats 1000000 in
theorem end_stop (B p:Nat)(S:TS)(bm bg bo:Nat)(v:Value)(older:List PanicEntry)(w:World)(h:Stops B w p S)(hm:HeldP w p bm (.cells #[.pointer (some ⟨p,0,none⟩)] 33 (0,0)))(hg:HeldP w p bg (.cells #[v] 3 (0,0)))
  (ho:HeldP w p bo (.cells #[.bool false,.slice none 0 0,.slice none 0 0,.slice none 0 0] 30 (0,0)))(hB1:B<=bg)(hB2:B<=bo) :
  CallsD Try.prog 65 #[.pointer (some ⟨bm,0,none⟩),.pointer (some ⟨bg,0,none⟩),.pointer (some ⟨bo,0,none⟩)] (.panicking ({ v:=.iface 81 (.agg #[.pointer (some ⟨p,0,none⟩)]),recovered:=false } :: older)) w fun e u' w' =>
   e=.returned (.tuple #[])/\u'=.panicking ({ v:=.iface 81 (.agg #[.pointer (some ⟨p,0,none⟩)]),recovered:=true } :: older)/\EndAt B w w' bg bo (.int .i64 0) false S:=by
 obtain⟨vA,vL,vC,vN,L,h⟩:=h
 have hc:=cell_of_heap h.heap
 have hfz:=frozen_of_heap h.heap
 have cm:=hm.cells
 refine callsD_of_wpS Try.func65 rfl fun c₀ cs hu=>?_
 simp only [Try.ntmps65,List.size_toArray,List.length_cons,List.length_nil,Nat.reduceAdd,Nat.reduceSub,Array.replicate_succ,Array.replicate_zero,List.push_toArray,List.append_toArray,List.nil_append,List.cons_append]
 apply wpS_seq
 refine wpS_of_wp ?_
 go_wp2_with fail
 simp only [Exit.thenS]
 apply wpS_seq
 refine wpS_of_wp ?_
 go_wp2_with fail
 simp only [Exit.thenS]
 obtain⟨HM,HK⟩:=h.state 0
 have hm2:=hm.keep HK
 have hg2:=hg.keep HK
 have ho2:=ho.keep HK
 clear hc hfz cm hm hg ho h
 generalize w.setCell ⟨p,0,none⟩ (.int .i64 0)=W0 at *
 have hX:=(Ext.refl W0).alloc (.cells #[.agg #[.pointer (some ⟨p,0,none⟩)]] 81)
 have hq0:=cell_of_heap HM.heap
 have cm0:=hm2.cells
 have hqa:Hid (∀ O,∀ i,(W0.alloc O).cell? ⟨bm,i,none⟩=(#[.pointer (some ⟨p,0,none⟩)]:Array Value)[i]?):=Lib.hid fun O i=>(((Ext.refl W0).alloc O).cell (p:=⟨bm,i,none⟩) hm2.lt).trans (hm2.cells i)
 have cma:=hqa.out
 have fga:=frozen_of_heap hg2.1
 have cg0:=hg2.cells
 have W0lt:=hg2.lt
 have fgb:Hid (∀ O i,(W0.alloc O).frozen? ⟨bg,i,none⟩=false):=Lib.hid fun O i=>frozen_of_heap ((Below.block ((Ext.refl W0).alloc O) bg hg2.lt).trans hg2.1) i
 have cgb:Hid (∀ O i,(W0.alloc O).cell? ⟨bg,i,none⟩=(#[v]:Array Value)[i]?):=Lib.hid fun O i=>(((Ext.refl W0).alloc O).cell (p:=⟨bg,i,none⟩) hg2.lt).trans (hg2.cells i)
 have fgb':=fgb.out
 have cgb':=cgb.out
 have HMh0:=Lib.hid HM
 have HKh:=Lib.hid HK
 have hmh0:=Lib.hid hm2
 have hgh0:=Lib.hid hg2
 have hoh0:=Lib.hid ho2
 clear HM HK hm2 hg2 ho2
 apply wpS_seq
 apply wpS_seq
 apply wpS_region
 simp [wpOpsS,go_sem,recoverD,hu,Exit.thenS]
 refine wpS_of_wp ?_
 go_wp2_with fail
 simp only [Exit.thenS]
 refine wpS_of_wp ?_
 go_wp2_with fail
 have hgp:=hgh0.out.2
 have hmg:bm≠bg:=fun e=>by
  have h1:=hmh0.out.1
  rw [e,hgh0.out.1] at h1
  injection h1 with h1
  injection h1 with _ h2
  cases h2
 have hog:bo≠bg:=fun e=>by
  have h1:=hoh0.out.1
  rw [e,hgh0.out.1] at h1
  injection h1 with h1
  injection h1 with _ h2
  cases h2
 have HM1:=HMh0.out.setO hgp hB1 0 (.int .i64 0)
 have hm1:=hmh0.out.setO hmg hgp 0 (.int .i64 0)
 have ho1:=hoh0.out.setO hog hgp 0 (.int .i64 0)
 have hg1:=heap_setCell (i:=0) hgh0.out.1 (.int .i64 0)
 have hb1:Below B w (W0.setCell ⟨bg,0,none⟩ (.int .i64 0)):=Below.setCell HKh.out.below (by show B<=bg;exact hB1) _
 have HMh:=Lib.hid (HM1.ext ((Ext.refl _).alloc (.cells #[.pointer (some ⟨p,0,none⟩)] 81)))
 have hmh:=Lib.hid (hm1.alloc (.cells #[.pointer (some ⟨p,0,none⟩)] 81) HM1.lt)
 have hoh:=Lib.hid (ho1.alloc (.cells #[.pointer (some ⟨p,0,none⟩)] 81) HM1.lt)
 have hgh:=Lib.hid ((Below.block ((Ext.refl _).alloc (.cells #[.pointer (some ⟨p,0,none⟩)] 81)) bg (Array.getElem?_eq_some_iff.1 hg1).1).trans hg1)
 have hbel:=Lib.hid (Below.alloc hb1 (by have:=HM1.ge;have:=HM1.lt;omega) (.cells #[.pointer (some ⟨p,0,none⟩)] 81))
 clear hX hq0 cm0 hqa cma fga cg0 fgb cgb fgb' cgb' HMh0 hmh0 hgh0 hoh0 HKh HM1 hm1 ho1 hg1 hb1 hgp W0lt
 generalize (World.alloc (W0.setCell ⟨bg,0,none⟩ (.int .i64 0)) (.cells #[.pointer (some ⟨p,0,none⟩)] 81))=W at *
 have hq:=cell_of_heap HMh.out.heap
 have cm2:=hmh.out.cells
 have hI:Ints W vL L:=IntRow.ints HMh.out.rowL
 obtain⟨Al,cl,rfl,q1,q2⟩:=hI.slice
 have hIh:=Lib.hid hI
 obtain⟨Ac,cc,rfl,-,-,-⟩:=vals_row HMh.out.rowC
 obtain⟨An,cn,rfl,-,-,-⟩:=vals_row HMh.out.rowN
 have hlen:=HMh.out.locN
 have hplt:=HMh.out.lt
 have hmlt:=hmh.out.lt
 clear hI
 have hpo:p≠bo:=fun e=>hoh.out.2 (.inl e.symm)
 have hmo:bm≠bo:=fun e=>by
  have h1:=hmh.out.1
  rw [e,hoh.out.1] at h1
  injection h1 with h1
  injection h1 with _ h2
  cases h2
 have hlo:(Value.slice Al L.length cl).ownBlock≠some bo:=row_not HMh.out.rowL hoh.out.1 (by decide)
 have hS:∀ w',Near W bo 4 30 w'->((∀ i,w'.cell? ⟨p,i,none⟩=(#[.int .i64 0,vA,.slice Al L.length cl,.slice Ac S.acc.length cc,.slice An S.nts.length cn]:Array Value)[i]?)/\(∀ i,w'.cell? ⟨bm,i,none⟩=(#[.pointer (some ⟨p,0,none⟩)]:Array Value)[i]?)/\(∀ i,w'.cell? ⟨bo,i,none⟩=(#[cellD w' bo 0,cellD w' bo 1,cellD w' bo 2,cellD w' bo 3]:Array Value)[i]?)/\(∀ i,w'.frozen? ⟨bo,i,none⟩=false)/\Near W bo 4 30 w'):=fun w' hx =>
  ⟨fun i=>(hx.cell hplt hpo).trans (hq i),fun i=>(hx.cell hmlt hmo).trans (cm2 i),hx.four,hx.frozen,hx⟩
 have hN:Near W bo 4 30 W:=Near.new hoh.out.1 rfl
 go_region_held2 (fun w'=>(∀ i,w'.cell? ⟨p,i,none⟩=(#[.int .i64 0,vA,.slice Al L.length cl,.slice Ac S.acc.length cc,.slice An S.nts.length cn]:Array Value)[i]?)/\(∀ i,w'.cell? ⟨bm,i,none⟩=(#[.pointer (some ⟨p,0,none⟩)]:Array Value)[i]?)/\(∀ i,w'.cell? ⟨bo,i,none⟩=(#[cellD w' bo 0,cellD w' bo 1,cellD w' bo 2,cellD w' bo 3]:Array Value)[i]?)/\(∀ i,w'.frozen? ⟨bo,i,none⟩=false)/\Near W bo 4 30 w') (first | exact hS _ hN.drew | (refine hS _ ?_;(repeat refine Near.set ?_ _ _);exact hN.drew.ext h2))
  (first
    | (go_at_call 61
       refine (tshort_p Al cl L _ (hIh.out.ext (Ext.refl W).drew) q1 q2 (by omega)).mono ?_
       rintro e w' ⟨v',rfl,h1,h2⟩
       obtain⟨As,cs,rfl,hs1,hs2⟩:=h1.ints.slice))
 obtain⟨f1,f2⟩:=end_out (d:=false) HMh.out hoh.out.1 ((Ext.refl W).drew.trans h2) h1
 have fg:bg≠bo:=fun e=>by
  have h1:=hgh.out
  rw [e,hoh.out.1] at h1
  injection h1 with h1
  injection h1 with _ h2
  cases h2
 refine⟨rfl,FrameMode.panicking ({ v:=.iface 81 (.agg #[.pointer (some ⟨p,0,none⟩)]),recovered:=true } :: older),(by cases c₀;simp only at hu;subst hu;rfl),.tuple #[],(by simp [results,Try.results65,go_sem]),rfl,rfl,?_,⟨_,_,_,f1,f2⟩,?_⟩
 · rw [heap_setCell_ne _ _ fg,heap_setCell_ne _ _ fg,heap_setCell_ne _ _ fg,heap_setCell_ne _ _ fg]
   exact (Below.block ((Ext.refl W).drew.trans h2) bg (Array.getElem?_eq_some_iff.1 hgh.out).1).trans hgh.out
 · exact ((((hN.drew.ext h2).set _ _).set _ _).set _ _ |>.set _ _).below hbel.out hB2 (by have:=HMh.out.ge;omega)
theorem row_base {w:World}{B B' e size n:Nat}{v:Value}{xs:List Value}(h:w.ownsRow B' e size v n xs)(hB:B<=B'):w.ownsRow B e size v n xs:=by
 obtain⟨h1,h2⟩:=h
 rcases h2 with h2 | ⟨g,cap,cur,rfl,hg,r⟩
 · exact⟨h1,.inl h2⟩
 · exact⟨h1,.inr ⟨g,cap,cur,rfl,Nat.le_trans hB hg,r⟩⟩
theorem four_boxes (w:World)(o1 o2 o3 o4:Obj):Ext w ((((w.alloc o1).alloc o2).alloc o3).alloc o4)/\((((w.alloc o1).alloc o2).alloc o3).alloc o4).heap[w.heap.size]?=some o1/\((((w.alloc o1).alloc o2).alloc o3).alloc o4).heap[w.heap.size+1]?=some o2 /\
  ((((w.alloc o1).alloc o2).alloc o3).alloc o4).heap[w.heap.size+1+1]?=some o3/\((((w.alloc o1).alloc o2).alloc o3).alloc o4).heap[w.heap.size+1+1+1]?=some o4:=by
 refine⟨((((Ext.refl w).alloc o1).alloc o2).alloc o3).alloc o4,?_,?_,?_,?_⟩
 · exact (Below.block ((((Ext.refl (w.alloc o1)).alloc o2).alloc o3).alloc o4) _ (by simp)).trans (heap_alloc_new w o1)
 · have:=heap_alloc_new (w.alloc o1) o2
   rw [World.size_alloc] at this
   exact (Below.block (((Ext.refl ((w.alloc o1).alloc o2)).alloc o3).alloc o4) _ (by simp)).trans this
 · have:=heap_alloc_new ((w.alloc o1).alloc o2) o3
   rw [World.size_alloc,World.size_alloc] at this
   exact (Below.block ((Ext.refl (((w.alloc o1).alloc o2).alloc o3)).alloc o4) _ (by simp)).trans this
 · have:=heap_alloc_new (((w.alloc o1).alloc o2).alloc o3) o4
   rw [World.size_alloc,World.size_alloc,World.size_alloc] at this
   exact this
structure SameW (w w':World):Prop where
 os:w'.os=w.os
 tape:w'.tape=w.tape
 output:w'.output=w.output
 size:w'.heap.size=w.heap.size
 blocks:∀ k:Nat,w'.heap[k]?=w.heap[k]?
theorem SameW.drew (w:World):SameW w w.drew:=⟨rfl,rfl,rfl,rfl,fun _=>rfl⟩
theorem SameW.drew2 {w w':World}(h:SameW w w'):SameW w w'.drew:=⟨h.os,h.tape,h.output,h.size,h.blocks⟩
theorem SameW.refl (w:World):SameW w w:=⟨rfl,rfl,rfl,rfl,fun _=>rfl⟩
theorem SameW.ext {w w':World}(h:SameW w w'):Ext w w':=⟨h.os,h.tape,h.output,Nat.le_of_eq h.size.symm,fun k _=>h.blocks k⟩
theorem SameW.set {w w':World}{b:Nat}{cs:Array Value}{t:TypeId}(h:SameW w w')(g:w.heap[b]?=some (.cells cs t (0,0))){i:Nat}{v:Value}(hv:cs[i]?=some v):SameW w (w'.setCell ⟨b,i,none⟩ v):=by
 refine⟨h.os,h.tape,h.output,by rw [<- h.size];simp,fun k=>?_⟩
 by_cases e:k=b
 · subst e
   rw [heap_setCell ((h.blocks k).trans g) v,g]
   congr 2
   apply Array.ext_getElem?
   intro j
   rw [Array.getElem?_setIfInBounds]
   split
   · rename_i e
     subst e
     rw [hv]
     split
     · rfl
     · rename_i h2
       rw [Array.getElem?_eq_none (by omega)] at hv
       cases hv
   · rfl
 · rw [heap_setCell_ne _ _ e]
   exact h.blocks k
theorem play_start {w W w':World}{p:Nat}{Aa:Option Addr}{ca:Nat}{ans L:List Int}{v':Value}(hx:Ext w W)(hp:w.heap.size<=p)(g:W.heap[p]?=some (.cells #[.int .i64 1,.slice Aa ans.length ca,.slice none 0 0,.slice none 0 0,.slice none 0 0] 78 (0,0)))
  (h2:Ext W w')(h1:IntRow w' W.heap.size v' L)(hl:L.length<=32768)(ha:Ints w (.slice Aa ans.length ca) ans)(hn:ans.length<=maxAns)(hb:∀ b,(Value.slice Aa ans.length ca).ownBlock=some b->b<w.heap.size) :
  Plays w.heap.size (w'.setCell ⟨p,2,none⟩ v') p (TS0 L ans)/\(∀ b o,W.heap[b]?=some o->b≠p->HeldP (w'.setCell ⟨p,2,none⟩ v') p b o)/\Ext w (w'.setCell ⟨p,2,none⟩ v'):=by
 have hlt:=(Array.getElem?_eq_some_iff.1 g).1
 have g':=heap_setCell (i:=2) ((Below.block h2 p hlt).trans g) v'
 have hv:∀ k,v'.ownBlock=some k->W.heap.size<=k:=fun k hk=>(h1.lt k hk).1
 have ha':=(ha.ext hx).ext h2
 refine⟨⟨Nat.zero_le _,.slice Aa ans.length ca,v',.slice none 0 0,.slice none 0 0,L,{ ge:=hp,heap:=g',ans:=ints_set ha' _ _ ?_,ansB:=hb,rowL:=row_base (row_set h1 ?_) hx.size,rowC:=World.ownsRow_nil _ _ _ _,rowN:=World.ownsRow_nil _ _ _ _,loc:=fun _=>rfl,locN:=hl,accN:=Nat.zero_le _,ansN:=hn,ntsN:=Nat.zero_le _ }⟩,?_,(hx.trans h2).setCell hp _⟩
 · intro k hk e
   have:=hb k hk
   simp only at e
   omega
 · intro e
   have:=hv p e
   omega
 · intro b o hb ho
   have hbl:=(Array.getElem?_eq_some_iff.1 hb).1
   refine⟨(heap_setCell_ne _ _ ho).trans ((Below.block h2 b hbl).trans hb),fun h'=>?_⟩
   rcases h' with e | ⟨i,hi,v,hv1,hv2⟩
   · exact ho e
   · rw [cell_of_heap g'] at hv1
     simp only [List.mem_cons,List.not_mem_nil,or_false] at hi
     rcases hi with rfl | rfl | rfl
     · obtain rfl:v'=v:=by simpa using hv1
       have:=hv b hv2
       omega
     · obtain rfl:Value.slice none 0 0=v:=by simpa using hv1
       simp [Value.ownBlock] at hv2
     · obtain rfl:Value.slice none 0 0=v:=by simpa using hv1
       simp [Value.ownBlock] at hv2
set_option maxRecDepth 100000 in
set_option maxHeartbeats 1000000 in
theorem play_int (f:FuncId)(cap:Array Value)(T:Prog Int)(Al:Option Addr)(cl:Nat)(L:List Int)(Aa:Option Addr)(ca:Nat)(ans:List Int)(w:World)(h:Ints w (.slice Al L.length cl) L)(hl:L.length<=32768)(ha:Ints w (.slice Aa ans.length ca) ans)(hn:ans.length<=maxAns)
  (hb:∀ b,(Value.slice Aa ans.length ca).ownBlock=some b->b<w.heap.size)
  (hcf:∀ (args:Array Value) (w:World),(callFunc f args).run Try.prog w=.ok (.enter f args) w)
  (hdo:∀ w1 p,Ext w w1->Plays w.heap.size w1 p (TS0 L ans)->Calls Try.prog f (#[.pointer (some ⟨p,0,none⟩)]++cap) w1 (Post encI w.heap.size p w1 (T.run (TS0 L ans)))) :
  Calls Try.prog 15 #[.func (.func f) #[] cap,.slice Al L.length cl,.slice Aa ans.length ca] w fun e w'=>∃ v,e=.returned (.tuple #[.int .i64 ((T.run (TS0 L ans)).1.getD 0),v])/\Outs w' v (T.run (TS0 L ans)).1.isSome (T.run (TS0 L ans)).2/\Ext w w':=by
 obtain⟨q1,q2⟩:L.length<=cl/\cl<=9223372036854775807:=by
  obtain⟨A',c',he,q1,q2,_⟩:=h
  injection he with e1 e2 e3
  subst e3
  exact⟨q1,q2⟩
 generalize hR:(fun e w'=>∃ v,e=Ending.returned (.tuple #[.int .i64 ((T.run (TS0 L ans)).1.getD 0),v])/\Outs w' v (T.run (TS0 L ans)).1.isSome (T.run (TS0 L ans)).2/\Ext w w')=R
 have hfin:∀ v w',Outs w' v (T.run (TS0 L ans)).1.isSome (T.run (TS0 L ans)).2->Ext w w'->R (.returned (.tuple #[.int .i64 ((T.run (TS0 L ans)).1.getD 0),v])) w':=fun v w' h1 h2=>hR▸⟨v,rfl,h1,h2⟩
 clear hR
 have hmf:∀ (fn:Fn) (first cap:Array Value) (w:World),(Instr.makeFunc fn first cap).run Try.prog w=.ok (.func fn first cap) w:=fun _ _ _ _=>rfl
 go_enter_defers Try.func15,Try.ntmps15
 go_wp2_with fail
 obtain⟨hx,g1,g2,g3,g4⟩:=four_boxes w (.cells #[.int .i64 0] 3) (.cells #[.bool false,.slice none 0 0,.slice none 0 0,.slice none 0 0] 30) (.cells #[.int .i64 1,.slice Aa ans.length ca,.slice none 0 0,.slice none 0 0,.slice none 0 0] 78) (.cells #[.pointer (some ⟨w.heap.size+1+1,0,none⟩)] 33)
 generalize hW:World.alloc (World.alloc (World.alloc (World.alloc w _) _) _) _=W at *
 clear hW
 have hI:=h.ext hx
 have cm:=cell_of_heap g4
 have hN:Near W (w.heap.size+1+1) 5 78 W:=Near.new g3 rfl
 have hmlt:=(Array.getElem?_eq_some_iff.1 g4).1
 have hmin:min (L.length:Int) 32768=(L.length:Int):=by omega
 have hS:∀ w',Near W (w.heap.size+1+1) 5 78 w'->((∀ i,w'.cell? ⟨w.heap.size+1+1+1,i,none⟩=(#[.pointer (some ⟨w.heap.size+1+1,0,none⟩)]:Array Value)[i]?)/\(∀ i,w'.cell? ⟨w.heap.size+1+1,i,none⟩=(#[cellD w' (w.heap.size+1+1) 0,cellD w' (w.heap.size+1+1) 1,cellD w' (w.heap.size+1+1) 2,cellD w' (w.heap.size+1+1) 3,cellD w' (w.heap.size+1+1) 4]:Array Value)[i]?)/\(∀ i,w'.frozen? ⟨w.heap.size+1+1,i,none⟩=false)):=fun w' hx =>
  ⟨fun i=>(hx.cell hmlt (by omega)).trans (cm i),hx.five,hx.frozen⟩
 go_region_held3 (fun w'=>(∀ i,w'.cell? ⟨w.heap.size+1+1+1,i,none⟩=(#[.pointer (some ⟨w.heap.size+1+1,0,none⟩)]:Array Value)[i]?)/\(∀ i,w'.cell? ⟨w.heap.size+1+1,i,none⟩=(#[cellD w' (w.heap.size+1+1) 0,cellD w' (w.heap.size+1+1) 1,cellD w' (w.heap.size+1+1) 2,cellD w' (w.heap.size+1+1) 3,cellD w' (w.heap.size+1+1) 4]:Array Value)[i]?)/\(∀ i,w'.frozen? ⟨w.heap.size+1+1,i,none⟩=false)) (first | exact hS _ hN.drew | (refine hS _ ?_;(repeat refine Near.set ?_ _ _);exact hN.drew.ext h2))
  (first
    | (go_at_call 59
       refine (clone_any Al cl L _ (hI.ext (Ext.refl W).drew) (by omega)).mono ?_
       rintro e w' ⟨v',rfl,h1,h2⟩
       obtain⟨As,cs,rfl,hs1,hs2⟩:=h1.ints.slice))
 obtain⟨hP,hH,hE⟩:=play_start (p:=w.heap.size+1+1) hx (by omega) g3 ((Ext.refl W).drew.trans h2) h1 hl ha hn hb
 have hbg:=hH _ _ g1 (by omega)
 have hbo:=hH _ _ g2 (by omega)
 have hbm:=hH _ _ g4 (by omega)
 clear hH g1 g2 g3 g4 hS hN h1 h2 hI cm hmin hmlt
 rename_i hh
 clear hh
 have hT:=hdo _ _ hE hP
 clear hdo
 generalize World.setCell _ _ _=W2 at *
 have cbm:=hbm.cells
 have hnf:(binOp .neq 39 (.func (.func f) #[] cap) .nilFunc).run Try.prog W2=.ok (.bool true) W2:=by kernel_rfl
 go_wp2_with fail
 generalize hr:T.run (TS0 L ans)=r at hT hfin
 obtain⟨o,S⟩:=r
 clear hr
 cases o with
 | some a =>
   refine hT.mono ?_
   rintro e w3 ⟨rfl,hP3,hK3⟩
   have hbg3:=hbg.keep hK3
   have hbo3:=hbo.keep hK3
   have hbm3:=hbm.keep hK3
   have hE3:Ext w w3:=Below.trans hE hK3.below
   clear hbg hbo hbm hE hK3 hT hP cbm hnf
   have cbg:=hbg3.cells
   have fbg:=frozen_of_heap hbg3.1
   have cbo:=hbo3.cells
   have fbo:=frozen_of_heap hbo3.1
   go_wp2_with fail
   have fgo:w.heap.size≠w.heap.size+1:=by omega
   have hg4:=heap_setCell (i:=0) hbg3.1 (.int .i64 a)
   have hP4:Plays w.heap.size (w3.setCell ⟨w.heap.size,0,none⟩ (.int .i64 a)) (w.heap.size+1+1) S:=by
    obtain⟨q,vA,vL,vC,vN,L',hM⟩:=hP3
    exact⟨q,vA,vL,vC,vN,L',hM.setO hbg3.2 (Nat.le_refl _) _ _⟩
   have hbm4:=hbm3.setO (b:=w.heap.size) (by omega) hbg3.2 0 (.int .i64 a)
   have hbo4:=hbo3.setO (b:=w.heap.size) (by omega) hbg3.2 0 (.int .i64 a)
   have hbg4:HeldP (w3.setCell ⟨w.heap.size,0,none⟩ (.int .i64 a)) (w.heap.size+1+1) w.heap.size (.cells #[.int .i64 a] 3 (0,0)):=⟨hg4,fun h'=>hbg3.2 ((ownR_same (heap_setCell_ne _ _ (by omega)) _).1 h')⟩
   have hE4:Ext w (w3.setCell ⟨w.heap.size,0,none⟩ (.int .i64 a)):=hE3.setCell (Nat.le_refl _) _
   clear hP3 hbg3 hbo3 hbm3 hE3 cbg fbg cbo fbo hg4
   generalize World.setCell _ _ _=w4 at *
   generalize hbq:w.heap.size+1=bo at hbm4 hbo4 hP4 ⊢
   have fgo1:w.heap.size≠bo:=by omega
   have fgo2:bo≠w.heap.size:=by omega
   clear fgo
   have cbg:=hbg4.cells
   have fbg:=frozen_of_heap hbg4.1
   have cbo:=hbo4.cells
   have fbo:=frozen_of_heap hbo4.1
   go_region
   all_goals
    generalize hW5:World.drew _=W5
    have hsm:SameW w4 W5:=by
     rw [<- hW5]
     repeat first | with_reducible exact SameW.refl _ | with_reducible refine SameW.drew2 ?_ | refine SameW.set ?_ hbg4.1 rfl | refine SameW.set ?_ hbo4.1 rfl
    clear hW5 cbg fbg cbo fbo
    have hP5:=hP4.ext hsm.ext
    have hbm5:=hbm4.ext hsm.ext hP4.lt
    have hbg5:=hbg4.ext hsm.ext (by rw [hbq];exact hP4.lt)
    have hbo5:=hbo4.ext hsm.ext hP4.lt
    have hE5:Ext w W5:=hE4.trans hsm.ext
    clear hP4 hbm4 hbg4 hbo4 hE4 hsm
    go_wp2_with fail
    refine leaves_cons (f:=65) (args:=#[.pointer (some ⟨bo+1+1,0,none⟩),.pointer (some ⟨w.heap.size,0,none⟩),.pointer (some ⟨bo,0,none⟩)]) (by simp) (by simp [go_sem]) ?_
    refine (end_ok w.heap.size _ S _ _ _ _ _ hP5 hbm5 (by rw [<- hbq];exact hbg5) hbo5 (by omega)).mono ?_
    rintro e u' w4 ⟨rfl,rfl,hg,⟨vC,vN,vs,ho,hO⟩,hB⟩
    have cg:=cell_of_heap hg
    have co:=cell_of_heap ho
    have cg0:=cg 0
    have co0:=co 0
    have co1:=co 1
    have co2:=co 2
    have co3:=co 3
    refine⟨.tuple #[.int .i64 a,.agg #[.bool true,vC,vN,vs]],?_,hfin _ _ hO (Below.trans hE5 hB)⟩
    simp [results,Try.results15,go_sem,cg0,co0,co1,co2,co3]
 | none =>
   refine hT.mono ?_
   rintro e w3 ⟨rfl,hP3,hK3⟩
   have hbg3:=hbg.keep hK3
   have hbo3:=hbo.keep hK3
   have hbm3:=hbm.keep hK3
   have hE3:Ext w w3:=Below.trans hE hK3.below
   clear hbg hbo hbm hE hK3 hT hP cbm hnf
   refine leaves_cons (f:=65) (args:=#[.pointer (some ⟨w.heap.size+1+1+1,0,none⟩),.pointer (some ⟨w.heap.size,0,none⟩),.pointer (some ⟨w.heap.size+1,0,none⟩)]) (by simp) (by simp [go_sem]) ?_
   refine (end_stop w.heap.size _ S _ _ _ _ [] _ hP3 hbm3 hbg3 hbo3 (Nat.le_refl _) (by omega)).mono ?_
   rintro e u' w4 ⟨rfl,rfl,hg,⟨vC,vN,vs,ho,hO⟩,hB⟩
   have cg:=cell_of_heap hg
   have co:=cell_of_heap ho
   have cg0:=cg 0
   have co0:=co 0
   have co1:=co 1
   have co2:=co 2
   have co3:=co 3
   refine⟨.tuple #[.int .i64 0,.agg #[.bool false,vC,vN,vs]],?_,hfin _ _ hO (Below.trans hE3 hB)⟩
   simp [results,Try.results15,go_sem,cg0,co0,co1,co2,co3]
   trace_state
theorem info_strip:(Try.prog.info? 109).map (fun i=>(i.zero,i.size,i.bytes))=some (some (.agg #[.int .i64 0,.int .i64 0,.int .i64 0]),3,24):=by kernel_rfl
theorem append_recs {ops:Array Oper}{rest:List Oper}{o:Oper}{a:Act}{Q:Exit->Act->World->Prop}{w0 w:World}{e t:TypeId}{z:Value}{size bytes:Nat}
  (hinfo:(Try.prog.info? e).map (fun i=>(i.zero,i.size,i.bytes))=some (some z,size,bytes))(hund:Try.prog.underlying t=some (.slice e))(hzs:z.cells.size=size)(hsz:0<size)(hby:bytes<=100)
  (hgd:o.guard=none)(s x:Operand)(ho:o.op=.call { callee:=.builtin .append,args:=#[s,x],argTypes:=#[t,t] })
  (v:Value)(n:Nat)(xs news:List Value)(ad:Addr)(m c:Nat)(hX:Ext w0 w)(hown:w.ownsRow w0.heap.size e size v n xs)(hs:a.eval s=v)(hx:a.eval x=.slice (some ad) m c)
  (hnl:news.length=m*size)(hnews:∀ j u,news[j]?=some u->w.cell? (ad.add j)=some u)(h1:∀ u∈news,u.oneCell'=true)(hlen:n<1000000000)(hm:m<1000000000)
  (h:∀ v' w',w'.ownsRow w0.heap.size e size v' (n+m) (xs++news)->Ext w0 w'->wpList Try.prog ops Q rest (a.put o.dst v') w') :
  wpList Try.prog ops Q (o :: rest) a w:=by
 obtain⟨i0,hi,hz0,hz1,hz2⟩:=info_parts hinfo
 refine wpList_append_own_at _ hgd s x t ho w0.heap.size e i0 z size bytes hund hi hz0 hz1 hz2 hzs hsz v n xs hs hown ad m c news hx hnl hnews h1 (by unfold maxLen;omega) ?_ hX.size fun v' w' h2 h3 _ _=>?_
 · have:(n+m)*bytes<=(n+m)*100:=Nat.mul_le_mul_left _ hby
   omega
 · refine h v' w' h2 (Below.grown hX h3 hX.size fun k hk=>?_)
   rcases hown.2 with⟨rfl,_⟩ | ⟨g,cap,cur,rfl,hgb,_⟩
   · simp [Value.ownBlock] at hk
   · simp [Value.ownBlock] at hk
     omega
theorem row_new (w:World)(xs:List Value)(e size n:Nat)(h:xs.length=n*size)(hn:n<=1000000):(w.alloc (.cells xs.toArray e)).ownsRow w.heap.size e size (.slice (some ⟨w.heap.size,0,none⟩) n n) n xs :=
 ⟨h,.inr ⟨w.heap.size,n,xs.toArray,rfl,Nat.le_refl _,heap_alloc_new _ _,Nat.le_refl _,by unfold maxLen;omega,by simpa using h,by simp [<- h]⟩⟩
@[go_sem] theorem build_strip (a b c:Int) (w:World):(Instr.build 109 #[(0,.int .i64 a),(1,.int .i64 b),(2,.int .i64 c)]).run Try.prog w=.ok (.agg #[.int .i64 a,.int .i64 b,.int .i64 c]) w:=run_build w 109 _ _ (by kernel_rfl)
theorem trstrips_p (w:World):Calls Try.prog 174 #[] w fun e w'=>e=.returned (.slice (some ⟨w.heap.size,0,none⟩) 1 1)/\w.alloc (.cells #[.int .i64 3,.int .i64 1,.int .i64 1] 109)=w':=by
 go_enter Try.func174,Try.ntmps174
 go_wp2_with fail
 go_ret
 exact⟨rfl,rfl⟩
def sixVals:List Value:=[.int .i64 4,.int .i64 1,.int .i64 1099511627776,.int .i64 12,.int .i64 1,.int .i64 1]
def pairVals (m:Nat):List Value:=(List.replicate m ()).flatMap fun _=>sixVals
theorem pairVals_succ (m:Nat):pairVals (m+1)=pairVals m++sixVals:=by unfold pairVals;rw [List.replicate_succ',List.flatMap_append];rfl
theorem pairVals_add (m k:Nat):pairVals (m+k)=pairVals m++pairVals k:=by unfold pairVals;rw [<- List.flatMap_append,List.replicate_append_replicate]
theorem pairVals_len (m:Nat):(pairVals m).length=6*m:=by unfold pairVals;rw [flat_len _ 6 (fun _=>rfl),List.length_replicate]
theorem pairVals_one (m:Nat):∀ u∈pairVals m,u.oneCell'=true:=by
 intro u hu
 unfold pairVals at hu
 simp only [List.mem_flatMap,sixVals,List.mem_cons,List.not_mem_nil,or_false] at hu
 obtain⟨_,_,h⟩:=hu
 rcases h with rfl | rfl | rfl | rfl | rfl | rfl <;> rfl
theorem pair_at (m i:Nat)(h:i<2*m):(pairVals m)[i*3]?=some (.int .i64 (if i % 2=0 then 4 else 12))/\(∃ x,(pairVals m)[i*3+1]?=some (.int .i64 x))/\∃ x,(pairVals m)[i*3+2]?=some (.int .i64 x):=by
 have f:=fun j hj=>flat_at (fun _:Unit=>sixVals) 6 (fun _=>rfl) (List.replicate m ()) (i / 2) j () (by rw [List.getElem?_replicate,if_pos (by omega)]) hj
 rcases Nat.mod_two_eq_zero_or_one i with e | e
 · rw [if_pos e]
   have e0:i*3=6*(i / 2)+0:=by omega
   rw [e0]
   exact⟨f 0 (by omega),⟨_,f 1 (by omega)⟩,⟨_,f 2 (by omega)⟩⟩
 · rw [if_neg (by omega)]
   have e0:i*3=6*(i / 2)+3:=by omega
   rw [e0]
   exact⟨f 3 (by omega),⟨_,f 4 (by omega)⟩,⟨_,f 5 (by omega)⟩⟩
set_option maxRecDepth 100000 in
theorem sstrips_p (w:World):Calls Try.prog 175 #[] w fun e w'=>∃ v,e=.returned v/\w'.ownsRow w.heap.size 109 3 v 2 sixVals/\Ext w w':=by
 have hr:=row_new w [.int .i64 4,.int .i64 1,.int .i64 1099511627776] 109 3 1 rfl (by omega)
 have hX:=(Ext.refl w).alloc (.cells [.int .i64 4,.int .i64 1,.int .i64 1099511627776].toArray 109)
 go_enter Try.func175,Try.ntmps175
 go_wp2_with fail
 generalize w.alloc _=W at *
 refine (trstrips_p _).mono ?_
 rintro e w' ⟨rfl,rfl⟩
 have g1:=Blk.new W (.cells #[.int .i64 3,.int .i64 1,.int .i64 1] 109)
 have x1:=(Ext.refl W).alloc (.cells #[.int .i64 3,.int .i64 1,.int .i64 1] 109)
 replace hr:=row_ext hr x1
 replace hX:=hX.trans x1
 generalize W.alloc _=W1 at *
 go_wp2_with fail
 go_loopw [1,8] (fun v i wr=>∃ j:Nat,i=.int .i64 j/\j<=1/\(j=0->Blk wr W.heap.size (.cells #[.int .i64 3,.int .i64 1,.int .i64 1] 109))/\Ext w wr/\wr.ownsRow w.heap.size 109 3 v (1+j) (sixVals.take (3+3*j))) (fun _ i _=>1-(intOf i).toNat)
 case atStart=>exact⟨0,rfl,by omega,fun _=>g1,hX,hr⟩
 case round =>
  obtain⟨j,rfl,hj,hx,hX2,hown⟩:=hrel
  clear hr hX
  by_cases hl:j<1
  · obtain rfl:j=0:=by omega
    have g2:=hx rfl
    clear hx
    have c_g:=g2.cells
    have g3:=Blk.new wr (.cells #[.int .i64 3,.int .i64 1,.int .i64 1] 109)
    have h12:Ext w ((wr.alloc (.cells #[.int .i64 12,.int .i64 1,.int .i64 1] 109))):=hX2.alloc _
    have ho12:((wr.alloc (.cells #[.int .i64 12,.int .i64 1,.int .i64 1] 109))).ownsRow w.heap.size 109 3 u1 1 [.int .i64 4,.int .i64 1,.int .i64 1099511627776]:=World.ownsRow.alloc hown _
    clear hown
    go_wp2_with (at_builtin;refine append_rec info_strip Try.underlying106 rfl (by decide) (by decide) rfl _ _ rfl _ 1 _ [.int .i64 12,.int .i64 1,.int .i64 1] h12 ho12 rfl (by simp [Act.eval,World.size_alloc]) rfl (by simp [Value.oneCell']) (by omega) ?_)
    intro v' w' ho hx' _
    have hoh:=Lib.hid ho
    clear ho ho12 h12 c_g g2 g3
    go_wp2_with fail
    refine⟨⟨1,by go_num,by omega,fun h=>by omega,hx',hoh.out⟩,?_⟩
    simp [intOf]
  · obtain rfl:j=1:=by omega
    have hownh:=Lib.hid hown
    clear hown
    go_wp2_with fail
    go_ret
    exact⟨_,rfl,hownh.out,hX2⟩
set_option maxRecDepth 100000 in
theorem tstrips_p (n:Int)(w:World)(h1:1<=n)(h2:n<=8):Calls Try.prog 176 #[.int .i64 n] w fun e w'=>∃ v,e=.returned v/\w'.ownsRow w.heap.size 109 3 v (2*((n-1).toNat*(n-1).toNat)) (pairVals ((n-1).toNat*(n-1).toNat))/\Ext w w':=by
 obtain⟨k,rfl⟩:∃ k:Nat,n=(k:Int)+1:=⟨(n-1).toNat,by omega⟩
 have hk:k*k<=49:=Nat.mul_le_mul (show k<=7 by omega) (show k<=7 by omega)
 have hkk:(k:Int)*(k:Int)=((k*k:Nat):Int):=by simp
 rw [show ((k:Int)+1-1).toNat=k by omega]
 generalize hm:k*k=m at *
 clear hm
 go_enter Try.func176,Try.ntmps176
 go_wp2_with fail
 refine (threads_p ((k:Int)+1) _ h1 h2).mono ?_
 rintro e w' ⟨rfl,rfl⟩
 go_wp2_with fail
 go_loopw [4,11] (fun v i wr=>∃ j:Nat,i=.int .i64 j/\j<=m/\wr.ownsRow w.heap.size 109 3 v (2*j) (pairVals j)/\Ext w wr) (fun _ i _=>m-(intOf i).toNat)
 case atStart=>exact⟨0,rfl,by omega,World.ownsRow_nil _ _ _ _,Ext.refl _⟩
 case round =>
  obtain⟨j,rfl,hj,hown,hX⟩:=hrel
  by_cases hl:j<m
  · go_wp2_with fail
    refine (sstrips_p _).mono ?_
    rintro e w2 ⟨v2,rfl,hr2,hx2⟩
    obtain⟨A,c,rfl,r1,r2,hV⟩:=Recs.of_row hr2
    obtain⟨b,rfl,hb,hc⟩:=hV (by simp [sixVals])
    replace hown:=row_ext hown hx2
    replace hX:=hX.trans hx2
    clear hr2 hV hx2
    go_wp2_with (at_builtin;refine append_recs info_strip Try.underlying106 rfl (by decide) (by decide) rfl _ _ rfl _ (2*j) _ sixVals ⟨b,0,none⟩ 2 c hX hown rfl rfl rfl (fun i u hu=>by rw [Addr.add_lit,Nat.zero_add];exact hc i u hu) (fun u hu=>pairVals_one 1 u (by simpa [pairVals] using hu)) (by omega) (by omega) ?_)
    intro v' w' ho hx'
    have hoh:=Lib.hid ho
    clear hown ho hc
    go_wp2_with fail
    refine⟨⟨j+1,by go_num,by omega,by rw [pairVals_succ];exact hoh.out,hx'⟩,?_⟩
    simp [intOf];omega
  · obtain rfl:j=m:=by omega
    have hownh:=Lib.hid hown
    clear hown
    go_wp2_with fail
    go_ret
    exact⟨_,rfl,hownh.out,hX⟩
set_option maxRecDepth 100000 in
theorem mstrips_p (n:Int)(w:World)(h1:2<=n)(h2:n<=8)(ht:Calls Try.prog 163 #[.int .i64 n] w fun e w'=>e=.returned (.int .i64 n)/\w=w'):Calls Try.prog 177 #[.int .i64 n] w fun e w'=>∃ v,e=.returned v/\w'.ownsRow w.heap.size 109 3 v (2*(n.toNat*((n-1).toNat*(n-1).toNat))) (pairVals (n.toNat*((n-1).toNat*(n-1).toNat)))/\Ext w w':=by
 have hT:=fun w=>tstrips_p n w (by omega) h2
 have hm1:1<=(n-1).toNat*(n-1).toNat:=Nat.mul_pos (by omega) (by omega)
 have hk:(n-1).toNat*(n-1).toNat<=49:=Nat.mul_le_mul (show (n-1).toNat<=7 by omega) (show (n-1).toNat<=7 by omega)
 generalize (n-1).toNat*(n-1).toNat=m at *
 obtain⟨k,rfl⟩:∃ k:Nat,n=(k:Int):=⟨n.toNat,by omega⟩
 rw [Int.toNat_natCast]
 go_enter Try.func177,Try.ntmps177
 go_wp2_with fail
 refine ht.mono ?_
 rintro e w' ⟨rfl,rfl⟩
 go_wp2_with fail
 go_loopw [3,6] (fun v i wr=>∃ j:Nat,i=.int .i64 j/\j<=k/\wr.ownsRow w.heap.size 109 3 v (2*(j*m)) (pairVals (j*m))/\Ext w wr) (fun _ i _=>k-(intOf i).toNat)
 case atStart=>exact⟨0,rfl,by omega,by rw [Nat.zero_mul];exact World.ownsRow_nil _ _ _ _,Ext.refl _⟩
 case round =>
  obtain⟨j,rfl,hj,hown,hX⟩:=hrel
  by_cases hl:j<k
  · have hjm:j*m<=8*49:=Nat.mul_le_mul (by omega) hk
    go_wp2_with fail
    refine (hT _).mono ?_
    rintro e w2 ⟨v2,rfl,hr2,hx2⟩
    obtain⟨A,c,rfl,r1,r2,hV⟩:=Recs.of_row hr2
    replace hown:=row_ext hown hx2
    replace hX:=hX.trans hx2
    have hjs:(j+1)*m=j*m+m:=Nat.succ_mul j m
    obtain⟨b,rfl,hb,hc⟩:=hV (fun e=>by have:=pairVals_len m;rw [e] at this;simp at this;omega)
    clear hr2 hV hx2
    go_wp2_with (at_builtin;refine append_recs info_strip Try.underlying106 rfl (by decide) (by decide) rfl _ _ rfl _ (2*(j*m)) _ (pairVals m) ⟨b,0,none⟩ (2*m) c hX hown rfl rfl (by rw [pairVals_len];omega) (fun i u hu=>by rw [Addr.add_lit,Nat.zero_add];exact hc i u hu) (pairVals_one m) (by omega) (by omega) ?_)
    intro v' w' ho hx'
    have hoh:=Lib.hid ho
    clear hown ho hc
    go_wp2_with fail
    refine⟨⟨j+1,by go_num,by omega,?_,hx'⟩,?_⟩
    · rw [hjs,pairVals_add,Nat.mul_add];exact hoh.out
    · simp [intOf];omega
  · obtain rfl:j=k:=by omega
    have hownh:=Lib.hid hown
    clear hown
    go_wp2_with fail
    go_ret
    exact⟨_,rfl,hownh.out,hX⟩
def StripsAre (w w':World) (v:Value) (n:Nat) (f:Nat->Int):Prop :=
 ∃ A c vals,v=.slice A n c/\n<=c/\c<=9223372036854775807/\Ext w w'/\∀ i,i<n->∃ b x y,A=some ⟨b,0,none⟩/\b<w'.heap.size/\vals=b/\w'.cell? ⟨b,i*3,none⟩=some (.int .i64 (f i))/\w'.cell? ⟨b,i*3+1,none⟩=some (.int .i64 x)/\w'.cell? ⟨b,i*3+2,none⟩=some (.int .i64 y)
def pairF (i:Nat):Int:=if i % 2=0 then 4 else 12
theorem strips_pairs {w w':World}{B:Nat}{v:Value}{m:Nat}(h:w'.ownsRow B 109 3 v (2*m) (pairVals m))(hx:Ext w w'):StripsAre w w' v (2*m) pairF:=by
 obtain⟨A,c,rfl,r1,r2,hV⟩:=Recs.of_row h
 by_cases hm:m=0
 · subst hm
   exact⟨A,c,0,rfl,r1,r2,hx,fun i hi=>by omega⟩
 · obtain⟨b,rfl,hb,hc⟩:=hV (fun e=>by have:=pairVals_len m;rw [e] at this;simp at this;omega)
   refine⟨_,c,b,rfl,r1,r2,hx,fun i hi=>?_⟩
   obtain⟨p0,⟨x,p1⟩,⟨y,p2⟩⟩:=pair_at m i hi
   exact⟨b,x,y,rfl,hb,rfl,hc _ _ p0,hc _ _ p1,hc _ _ p2⟩
def manyF (r:Reg):Nat:=if r.kind=1 then 1 else if r.kind=6 then 2*((r.n-1).toNat*(r.n-1).toNat) else 2*(r.n.toNat*((r.n-1).toNat*(r.n-1).toNat))
def stripF (r:Reg) (i:Nat):Int:=if r.kind=1 then 1 else pairF i
set_option maxRecDepth 100000 in
theorem rstrips_p (r:Reg)(w:World)(hk:r.kind=1∨r.kind=6∨(r.kind=7/\2<=r.n))(hn:1<=r.n/\r.n<=8)(ht:∀ w,Calls Try.prog 163 #[.int .i64 r.n] w fun e w'=>e=.returned (.int .i64 r.n)/\w=w') :
  Calls Try.prog 114 #[encR r] w fun e w'=>∃ v,e=.returned v/\StripsAre w w' v (manyF r) (stripF r):=by
 obtain⟨kind,base,loc,n,wr,rd,top⟩:=r
 simp only at hk hn ht
 unfold encR
 simp only
 have hX:=Ext.refl w
 have b1:=Blk.new w (.cells #[.int .i64 kind,.int .i64 base,.int .i64 loc,.int .i64 n,.int .i64 wr,.int .i64 rd,.int .i64 top] 56)
 replace hX:=hX.alloc (.cells #[.int .i64 kind,.int .i64 base,.int .i64 loc,.int .i64 n,.int .i64 wr,.int .i64 rd,.int .i64 top] 56)
 have c_b1:=b1.cells
 rcases hk with rfl | rfl | ⟨rfl,h2⟩
 · go_enter Try.func114,Try.ntmps114
   go_wp2_with fail
   refine (clamp_p _ _ _).mono ?_
   rintro e w' ⟨rfl,rfl⟩
   have g1:=Blk.new (w.alloc (.cells #[.int .i64 1,.int .i64 base,.int .i64 loc,.int .i64 n,.int .i64 wr,.int .i64 rd,.int .i64 top] 56)) (.cells #[.int .i64 1,.int .i64 3,.int .i64 (clamp top 1099511627776)] 109)
   have hX2:=Lib.hid (hX.alloc (.cells #[.int .i64 1,.int .i64 3,.int .i64 (clamp top 1099511627776)] 109))
   simp only [World.size_alloc] at g1
   have g1h:=Lib.hid g1
   clear g1
   go_wp2_with fail
   go_ret
   refine⟨_,rfl,some ⟨w.heap.size+1,0,none⟩,1,w.heap.size+1,rfl,by simp [manyF],by omega,hX2.out,fun i hi=>?_⟩
   have hi0:i=0:=by simp [manyF] at hi;exact hi
   subst hi0
   exact⟨_,_,_,rfl,g1h.out.lt,rfl,g1h.out.cells 0,g1h.out.cells 1,g1h.out.cells 2⟩
 · go_enter Try.func114,Try.ntmps114
   go_wp2_with fail
   refine (tstrips_p n _ hn.1 hn.2).mono ?_
   rintro e w2 ⟨v,rfl,hr,hx⟩
   have hS:=Lib.hid (strips_pairs hr (hX.trans hx))
   clear hr hx
   go_wp2_with fail
   go_ret
   exact⟨_,rfl,hS.out⟩
 · go_enter Try.func114,Try.ntmps114
   go_wp2_with fail
   refine (mstrips_p n _ h2 hn.2 (ht _)).mono ?_
   rintro e w2 ⟨v,rfl,hr,hx⟩
   have hS:=Lib.hid (strips_pairs hr (hX.trans hx))
   clear hr hx
   go_wp2_with fail
   go_ret
   exact⟨_,rfl,hS.out⟩
def sumF (f:Nat->Int):Nat->Int
 | 0=>0
 | n+1=>sumF f n+f n
theorem sum_pair:∀ m:Nat,sumF pairF (2*m)=16*(m:Int)
 | 0=>rfl
 | m+1=>by
   have h1:pairF (2*m)=4:=by unfold pairF;rw [if_pos (by omega)]
   have h2:pairF (2*m+1)=12:=by unfold pairF;rw [if_neg (by omega)]
   show sumF pairF (2*m)+pairF (2*m)+pairF (2*m+1)=_
   rw [sum_pair m,h1,h2]
   omega
theorem sumF_bd (r:Reg):∀ n:Nat,0<=sumF (stripF r) n/\sumF (stripF r) n<=12*n
 | 0=>by simp [sumF]
 | n+1=>by
   have h:=sumF_bd r n
   have h2:0<=stripF r n/\stripF r n<=12:=by unfold stripF pairF;split <;> (try split) <;> omega
   show 0<=sumF (stripF r) n+stripF r n/\sumF (stripF r) n+stripF r n<=_
   omega
theorem sum_cells (r:Reg)(hk:r.kind=1∨r.kind=6∨r.kind=7)(hn:1<=r.n/\r.n<=8):sumF (stripF r) (manyF r)=cellsM r:=by
 obtain⟨k,hk0⟩:∃ k:Nat,r.n=(k:Int)+1:=⟨(r.n-1).toNat,by omega⟩
 rcases hk with h | h | h
 · unfold manyF cellsM
   rw [if_pos h,if_pos h]
   show sumF (stripF r) 0+stripF r 0=1
   unfold stripF
   rw [if_pos h]
   rfl
 · have e:stripF r=pairF:=by funext i;unfold stripF;rw [if_neg (by omega)]
   have n1:r.kind≠1:=by omega
   unfold manyF cellsM
   rw [if_neg n1,if_neg n1,if_pos h,if_pos h,e,sum_pair,hk0,show ((k:Int)+1-1)=(k:Int) by omega,Int.toNat_natCast,Int.natCast_mul,<- Int.mul_assoc]
 · have e:stripF r=pairF:=by funext i;unfold stripF;rw [if_neg (by omega)]
   have n1:r.kind≠1:=by omega
   have n6:r.kind≠6:=by omega
   unfold manyF cellsM
   rw [if_neg n1,if_neg n1,if_neg n6,if_neg n6,e,sum_pair,hk0,show ((k:Int)+1-1)=(k:Int) by omega,show ((k:Int)+1).toNat=k+1 by omega,Int.toNat_natCast,Int.natCast_mul,Int.natCast_mul,Int.mul_comm ((k+1:Nat):Int),<- Int.mul_assoc,<- Int.mul_assoc]
   rfl
theorem manyF_bd (r:Reg)(hn:1<=r.n/\r.n<=8):manyF r<=784:=by
 have h1:(r.n-1).toNat*(r.n-1).toNat<=49:=Nat.mul_le_mul (show (r.n-1).toNat<=7 by omega) (show (r.n-1).toNat<=7 by omega)
 have h2:r.n.toNat*((r.n-1).toNat*(r.n-1).toNat)<=8*49:=Nat.mul_le_mul (by omega) h1
 unfold manyF
 split
 · omega
 · split <;> omega
set_option maxRecDepth 100000 in
theorem cells_p (r:Reg)(w:World)(hk:r.kind=1∨r.kind=6∨(r.kind=7/\2<=r.n))(hn:1<=r.n/\r.n<=8)(ht:∀ w,Calls Try.prog 163 #[.int .i64 r.n] w fun e w'=>e=.returned (.int .i64 r.n)/\w=w') :
  Calls Try.prog 45 #[encR r] w fun e w'=>e=.returned (.int .i64 (cellsM r))/\Ext w w':=by
 have hS:=fun w=>rstrips_p r w hk hn ht
 have hsum:=sum_cells r (by omega) hn
 have hbd:=sumF_bd r
 have hmn:=manyF_bd r hn
 generalize stripF r=f at *
 generalize manyF r=M at *
 rw [<- hsum]
 clear hsum hk hn ht
 obtain⟨kind,base,loc,n,wr,rd,top⟩:=r
 unfold encR at hS ⊢
 simp only at hS ⊢
 have hX:=Ext.refl w
 have b1:=Blk.new w (.cells #[.int .i64 kind,.int .i64 base,.int .i64 loc,.int .i64 n,.int .i64 wr,.int .i64 rd,.int .i64 top] 56)
 replace hX:=hX.alloc (.cells #[.int .i64 kind,.int .i64 base,.int .i64 loc,.int .i64 n,.int .i64 wr,.int .i64 rd,.int .i64 top] 56)
 have c_b1:=b1.cells
 go_enter Try.func45,Try.ntmps45
 go_wp2_with fail
 refine (hS _).mono ?_
 rintro e w2 ⟨v,rfl,A,c,bb,rfl,r1,r2,hx,hat⟩
 replace hX:=hX.trans hx
 clear hx hS c_b1 b1
 go_wp2_with fail
 go_loopw [3,9] (fun s i wr=>∃ j:Nat,i=.int .i64 j/\j<=M/\s=.int .i64 (sumF f j)/\Ext w2 wr) (fun _ i _=>M-(intOf i).toNat)
 case atStart=>exact⟨0,rfl,by omega,rfl,Ext.refl _⟩
 case round =>
  obtain⟨j,rfl,hj,rfl,hx⟩:=hrel
  by_cases hl:j<M
  · obtain⟨b,x,y,rfl,hb,rfl,e1,e2,e3⟩:=hat j hl
    have e1:=(hx.cell (p:=⟨bb,j*3,none⟩) hb).trans e1
    have e2:=(hx.cell (p:=⟨bb,j*3+1,none⟩) hb).trans e2
    have e3:=(hx.cell (p:=⟨bb,j*3+2,none⟩) hb).trans e3
    have hb1:=hbd j
    have hb2:=hbd (j+1)
    have hs:sumF f (j+1)=sumF f j+f j:=rfl
    rw [hs] at hb2
    have hxa:=Lib.hid (hx.alloc (.cells #[.int .i64 (f j),.int .i64 x,.int .i64 y] 109))
    have hsh:=Lib.hid hs
    clear hat hbd hs
    generalize sumF f j=s at *
    generalize f j=F at *
    go_wp2_with fail
    refine⟨⟨j+1,by go_num,by omega,by rw [hsh.out],hxa.out⟩,?_⟩
    simp [intOf];omega
  · obtain rfl:j=M:=by omega
    clear hat hbd
    have hf:=Lib.hid (hX.trans hx)
    go_wp2_with fail
    go_ret
    exact⟨rfl,hf.out⟩
theorem within_p (a m:Int)(w:World)(h:0<=a/\0<=m/\m<=10000):Calls Try.prog 146 #[.int .i64 a,.int .i64 m,.int .i64 32768] w fun e w'=>e=.returned (.bool (decide (a<=32768)&&decide (a+m<=32768)))/\w=w':=by
 obtain⟨h0,h1,h2⟩:=h
 by_cases e1:a<=32768
 · have d:decide (a<=32768)=true:=by simpa using e1
   rw [d,Bool.true_and]
   go_enter Try.func146,Try.ntmps146
   go_wp2_with fail
   go_ret
   exact⟨rfl,rfl⟩
 · have d:decide (a<=32768)=false:=by simpa using e1
   rw [d,Bool.false_and]
   go_enter Try.func146,Try.ntmps146
   go_wp2_with fail
   go_ret
   exact⟨rfl,rfl⟩
theorem greatest1_p (w:World):Calls Try.prog 145 #[.int .i64 1] w fun e w'=>e=.returned (.int .i64 1099511627776)/\w=w':=by
 go_enter Try.func145,Try.ntmps145
 go_wp2_with fail
 go_ret
 exact⟨rfl,rfl⟩
theorem mlocals_p (n:Int)(w:World)(h1:1<=n)(h2:n<=8):Calls Try.prog 120 #[.int .i64 n] w fun e w'=>e=.returned (.int .i64 (n*(2+18*(n-1)*(n-1))))/\w=w':=by
 have hb:=locals_bd n h1 h2
 go_enter Try.func120,Try.ntmps120
 go_wp2_with fail
 refine (mthreads_p n _ h1 h2).mono ?_
 rintro e w' ⟨rfl,rfl⟩
 go_wp2_with fail
 refine (tlocals_p n _ h1 h2).mono ?_
 rintro e w' ⟨rfl,rfl⟩
 go_wp2_with fail
 go_ret
 exact⟨rfl,rfl⟩
theorem locals_p (r:Reg)(w:World)(hk:r.kind=1∨r.kind=6∨r.kind=7)(hn:1<=r.n/\r.n<=8):Calls Try.prog 46 #[encR r] w fun e w'=>e=.returned (.int .i64 (localsM r))/\Ext w w':=by
 obtain⟨kind,base,loc,n,wr,rd,top⟩:=r
 simp only at hk hn
 unfold encR localsM
 simp only
 have hX:=Ext.refl w
 have b1:=Blk.new w (.cells #[.int .i64 kind,.int .i64 base,.int .i64 loc,.int .i64 n,.int .i64 wr,.int .i64 rd,.int .i64 top] 56)
 replace hX:=hX.alloc (.cells #[.int .i64 kind,.int .i64 base,.int .i64 loc,.int .i64 n,.int .i64 wr,.int .i64 rd,.int .i64 top] 56)
 have c_b1:=b1.cells
 rcases hk with rfl | rfl | rfl
 · go_enter Try.func46,Try.ntmps46
   go_wp2_with fail
   go_ret
   exact⟨rfl,hX⟩
 · go_enter Try.func46,Try.ntmps46
   go_wp2_with fail
   refine (tlocals_p n _ hn.1 hn.2).mono ?_
   rintro e w' ⟨rfl,rfl⟩
   go_wp2_with fail
   go_ret
   exact⟨rfl,hX⟩
 · go_enter Try.func46,Try.ntmps46
   go_wp2_with fail
   refine (mlocals_p n _ hn.1 hn.2).mono ?_
   rintro e w' ⟨rfl,rfl⟩
   go_wp2_with fail
   go_ret
   exact⟨rfl,hX⟩
@[go_sem] theorem build_regw (a b c d e:Int) (w:World):(Instr.build 56 #[(0,.int .i64 a),(3,.int .i64 b),(4,.int .i64 c),(5,.int .i64 d),(6,.int .i64 e)]).run Try.prog w=.ok (.agg #[.int .i64 a,.int .i64 0,.int .i64 0,.int .i64 b,.int .i64 c,.int .i64 d,.int .i64 e]) w:=run_build w 56 _ _ (by kernel_rfl)
theorem append_none {w:World}{ops:Array Oper}{rest:List Oper}{o:Oper}{a:Act}{Q:Exit->Act->World->Prop}{z:Value}{e t:TypeId}{size bytes:Nat}
  (hinfo:(Try.prog.info? e).map (fun i=>(i.zero,i.size,i.bytes))=some (some z,size,bytes))(hund:Try.prog.underlying t=some (.slice e))(hgd:o.guard=none)(s x:Operand)
  (ho:o.op=.call { callee:=.builtin .append,args:=#[s,x],argTypes:=#[t,t] })(base:Nat)(v:Value)(n:Nat)(xs:List Value)(hown:w.ownsRow base e size v n xs)(hs:a.eval s=v)(hx:a.eval x=.slice none 0 0)
  (h:wpList Try.prog ops Q rest (a.put o.dst v) w):wpList Try.prog ops Q (o :: rest) a w:=by
 obtain⟨i0,hi,hz0,hz1,hz2⟩:=info_parts hinfo
 exact wpList_append_own_none hgd s x t ho base e i0 size hund hi v n xs hs hown hx h
set_option maxRecDepth 100000 in
theorem mstrips1_p (w:World):Calls Try.prog 177 #[.int .i64 1] w fun e w'=>∃ A c,e=.returned (.slice A 0 c)/\Ext w w':=by
 go_enter Try.func177,Try.ntmps177
 go_wp2_with fail
 refine (mthreads_p 1 _ (by omega) (by omega)).mono ?_
 rintro e w' ⟨rfl,rfl⟩
 go_wp2_with fail
 go_loopw [3,6] (fun v i wr=>∃ j:Nat,i=.int .i64 j/\j<=1/\wr.ownsRow w.heap.size 109 3 v 0 []/\Ext w wr) (fun _ i _=>1-(intOf i).toNat)
 case atStart=>exact⟨0,rfl,by omega,World.ownsRow_nil _ _ _ _,Ext.refl _⟩
 case round =>
  obtain⟨j,rfl,hj,hown,hX⟩:=hrel
  by_cases hl:j<1
  · obtain rfl:j=0:=by omega
    go_wp2_with fail
    refine (tstrips_p 1 _ (by omega) (by omega)).mono ?_
    rintro e w2 ⟨v2,rfl,hr2,hx2⟩
    rw [show 2*((1-1:Int).toNat*(1-1:Int).toNat)=0 from rfl,show pairVals ((1-1:Int).toNat*(1-1:Int).toNat)=[] from rfl] at hr2
    replace hown:=row_ext hown hx2
    replace hX:=hX.trans hx2
    clear hx2
    rcases hr2.2 with⟨rfl,-⟩ | ⟨g,cap,cur,rfl,q1,q2,q3,q4,-⟩
    · clear hr2
      go_wp2_with (at_builtin;refine append_none info_strip Try.underlying106 rfl _ _ rfl w.heap.size _ 0 [] hown rfl rfl ?_)
      have hoh:=Lib.hid hown
      clear hown
      go_wp2_with fail
      refine⟨⟨1,by go_num,by omega,hoh.out,hX⟩,?_⟩
      simp [intOf]
    · clear hr2
      go_wp2_with (at_builtin;refine append_recs info_strip Try.underlying106 rfl (by decide) (by decide) rfl _ _ rfl _ 0 [] [] ⟨g,0,none⟩ 0 cap hX hown rfl rfl rfl (fun i u hu=>by simp at hu) (fun u hu=>by simp at hu) (by omega) (by omega) ?_)
      intro v' w' ho hx'
      have hoh:=Lib.hid ho
      clear hown ho q1 q2 q3 q4
      go_wp2_with fail
      refine⟨⟨1,by go_num,by omega,hoh.out,hx'⟩,?_⟩
      simp [intOf]
  · obtain rfl:j=1:=by omega
    obtain⟨A,c,rfl,-⟩:=Recs.of_row hown
    clear hown
    go_wp2_with fail
    go_ret
    exact⟨_,_,rfl,hX⟩
set_option maxRecDepth 100000 in
theorem cells71_p (base loc wr rd top:Int)(w:World):Calls Try.prog 45 #[.agg #[.int .i64 7,.int .i64 base,.int .i64 loc,.int .i64 1,.int .i64 wr,.int .i64 rd,.int .i64 top]] w fun e w'=>e=.returned (.int .i64 0)/\Ext w w':=by
 have hS:∀ w,Calls Try.prog 114 #[.agg #[.int .i64 7,.int .i64 base,.int .i64 loc,.int .i64 1,.int .i64 wr,.int .i64 rd,.int .i64 top]] w fun e w'=>∃ A c,e=.returned (.slice A 0 c)/\Ext w w':=by
  intro w
  have hX:=Ext.refl w
  have b1:=Blk.new w (.cells #[.int .i64 7,.int .i64 base,.int .i64 loc,.int .i64 1,.int .i64 wr,.int .i64 rd,.int .i64 top] 56)
  replace hX:=hX.alloc (.cells #[.int .i64 7,.int .i64 base,.int .i64 loc,.int .i64 1,.int .i64 wr,.int .i64 rd,.int .i64 top] 56)
  have c_b1:=b1.cells
  go_enter Try.func114,Try.ntmps114
  go_wp2_with fail
  refine (mstrips1_p _).mono ?_
  rintro e w2 ⟨A,c,rfl,hx⟩
  have hf:=Lib.hid (hX.trans hx)
  clear hx
  go_wp2_with fail
  go_ret
  exact⟨_,_,rfl,hf.out⟩
 have hX:=Ext.refl w
 have b1:=Blk.new w (.cells #[.int .i64 7,.int .i64 base,.int .i64 loc,.int .i64 1,.int .i64 wr,.int .i64 rd,.int .i64 top] 56)
 replace hX:=hX.alloc (.cells #[.int .i64 7,.int .i64 base,.int .i64 loc,.int .i64 1,.int .i64 wr,.int .i64 rd,.int .i64 top] 56)
 have c_b1:=b1.cells
 go_enter Try.func45,Try.ntmps45
 go_wp2_with fail
 refine (hS _).mono ?_
 rintro e w2 ⟨A,c,rfl,hx⟩
 have hf:=Lib.hid (hX.trans hx)
 clear hx hS c_b1 b1 hX
 go_wp2_with fail
 go_loopw [3,9] (fun s i wr=>i=.int .i64 0/\s=.int .i64 0/\w2=wr) (fun _ _ _=>0)
 case atStart=>exact⟨rfl,rfl,rfl⟩
 case round =>
  obtain⟨rfl,rfl,rfl⟩:=hrel
  go_wp2_with fail
  go_ret
  exact⟨rfl,hf.out⟩
theorem cells_all (r:Reg)(w:World)(hk:r.kind=1∨r.kind=6∨r.kind=7)(hn:1<=r.n/\r.n<=8):Calls Try.prog 45 #[encR r] w fun e w'=>e=.returned (.int .i64 (cellsM r))/\Ext w w':=by
 by_cases h:r.kind=7/\r.n=1
 · obtain⟨kind,base,loc,n,wr,rd,top⟩:=r
   obtain⟨rfl,rfl⟩:=h
   exact cells71_p base loc wr rd top w
 · exact cells_p r w (by omega) hn (fun w=>mthreads_p r.n w hn.1 hn.2)
theorem RegsAt.ext {ix:List Nat}{p b:Nat}{w w':World}{l:List Reg}(h:RegsAt ix w p b l)(hx:Ext w w')(hp:p<w.heap.size):RegsAt ix w' p b l:=h.keep (B:=0) (Keep.of_ext hx hp (Nat.zero_le _))
end Go.Proofs.Ytbphlkaihfbgeaa
namespace Go.Proofs.Ytbphlkaihfbgeaa
open Go.RowKit Go.WideShapes Go.ChangeShapes
section
variable {H:Type} {enc:TypeId × Value->H} {P:Program}
theorem post_of_below {f:Func}{s:ChangeSpec}{apart fresh handsOn again:Bool}{W W':World}{args:Array Value}{v:Value}{ds gs:List (DataW H)}{before pa pv:List MemPlace}
  (hW:DataW.Whole enc P f.params.toList s.vars apart W args.toList ds gs before)
  (hres:∀ (b:Nat) (sp:Nat->Bool) (hd:Bool),DataW.TrodAll enc P W' b sp hd f.resultTypes.toList (v.resultList f.resultTypes.size) (s.fn H (ds++gs)).results [])
  (hargs:∀ sp:Nat->Bool,(∀ p∈before,sp p.block=true)->DataW.TrodAll enc P W' 0 sp true f.params.toList args.toList (s.fn H (ds++gs)).args pa)
  (hvars:∀ sp:Nat->Bool,(∀ p∈before,sp p.block=true)->DataW.TrodVars enc P W' sp s.vars (s.fn H (ds++gs)).vars pv)
  (hps:before=pa++pv)(hb:Below W.heap.size W W')
  (hok:∀ (j:Nat) (t:TypeId) (r:Value),f.resultTypes[j]?=some t->(v.resultList f.resultTypes.size)[j]?=some r->Value.okWide P W' .any 0 t r) :
  s.post enc P f apart fresh handsOn again W args v W':=by
 have hlt:∀ p∈before,p.block<W.heap.size:=fun p hp=>hW.lt p hp
 have hold:∀ p∈before,(fun b=>decide (b<W.heap.size)) p.block=true:=fun p hp=>by simpa using hlt p hp
 refine⟨ds,gs,before,[],pa,pv,hW,hres _ _ _,hargs _ hold,hvars _ hold,World.keptBut_mono (fun p hp=>⟨hp,?_⟩) (hb.frame (·∈before)),fun _=>?_⟩
 · rw [hps,List.mem_append] at hp
   exact Or.inr hp
 · obtain⟨_,_,_,_,_,hz,hn⟩:=hW
   refine⟨hok,_,_,([]++pa)++pv,⟨[]++pa,pv,trodAll_append (hargs _ (fun _ _=>rfl)) (hres _ _ _),hvars _ (fun _ _=>rfl),rfl,?_,?_⟩,?_⟩
   · intro b off hp
     have hin:MemPlace.cell b off∈before:=by rw [hps];simpa using hp
     rw [hb.frozen (hlt _ hin)]
     exact hz b off hin
   · intro ha
     have:=hn ha
     rw [hps] at this
     simpa using this
   · intro p hp _
     rw [hps]
     simpa using hp
end
section
variable {H:Type} {enc:TypeId × Value->H} {P:Program}
theorem trodAll_stays (hl:laidOutB P=true):∀ (ts:List TypeId),(∀ t∈ts,P.readableRec t=true/\t<P.types.size)->∀ {W W':World} {sp:Nat->Bool} {vs:List Value} {ds:List (DataW H)} {ps:List MemPlace},
  DataW.TrodAll enc P W 0 (fun _=>true) true ts vs ds ps->(∀ p∈ps,W.sameAt W' p)->(∀ p∈ps,sp p.block=true)->DataW.TrodAll enc P W' 0 sp true ts vs ds ps
 | [],_,W,W',sp,vs,ds,ps,h,_,_=>by
   cases vs <;> cases ds <;> simp_all [DataW.TrodAll]
 | t :: ts,ht,W,W',sp,vs,ds,ps,h,hs,hsp=>by
   obtain⟨v,vs',d,ds',p,q,rfl,rfl,rfl,hp,hq⟩:=trodAll_cons h
   have h1:=ht t (by simp)
   refine trodAll_cons_mk (WideElems.Trod_stays hl h1.1 h1.2 hp (fun x hx=>hs x (by simp [hx])) (fun x hx=>hsp x (by simp [hx]))) ?_
   exact trodAll_stays hl ts (fun t' h'=>ht t' (by simp [h'])) hq (fun x hx=>hs x (by simp [hx])) (fun x hx=>hsp x (by simp [hx]))
theorem trodAll_length:∀ (ts:List TypeId) {W:World} {b:Nat} {sp:Nat->Bool} {held:Bool} {vs:List Value} {ds:List (DataW H)} {ps:List MemPlace},DataW.TrodAll enc P W b sp held ts vs ds ps->ds.length=ts.length
 | [],W,b,sp,held,vs,ds,ps,h=>by cases vs <;> cases ds <;> simp_all [DataW.TrodAll]
 | t :: ts,W,b,sp,held,vs,ds,ps,h=>by
   obtain⟨v,vs',d,ds',p,q,rfl,rfl,rfl,hp,hq⟩:=trodAll_cons h
   simp [trodAll_length ts hq]
theorem law_post {f:Func}{s:ChangeSpec}{W W':World}{args:Array Value}{ds gs:List (DataW H)}{before:List MemPlace}{tb:TypeId}
  (hl:laidOutB P=true)(hr:∀ t∈f.params.toList,P.readableRec t=true/\t<P.types.size)(hres:f.resultTypes=#[tb])(htb:P.underlying tb=some .bool)
  (hvars:s.vars=[])(hspec:∀ ds:List (DataW H),ds.length=f.params.size->s.fn H ds={ results:=[.lit (.bool true)],args:=ds })
  (hW:DataW.Whole enc P f.params.toList s.vars false W args.toList ds gs before)(hx:Ext W W') :
  s.post enc P f false true false false W args (.bool true) W':=by
 have hWlt:∀ p∈before,p.block<W.heap.size:=fun p hp=>hW.lt p hp
 obtain⟨p,q,hA,hV,hpq,hfz,hnd⟩:=hW
 rw [hvars] at hV
 have hgs:gs=[]/\q=[]:=trodVars_none hV
 obtain⟨rfl,rfl⟩:=hgs
 have hlen:=trodAll_length _ hA
 have hsp:=hspec ds (by rw [hlen];simp)
 have hb:before=p:=by rw [hpq];simp
 subst hb
 have hn:f.resultTypes.size=1:=by rw [hres];rfl
 have hlo:(Value.bool true).resultList f.resultTypes.size=[Value.bool true]:=by rw [hn];rfl
 have e0:ds++([]:List (DataW H))=ds:=List.append_nil _
 refine post_of_below (pa:=before) (pv:=[]) (ds:=ds) (gs:=[]) ⟨before,[],hA,by rw [hvars];exact hV,hpq,hfz,hnd⟩ ?_ ?_ ?_ hpq hx ?_
 · intro b sp hd
   rw [e0,hsp,hlo,hres]
   exact trodAll_cons_mk (shut_bool htb _) trodAll_mk0
 · intro sp hsp'
   rw [e0,hsp]
   exact trodAll_stays hl _ hr hA (fun p hp=>Below.same hx (hWlt p hp)) hsp'
 · intro sp _
   rw [e0,hsp,hvars]
   rfl
 · intro j t r ht hr'
   rw [hres] at ht
   rw [hlo] at hr'
   cases j with
   | zero =>
     obtain rfl:tb=t:=by simpa using ht
     obtain rfl:Value.bool true=r:=by simpa using hr'
     exact okWide_bool_mk htb _
   | succ j=>simp at ht
end
end Go.Proofs.Ytbphlkaihfbgeaa
namespace Go.Proofs.Ytbphlkaihfbgeaa
open Go.ChangeShapes Go.WideShapes Go.ChangeAt Go.RowKit Kv
theorem cellsInt:Try.prog.cellsOf 3=1:=by kernel_rfl
theorem cell_lt {w:World}{a:Addr}{v:Value}(h:w.cell? a=some v):a.block<w.heap.size:=by
 rcases Nat.lt_or_ge a.block w.heap.size with hlt | hge
 · exact hlt
 · simp [World.cell?,Array.getElem?_eq_none hge] at h
set_option maxRecDepth 100000 in
theorem ints_arg {H:Type}{enc:TypeId × Value->H}{W:World}{b0:Nat}{r:Reach}{v:Value}{d:DataW H}{p:List MemPlace}
  (hv:Value.okWide Try.prog W r b0 28 v)(h:DataW.Trod enc Try.prog W 0 (fun _=>true) true 28 v d p) :
  ∃ l,Ints W v l/\∀ x∈l,-9223372036854775808<=x/\x<=9223372036854775807:=by
 obtain⟨a0,len,cap,rfl⟩:=okWide_slice Try.underlying28 hv
 obtain⟨fuel,hf⟩:=h
 rcases open_ints Try.underlying28 Try.underlying3 cellsInt hf with⟨hcs,hx⟩ | ⟨a,len',cap',zs,hcs,_,hl,hm,hz,hx,hcell,hwz⟩
 · simp [Value.cells] at hcs
   obtain⟨rfl,rfl,rfl⟩:=hcs
   exact⟨[],Ints.nil W,by simp⟩
 · simp [Value.cells] at hcs
   obtain⟨rfl,rfl,rfl⟩:=hcs
   simp only [if_true] at hz
   refine⟨zs.take len,?_,fun x hx=>bounds_i64 (hwz x (List.mem_of_mem_take hx))⟩
   have hlen:(zs.take len).length=len:=by rw [List.length_take];omega
   refine⟨some a,cap,by rw [hlen],by omega,by unfold maxLen at hm;exact hm,fun hne=>?_⟩
   have hpos:0<zs.length:=by
    rcases Nat.eq_zero_or_pos zs.length with h0 | h0
    · have:zs=[]:=List.eq_nil_of_length_eq_zero h0
      subst this
      simp at hne
    · exact h0
   obtain⟨b,off,rfl,hc⟩:=ints_at hcell hpos
   refine⟨b,off,rfl,cell_lt (hc 0 hpos),fun i x hi=>?_⟩
   have hi2:i<zs.length:=by
    have:=(List.getElem?_eq_some_iff.1 hi).1
    rw [List.length_take] at this
    omega
   rw [hc i hi2]
   have hi3:i<len:=by
    have:=(List.getElem?_eq_some_iff.1 hi).1
    omega
   rw [List.getElem?_take,if_pos hi3] at hi
   rw [List.getD_eq_getElem?_getD,hi]
   rfl
end Go.Proofs.Ytbphlkaihfbgeaa
namespace Go.Proofs.Ytbphlkaihfbgeaa
theorem own:ownKnob Try.prog.godebug=none:=by kernel_rfl
end Go.Proofs.Ytbphlkaihfbgeaa
namespace Go.Proofs.Ytbphlkaihfbgeaa
open Go.RowKit Kv
theorem regsP {w0 w1:World}{B p b:Nat}{S:TS}{rs:List Reg}(hb:b<w0.heap.size)(hc:∀ (i:Nat) u,(rs.flatMap regVals)[i]?=some u->w0.cell? ⟨b,i,none⟩=some u)(hx:Ext w0 w1)(hP:Plays B w1 p S)(hB:w0.heap.size<=B):RegsAt [2,3,4] w1 p b rs:=by
 refine⟨Nat.lt_of_lt_of_le hb hx.size,fun ho=>?_,fun j u hu=>(hx.cell (p:=⟨b,j,none⟩) hb).trans (hc j u hu)⟩
 obtain⟨_,_,_,_,_,_,h⟩:=hP
 have:=(h.own ho).1
 omega
theorem ints_new (w:World)(l:List Int)(h:l.length<=9223372036854775807):Ints (w.alloc (.cells (l.map (Value.int .i64)).toArray 3)) (.slice (some ⟨w.heap.size,0,none⟩) l.length l.length) l:=by
 refine⟨_,_,rfl,Nat.le_refl _,h,fun _=>⟨w.heap.size,0,rfl,by simp,fun i x hi=>?_⟩⟩
 have hh:=World.alloc_heap_new w (.cells (l.map (Value.int .i64)).toArray 3)
 simp only [World.cell?,hh,Nat.zero_add]
 simp [hi]
theorem Outs.parts {w:World}{v:Value}{d:Bool}{S:TS}(h:Outs w v d S):∃ A c A' c' As k n,v=.agg #[.bool d,.slice A S.acc.length c,.slice A' S.nts.length c',.slice As n k]:=by
 obtain⟨A,c,A',c',vs,L,rfl,hO⟩:=h
 obtain⟨As,k,rfl,_,_⟩:=hO.locs.slice
 exact⟨A,c,A',c',As,k,_,rfl⟩
end Go.Proofs.Ytbphlkaihfbgeaa
namespace Kv
theorem Prog.bind_some {α β:Type}{p:Prog α}{f:α->Prog β}{S S':TS}{b:β}(h:(p.bind f).run S=(some b,S')):∃ a S1,p.run S=(some a,S1)/\(f a).run S1=(some b,S'):=by
 rw [Prog.run_bind] at h
 rcases hr:p.run S with⟨o,S1⟩
 rw [hr] at h
 cases o with
 | none=>simp [thenR] at h
 | some a=>exact⟨a,S1,rfl,h⟩
end Kv
namespace Go.Proofs.Ytbphlkaihfbgeaa
open Kv
end Go.Proofs.Ytbphlkaihfbgeaa
namespace Kv
def TameA (S:TS):Prop:=∀ v∈S.ans,0<=v/\v<=1048576
theorem TameA.run {α:Type}{S S':TS}{p:Prog α}{a:Option α}(h:TameA S)(hr:p.run S=(a,S')):TameA S':=by
 have:=Prog.run_ans p S
 rw [hr] at this
 unfold TameA
 rw [this]
 exact h
theorem rd_bd {c v:Int}{S S':TS}(h:TameA S)(hr:(rd c).run S=(some v,S')):0<=v/\v<=1048576:=by
 unfold rd at hr
 simp only [Prog.run] at hr
 cases hn:S.next with
 | none=>rw [hn] at hr;simp at hr
 | some u =>
   rw [hn] at hr
   simp only [Prod.mk.injEq,Option.some.injEq] at hr
   rw [<- hr.1]
   exact h u (List.mem_of_getElem? hn)
theorem ret_run {α:Type}{a b:α}{S S':TS}(h:(Prog.ret a).run S=(some b,S')):a=b/\S=S':=by
 simpa [Prog.run] using h
end Kv
namespace Kv
open Go Go.RowKit
def digM (v:Int):Int:=min (max v 0) 3
theorem digM_bd (v:Int):0<=digM v/\digM v<=3:=by unfold digM;omega
def viewT (f:Nat->Int):Nat->Int
 | 0=>0
 | t+1=>viewT f t+digM (f t)*4 ^ t
theorem viewT_bd (f:Nat->Int):∀ t,0<=viewT f t/\viewT f t<4 ^ t
 | 0=>by simp [viewT]
 | t+1=>by
   have h:=viewT_bd f t
   have hd:=digM_bd (f t)
   have hp:(0:Int)<4 ^ t:=by exact Int.pow_pos (by decide)
   have h2:digM (f t)*4 ^ t<=3*4 ^ t:=Int.mul_le_mul_of_nonneg_right hd.2 (by omega)
   have h3:0<=digM (f t)*4 ^ t:=Int.mul_nonneg hd.1 (by omega)
   rw [viewT,Int.pow_succ]
   omega
theorem viewT_same {f g:Nat->Int}:∀ t,(∀ i,i<t->f i=g i)->viewT f t=viewT g t
 | 0,_=>rfl
 | t+1,h=>by rw [viewT,viewT,viewT_same t fun i hi=>h i (by omega),h t (by omega)]
def wordV (n:Nat) (x:Int):Int:=x / 4 ^ n % 4
theorem four_two (t:Nat):(4:Int) ^ t=2 ^ (2*t):=by rw [Int.pow_mul];rfl
theorem wraps_i64' (n:Int)(h0:0<=n)(h1:n<2 ^ 62):IntKind.i64.wrap n=n:=by rw [IntKind.wrap_i64];omega
theorem or_high (i:Nat)(x y:Int)(hx0:0<=x)(hx:x<2 ^ i)(hx1:x<2 ^ 62)(hy0:0<=y)(hy:y % 2 ^ i=0)(hy1:y<2 ^ 62):bits .or .i64 x y=x+y:=by
 have h:=bits_join .i64 62 (by decide) wraps_i64' i y x hy0 hy hy1 hx0 hx hx1
 obtain⟨a,rfl⟩:=Int.eq_ofNat_of_zero_le hx0
 obtain⟨b,rfl⟩:=Int.eq_ofNat_of_zero_le hy0
 have ha:a<2 ^ 62:=by exact_mod_cast hx1
 have hb:b<2 ^ 62:=by exact_mod_cast hy1
 rw [(bits_nat .i64 62 (by decide) wraps_i64' b a hb ha).2] at h
 rw [(bits_nat .i64 62 (by decide) wraps_i64' a b ha hb).2,Nat.or_comm,h]
 omega
theorem view_or (f:Nat->Int)(t:Nat)(h:t<=3):bits .or .i64 (viewT f t) (wrap64 (digM (f t)*2 ^ (2*t)))=viewT f (t+1):=by
 have h1:=viewT_bd f t
 have hd:=digM_bd (f t)
 have hp:(4:Int) ^ t<=64:=by
  have:t=0∨t=1∨t=2∨t=3:=by omega
  rcases this with rfl | rfl | rfl | rfl <;> decide
 have hp0:(0:Int)<4 ^ t:=Int.pow_pos (by decide)
 have h2:digM (f t)*4 ^ t<=3*4 ^ t:=Int.mul_le_mul_of_nonneg_right hd.2 (by omega)
 have h3:0<=digM (f t)*4 ^ t:=Int.mul_nonneg hd.1 (by omega)
 rw [viewT,<- four_two]
 have hw:wrap64 (digM (f t)*4 ^ t)=digM (f t)*4 ^ t:=by
  unfold wrap64
  omega
 rw [hw]
 exact or_high (2*t) _ _ h1.1 (by rw [<- four_two];exact h1.2) (by omega) h3 (by rw [<- four_two];exact Int.mul_emod_left ..) (by omega)
end Kv
namespace Go.Proofs.Ytbphlkaihfbgeaa
open Go.RowKit Kv
theorem digit_p (v:Int)(w:World):Calls Try.prog 93 #[.int .i64 v] w fun e w'=>e=.returned (.int .i64 (digM v))/\w=w':=by
 unfold digM
 go_enter Try.func93,Try.ntmps93
 go_wp2_with fail
 first | exact⟨rfl,rfl⟩ | (go_ret;exact⟨rfl,rfl⟩)
theorem view_p (A:Option Addr)(l:List Int)(n c:Nat)(f:Nat->Int)(w:World)(h:Ints w (.slice A n c) l)(hn:l.length=n)(h1:1<=n)(h4:n<=4)(hf:∀ (i:Nat) (v:Int),l[i]?=some v->f i=v) :
  Calls Try.prog 85 #[.slice A n c] w fun e w'=>e=.returned (.int .i64 (viewT f n))/\w=w':=by
 obtain⟨A',c',he,z1,z2,z3⟩:=id h
 injection he with e1 e2 e3
 subst e1 e3
 have hne:l≠[]:=fun e=>by rw [e] at hn;simp at hn;omega
 obtain⟨b,o,rfl,hb,hc⟩:=z3 hne
 have hch:Hid (∀ t,t<n->w.cell? ⟨b,o+t,none⟩=some (.int .i64 (f t))):=Lib.hid fun t ht=>by
  have hv:l[t]?=some l[t]:=List.getElem?_eq_getElem (by omega)
  rw [hf t _ hv]
  exact hc t _ hv
 clear hc z3 h hne hf
 rw [hn] at z1
 clear hn e2
 have hmn:min (n:Int) 4=n:=by omega
 have hmx:max (n:Int) 0=n:=by omega
 have hlc:(n:Int)<=(c:Int):=by omega
 have hl0:(0:Int)<=(n:Int):=by omega
 go_enter Try.func85,Try.ntmps85
 go_wp2_with fail
 go_loopw [3,12] (fun a3 a12 wr=>∃ (t:Nat),a3=.int .i64 (viewT f t)/\a12=.int .i64 t/\t<=n/\wr=w) (fun _ a12 _=>n-(intOf a12).toNat)
 case atStart=>exact⟨0,rfl,rfl,by omega,rfl⟩
 case round =>
  obtain⟨t,rfl,rfl,ht,rfl⟩:=hrel
  by_cases hl:t<n
  · have dl:decide ((t:Int)<(n:Int))=true:=by rw [decide_eq_true_eq];omega
    have hcell:=hch.out t hl
    have ht4:(t:Int)<n:=by omega
    have hor:=Lib.hid (view_or f t (by omega))
    go_wp2_with fail
    refine (digit_p (f t) _).mono ?_
    rintro e w2 ⟨rfl,rfl⟩
    go_wp2_with fail
    refine⟨⟨t+1,by rw [<- hor.out],by first | rfl | go_num,by omega,by first | trivial | rfl⟩,?_⟩
    simp [intOf];omega
  · obtain rfl:t=n:=by omega
    go_wp2_with fail
    first | exact⟨rfl,rfl⟩ | (go_ret;exact⟨rfl,rfl⟩)
theorem word_shr (n:Nat)(x:Int)(h0:0<=x)(h1:x<2 ^ 62):bits .and .i64 (x / 2 ^ (2*n)) 3=wordV n x:=by
 unfold wordV
 rw [four_two]
 have hp:(0:Int)<2 ^ (2*n):=Int.pow_pos (by decide)
 have h2:0<=x / 2 ^ (2*n):=Int.ediv_nonneg h0 (by omega)
 have h3:x / 2 ^ (2*n)<=x:=Int.ediv_le_self _ h0
 exact bits_mask .i64 62 (by decide) wraps_i64' 2 (by decide) _ h2 (by omega)
theorem values_p (w:World)(n:Nat)(xs:List Int)(x0 x1 x2 x3:Int)(h1:1<=n)(h4:n<=4)(hx:xs=[x0,x1,x2,x3])(hbd:∀ x∈xs,0<=x/\x<2 ^ 62) :
  Calls Try.prog 90 #[.agg #[.int .i64 x0,.int .i64 x1,.int .i64 x2,.int .i64 x3],.int .i64 n] w fun e w'=>e=.returned (.int .i64 (viewT (fun i=>wordV n (xs.getD i 0)) n))/\Ext w w':=by
 have hn4:(n:Int)<=4:=by omega
 have hn0:(0:Int)<=n:=by omega
 have b1:=Blk.new w (.cells #[.int .i64 x0,.int .i64 x1,.int .i64 x2,.int .i64 x3] 99)
 have hX:=(Ext.refl w).alloc (.cells #[.int .i64 x0,.int .i64 x1,.int .i64 x2,.int .i64 x3] 99)
 have hw2:=IntWalk.i64_in (2*(n:Int)) (by omega)
 go_enter Try.func90,Try.ntmps90
 go_upto_region 3 with fail
 have hsz:w.heap.size<(World.alloc w (.cells #[.int .i64 x0,.int .i64 x1,.int .i64 x2,.int .i64 x3] 99)).heap.size:=by simp
 generalize hz:w.heap.size=z at *
 generalize World.alloc w _=W1 at *
 have hbh:=Lib.hid hbd
 have hxh:=Lib.hid hx
 clear hbd hx hz
 go_loopw [5,11] (fun a5 a11 wr=>∃ (t:Nat),a11=.int .i64 t/\t<=n/\IntRow wr W1.heap.size a5 ((List.range t).map fun i=>wordV n (xs.getD i 0))/\Ext W1 wr) (fun _ a11 _=>n-(intOf a11).toNat)
 case atStart=>exact⟨0,rfl,by omega,IntRow.nil _ _,Ext.refl W1⟩
 case round =>
  obtain⟨t,rfl,ht,hown,hE⟩:=hrel
  by_cases hl:t<n
  · have dl:decide ((t:Int)<(n:Int))=true:=by rw [decide_eq_true_eq];omega
    have ht4:(t:Int)<(n:Int):=by omega
    obtain⟨x,hxt⟩:∃ x,xs[t]?=some x:=by rw [hxh.out];exact⟨_,List.getElem?_eq_getElem (by simp;omega)⟩
    have hcell:wr.cell? ⟨z,t,none⟩=some (.int .i64 x):=by
     refine (((b1.ext hE).cells t).trans ?_)
     have h:=hxt
     rw [hxh.out] at h
     have:t=0∨t=1∨t=2∨t=3:=by omega
     rcases this with rfl | rfl | rfl | rfl <;> simpa using h
    have hb:=hbh.out x (List.mem_of_getElem? hxt)
    have hsh:=word_shr n x hb.1 hb.2
    have hget:xs.getD t 0=x:=by simp [List.getD,hxt]
    have hownh:=Lib.hid hown
    have hlen:((List.range t).map fun i=>wordV n (xs.getD i 0)).length<1000000000000:=by simp;omega
    clear hown
    go_wp2_with (at_builtin;refine append_int rfl _ _ rfl W1.heap.size _ _ (wordV n x) hownh.out rfl (by first | rfl | (rw [<- hsh];rfl)) hlen hE.size ?_)
    intro v' w' ho hg
    have hx':=hE.appended hownh.out hg
    have hoh:Hid (IntRow w' W1.heap.size v' ((List.range (t+1)).map fun i=>wordV n (xs.getD i 0))):=by
     rw [List.range_succ,List.map_append]
     show IntRow _ _ _ (_++[wordV n (xs.getD t 0)])
     rw [hget]
     exact ho
    clear hownh ho hg hE hcell hsh
    go_wp2_with fail
    refine⟨⟨t+1,by first | rfl | go_num,by omega,hoh.out,hx'⟩,?_⟩
    simp [intOf];omega
  · obtain rfl:t=n:=by omega
    have dl:decide ((t:Int)<(t:Int))=false:=by simp
    have hI:=hown.ints
    obtain⟨A,c,rfl,hq⟩:=hI.slice
    have hIh:=Lib.hid hI
    have hEh:=Lib.hid hE
    have hl:((List.range t).map fun i=>wordV t (xs.getD i 0)).length=t:=by simp
    have hv:=view_p A ((List.range t).map fun i=>wordV t (xs.getD i 0)) t c (fun i=>wordV t (xs.getD i 0)) wr (by rw [<- hl];simpa using hI) hl h1 h4 (fun i v hi=>by
     have:i<t:=by
      have:=(List.getElem?_eq_some_iff.1 hi).1
      simpa using this
     simpa [this] using hi)
    rw [hl] at *
    have hvh:=Lib.hid hv
    clear hI hown hE hl hv hq
    go_wp2_with fail
    refine hvh.out.mono ?_
    rintro e w2 ⟨rfl,rfl⟩
    have hf:=Lib.hid (hX.trans hEh.out)
    go_wp2_with fail
    go_ret
    exact⟨rfl,hf.out⟩
end Go.Proofs.Ytbphlkaihfbgeaa
namespace Kv
open Go
def Jumps (J:Nat->Act->World->Prop) (Q:Exit->Act->World->Prop):Exit->Act->World->Prop
 | .goto l,a,w=>J l a w
 | e,a,w=>Q e a w
section
variable {P:Program} {a:Act} {w:World} {J:Nat->Act->World->Prop} {Q:Exit->Act->World->Prop}
@[go_sem] theorem jumps_normal:Jumps J Q .normal a w=Q .normal a w:=rfl
@[go_sem] theorem jumps_exit (id:Nat):Jumps J Q (.exit id) a w=Q (.exit id) a w:=rfl
@[go_sem] theorem jumps_ret:Jumps J Q .ret a w=Q .ret a w:=rfl
@[go_sem] theorem jumps_panic (c:List PanicEntry):Jumps J Q (.panic c) a w=Q (.panic c) a w:=rfl
@[go_sem] theorem jumps_goto (l:Nat):Jumps J Q (.goto l) a w=J l a w:=rfl
end
end Kv
namespace Kv
end Kv
namespace Go.Proofs.Ytbphlkaihfbgeaa
open Go.RowKit Kv
theorem tstepA {α β:Type}{B p:Nat}{w0 w:World}{S:TS}{R:Ending->World->Prop}{P:Program}{f:FuncId}{args:Array Value}{K:Ending->World->Prop}{enc:α->Value}{enc':β->Value}{T:Prog α}{g:α->Prog β}{k:Nat}(hN:T.Notes k)
  (hO:Owes R enc' B p w0 ((T.bind g).run S))(hB:KeepP B p w0 w)(h:Calls P f args w (Post enc B p w (T.run S)))(hp:∀ w',R (stopE p) w'->K (stopE p) w')
  (hk:∀ v S1 w1,T.run S=(some v,S1)->S1.left<=S.left->(T.Asks->S1.left<S.left)->S1.nts.length<=S.nts.length+k->Plays B w1 p S1->KeepP B p w w1->KeepP B p w0 w1->Owes R enc' B p w0 ((g v).run S1)->K (.returned (enc v)) w1):Calls P f args w K:=by
 refine tstep hO hB h hp fun v S1 w1 hr hP hk1 hk2 hO1=>hk v S1 w1 hr ?_ (fun ha=>ha.left hr hP.1) ?_ hP hk1 hk2 hO1
 · have:=Prog.run_left T S
   rw [hr] at this
   exact this
 · have:=hN.run S
   rw [hr] at this
   exact this
end Go.Proofs.Ytbphlkaihfbgeaa
namespace Kv
def collT:Nat->Nat->List Int->Prog (List Int)
 | 0,_,acc=>.ret acc
 | k+1,i,acc=>(rd (i:Int)).bind fun v=>collT k (i+1) (acc++[v])
theorem collT_succ (k i:Nat)(acc:List Int):collT (k+1) i acc=(rd (i:Int)).bind fun v=>collT k (i+1) (acc++[v]):=rfl
theorem notes_collT:∀ k i acc,(collT k i acc).Notes 0
 | 0,_,_=>.ret _ _
 | k+1,i,_=>(notes_rd _).bind0 fun _=>notes_collT k (i+1) _
theorem asks_collT (k i:Nat)(acc:List Int):(collT (k+1) i acc).Asks:=(asks_rd _).bind _
theorem collT_len:∀ (k i:Nat) (acc l:List Int) (S S':TS),(collT k i acc).run S=(some l,S')->l.length=acc.length+k
 | 0,_,acc,l,S,S',h=>by
   obtain⟨rfl,-⟩:=ret_run h
   rfl
 | k+1,i,acc,l,S,S',h=>by
   obtain⟨v,S1,_,h2⟩:=Prog.bind_some h
   have:=collT_len k (i+1) _ l S1 S' h2
   simp at this
   omega
theorem collT_bd:∀ (k i:Nat) (acc l:List Int) (S S':TS),TameA S->(∀ x∈acc,0<=x/\x<=1048576)->(collT k i acc).run S=(some l,S')->∀ x∈l,0<=x/\x<=1048576
 | 0,_,acc,l,S,S',_,ha,h=>by
   obtain⟨rfl,-⟩:=ret_run h
   exact ha
 | k+1,i,acc,l,S,S',hta,ha,h=>by
   obtain⟨v,S1,h1,h2⟩:=Prog.bind_some h
   refine collT_bd k (i+1) _ l S1 S' (hta.run h1) (fun x hx=>?_) h2
   rcases List.mem_append.1 hx with hx | hx
   · exact ha x hx
   · obtain rfl:x=v:=by simpa using hx
     exact rd_bd hta h1
structure NRegs (n:Nat) (rs:List Reg):Prop where
 len:rs.length=n
 at_:∀ i,i<n->∃ r,rs[i]?=some r/\r.ok/\r.kind=1/\r.base=(i:Int)/\r.n=n
end Kv
namespace Go.Proofs.Ytbphlkaihfbgeaa
open Go.RowKit Kv
@[go_sem] theorem eqIn_coll (a b c d a' b' c' d':Int) (w:World):(Op.equalIn 10000 99 (.agg #[.int .i64 a,.int .i64 b,.int .i64 c,.int .i64 d]) (.agg #[.int .i64 a',.int .i64 b',.int .i64 c',.int .i64 d'])).run Try.prog w=.ok (decide (a=a'/\b=b'/\c=c'/\d=d')) w:=by
 obtain⟨i0,hi,hz0,hz1,hz2⟩:=info_parts info_int
 have hu:Try.prog.underlying 3=some (.int .i64):=Try.underlying3
 have hc:Try.prog.cellsOf 3=1:=by kernel_rfl
 rw [run_equalIn_array w 9999 _ _ (show Try.prog.underlying 99=some (.array 4 3) from by kernel_rfl) hi,hc]
 simp [List.range,List.range.loop,Op.eqItems,go_sem,run_equalIn_int,hu]
 by_cases h0:a=a' <;> by_cases h1:b=b' <;> by_cases h2:c=c' <;> by_cases h3:d=d' <;> simp [h0,h1,h2,h3]
@[go_sem] theorem eql_coll (a b c d a' b' c' d':Int) (w:World):(binOp .eql 99 (.agg #[.int .i64 a,.int .i64 b,.int .i64 c,.int .i64 d]) (.agg #[.int .i64 a',.int .i64 b',.int .i64 c',.int .i64 d'])).run Try.prog w=.ok (.bool (decide (a=a'/\b=b'/\c=c'/\d=d'))) w:=by
 rw [run_eql_struct,eqIn_coll];rfl
def arrC (l:List Int):Array Value:=#[.int .i64 (l.getD 0 0),.int .i64 (l.getD 1 0),.int .i64 (l.getD 2 0),.int .i64 (l.getD 3 0)]
def encC (l:List Int):Value:=.agg (arrC l)
theorem arrC_put {l:List Int}{j:Nat}(hj:j<4)(hl:l.length=j)(v:Int):(arrC l).setIfInBounds j (.int .i64 v)=arrC (l++[v]):=by
 have:j=0∨j=1∨j=2∨j=3:=by omega
 rcases this with rfl | rfl | rfl | rfl
 · obtain rfl:=List.length_eq_zero_iff.1 hl;rfl
 · match l,hl with
   | [a],_=>rfl
 · match l,hl with
   | [a,b],_=>rfl
 · match l,hl with
   | [a,b,c],_=>rfl
theorem arrC_at (l:List Int){j:Nat}(hj:j<4):(arrC l)[j]?=some (.int .i64 (l.getD j 0)):=by
 have:j=0∨j=1∨j=2∨j=3:=by omega
 rcases this with rfl | rfl | rfl | rfl <;> rfl
theorem arrC_inj {l l':List Int}(h:l.length=l'.length)(h4:l.length<=4)(he:arrC l=arrC l'):l=l':=by
 apply List.ext_getElem?
 intro j
 by_cases hj:j<l.length
 · have h1:=arrC_at l (show j<4 by omega)
   rw [he,arrC_at l' (by omega)] at h1
   injection h1 with h1
   injection h1 with _ h1
   rw [List.getElem?_eq_getElem hj,List.getElem?_eq_getElem (by omega)]
   rw [List.getD_eq_getElem?_getD,List.getD_eq_getElem?_getD,List.getElem?_eq_getElem hj,List.getElem?_eq_getElem (show j<l'.length by omega)] at h1
   simp only [Option.getD_some] at h1
   rw [h1]
 · rw [List.getElem?_eq_none (by omega),List.getElem?_eq_none (by omega)]
theorem RegsAt.one {ix:List Nat}{p b z:Nat}{w w':World}{l:List Reg}(h:RegsAt ix w p b l)(o:OneB z w w')(hb:b≠z)(hn:¬ ownR ix w p z):RegsAt ix w' p b l:=by
 refine⟨by rw [o.size];exact h.lt,fun h'=>h.own ((ownR_same (o.block p (fun e=>hn (.inl e.symm))) b).1 h'),fun i u hu=>?_⟩
 exact (World.cell?_of_block (w:=w) (a:=⟨b,i,none⟩) (o.block b hb)).trans (h.cells i u hu)
theorem RegsAt.ne {ix:List Nat}{p b z:Nat}{w:World}{l:List Reg}{cs:Array Value}{T:TypeId}{r:Reg}(h:RegsAt ix w p b l)(hr:l[0]?=some r)(hz:w.heap[z]?=some (.cells cs T (0,0)))(hc:cs.size<7):b≠z:=fun e=>by
 obtain⟨_,_,_,_,_,_,h6⟩:=h.nth hr
 rw [e,cell_of_heap hz] at h6
 have:=(Array.getElem?_eq_some_iff.1 h6).1
 omega
theorem Held.setB {ix:List Nat}{w:World}{p z:Nat}{cs:Array Value}{t:TypeId}(h:Held ix w p z (.cells cs t (0,0)))(i:Nat)(v:Value):Held ix (w.setCell ⟨z,i,none⟩ v) p z (.cells (cs.setIfInBounds i v) t (0,0)) :=
 ⟨heap_setCell h.1 v,fun h'=>h.2 ((ownR_same ((OneB.setCell w z i v).block p (fun e=>h.2 (.inl e.symm))) z).1 h')⟩
theorem held4 {w0 w:World}{B p z:Nat}{S:TS}{a b c d:Value}{T:TypeId}(hz:HeldP w p z (.cells #[a,b,c,d] T (0,0)))(hP:Plays B w p S)(hK:KeepP B p w0 w)(hB:B<=w0.heap.size)(hz0:w0.heap.size<=z)(x0 x1 x2 x3:Value) :
  HeldP ((((w.setCell ⟨z,0,none⟩ x0).setCell ⟨z,1,none⟩ x1).setCell ⟨z,2,none⟩ x2).setCell ⟨z,3,none⟩ x3) p z (.cells #[x0,x1,x2,x3] T (0,0))/\Plays B ((((w.setCell ⟨z,0,none⟩ x0).setCell ⟨z,1,none⟩ x1).setCell ⟨z,2,none⟩ x2).setCell ⟨z,3,none⟩ x3) p S/\KeepP B p w0 ((((w.setCell ⟨z,0,none⟩ x0).setCell ⟨z,1,none⟩ x1).setCell ⟨z,2,none⟩ x2).setCell ⟨z,3,none⟩ x3) /\
   OneB z w ((((w.setCell ⟨z,0,none⟩ x0).setCell ⟨z,1,none⟩ x1).setCell ⟨z,2,none⟩ x2).setCell ⟨z,3,none⟩ x3):=by
 have h1:=hz.setB 0 x0
 have h2:=h1.setB 1 x1
 have h3:=h2.setB 2 x2
 have h4:=h3.setB 3 x3
 have o:OneB z w ((((w.setCell ⟨z,0,none⟩ x0).setCell ⟨z,1,none⟩ x1).setCell ⟨z,2,none⟩ x2).setCell ⟨z,3,none⟩ x3) :=
  ⟨rfl,rfl,rfl,by simp,fun k hk=>(heap_setCell_ne _ _ hk).trans ((heap_setCell_ne _ _ hk).trans ((heap_setCell_ne _ _ hk).trans (heap_setCell_ne _ _ hk)))⟩
 exact⟨h4,hP.one o hz.2 (by omega),hK.one o hz0 hz.2 hB,o⟩
set_option maxRecDepth 100000 in
set_option maxHeartbeats 1000000 in
theorem snread_p (B p n me:Nat)(S:TS)(rs:List Reg)(b c:Nat)(w:World)(h:Plays B w p S)(hl:RegsAt [2,3,4] w p b rs)(he:NRegs n rs)(h1:1<=n)(h4:n<=4)(hme:me<n) :
  Calls Try.prog 89 #[.pointer (some ⟨p,0,none⟩),.slice (some ⟨b,0,none⟩) n c,.int .i64 me] w (Post encC B p w ((collT n 0 []).run S)):=by
 generalize hR:Post encC B p w ((collT n 0 []).run S)=R
 have hO:Owes R encC B p w ((collT n 0 []).run S):=hR▸owes _ _ _ _ _
 clear hR
 obtain⟨b1,b2,hK,hP⟩:=h.entry2 (.cells #[.int .i64 0,.int .i64 0,.int .i64 0,.int .i64 0] 99) (.cells #[.int .i64 0,.int .i64 0,.int .i64 0,.int .i64 0] 99)
 have c_b1:=b1.cells
 have c_b2:=b2.cells
 replace hl:=hl.extL (((Ext.refl w).alloc (.cells #[.int .i64 0,.int .i64 0,.int .i64 0,.int .i64 0] 99)).alloc (.cells #[.int .i64 0,.int .i64 0,.int .i64 0,.int .i64 0] 99)) h.lt
 have hBw:=h.le
 clear h
 have heh:=Lib.hid he
 have hOh:=Lib.hid hO
 clear he hO
 go_enter Try.func89,Try.ntmps89
 go_wp2_with fail
 clear c_b1 c_b2
 have hzz:w.heap.size≠w.heap.size+1:=by omega
 generalize hz1:w.heap.size=z1 at *
 generalize hz2:z1+1=z2 at *
 have hBz:B<=z2/\w.heap.size<=z2:=by omega
 have hBw':B<=w.heap.size:=by omega
 have hz10:w.heap.size<=z1:=by omega
 clear hz1 hz2
 go_loopw [12] (fun a12 wr=>∃ (j:Nat) (acc:List Int) (S2:TS),a12=.int .i64 j/\j<=n/\acc.length=j/\Plays B wr p S2/\KeepP B p w wr/\HeldP wr p z1 (.cells #[.int .i64 0,.int .i64 0,.int .i64 0,.int .i64 0] 99)/\HeldP wr p z2 (.cells (arrC acc) 99)/\RegsAt [2,3,4] wr p b rs/\Hid (Owes R encC B p w ((collT (n-j) j acc).run S2))) (fun a12 _=>n-(intOf a12).toNat)
 case atStart=>exact⟨0,[],S,rfl,by omega,rfl,hP,hK,b1,b2,hl,hOh⟩
 case round =>
  clear hP hK b1 b2 hl hOh
  obtain⟨j,acc,S2,rfl,hj,hacc,hP,hK,b1,b2,hl,hOh⟩:=hrel
  by_cases hjn:j<n
  · have dj:decide ((j:Int)<(n:Int))=true:=by rw [decide_eq_true_eq];omega
    have hj4:(j:Int)<4:=by omega
    have hj0:(0:Int)<=(j:Int):=by omega
    have hjn':(j:Int)<(n:Int):=by omega
    replace hO:=hOh.out
    clear hOh
    rw [show n-j=(n-(j+1))+1 from by omega,collT_succ] at hO
    have hOh:=Lib.hid hO
    clear hO
    obtain⟨r,q1,q2,q3,q4,q5⟩:=heh.out.at_ j hjn
    obtain⟨a0,a1,a2,a3,a4,a5,a6⟩:=hl.nth q1
    have hq:Hid (∀ W,Plays B W p S2->Calls Try.prog 44 #[.pointer (some ⟨p,0,none⟩),.agg #[.int .i64 r.kind,.int .i64 r.base,.int .i64 r.loc,.int .i64 r.n,.int .i64 r.wr,.int .i64 r.rd,.int .i64 r.top],.int .i64 me] W (Post encI B p W ((rd (j:Int)).run S2))):=Lib.hid fun W hP=>by
     have h:=reg_read_p B p S2 r me W hP q2 ⟨by omega,by omega⟩
     rw [show regR r me=rd r.base from if_pos q3,q4] at h
     exact h
    clear q1 q2 q3 q4 q5
    go_wp2_with fail
    obtain⟨r00,hr00,_⟩:=heh.out.at_ 0 (by omega)
    have hbz:=hl.ne (z:=z2) hr00 b2.1 (by simp [arrC])
    replace b1:=b1.alloc (.cells #[.int .i64 r.kind,.int .i64 r.base,.int .i64 r.loc,.int .i64 r.n,.int .i64 r.wr,.int .i64 r.rd,.int .i64 r.top] 56) hP.lt
    replace b2:=b2.alloc (.cells #[.int .i64 r.kind,.int .i64 r.base,.int .i64 r.loc,.int .i64 r.n,.int .i64 r.wr,.int .i64 r.rd,.int .i64 r.top] 56) hP.lt
    replace hl:=hl.extL ((Ext.refl wr).alloc (.cells #[.int .i64 r.kind,.int .i64 r.base,.int .i64 r.loc,.int .i64 r.n,.int .i64 r.wr,.int .i64 r.rd,.int .i64 r.top] 56)) hP.lt
    replace hK:=hK.trans (Keep.alloc (.cells #[.int .i64 r.kind,.int .i64 r.base,.int .i64 r.loc,.int .i64 r.n,.int .i64 r.wr,.int .i64 r.rd,.int .i64 r.top] 56) hP.lt hP.le)
    replace hP:=hP.alloc (.cells #[.int .i64 r.kind,.int .i64 r.base,.int .i64 r.loc,.int .i64 r.n,.int .i64 r.wr,.int .i64 r.rd,.int .i64 r.top] 56)
    clear a0 a1 a2 a3 a4 a5 a6
    refine tstepA (notes_rd _) hOh.out hK (hq.out _ hP) (fun _ h=>⟨rfl,h⟩) ?_
    clear hOh hK hP hq
    intro v S3 wn hrun hlf hla hnn hP hk hK hO
    replace b1:=b1.keep hk
    replace b2:=b2.keep hk
    replace hl:=hl.keep hk
    clear hk hnn hrun hla hlf
    have hOh:=Lib.hid hO
    clear hO
    have c_z:wn.cell? ⟨z2,j,none⟩=some (.int .i64 (acc.getD j 0)):=(b2.cells j).trans (arrC_at acc (by omega))
    have hfz:wn.frozen? ⟨z2,j,none⟩=false:=frozen_of_heap b2.1 j
    have o:=OneB.setCell wn z2 j (.int .i64 v)
    have hP2:=hP.one o b2.2 hBz.1
    have hK2:=hK.one o hBz.2 b2.2 hBw'
    have b1':=b1.one o hzz b2.2
    have b2':HeldP (wn.setCell ⟨z2,j,none⟩ (.int .i64 v)) p z2 (.cells (arrC (acc++[v])) 99):=by
     rw [<- arrC_put (by omega) hacc v]
     exact⟨heap_setCell b2.1 _,fun h'=>b2.2 ((ownR_same (o.block p (fun e=>b2.2 (.inl e.symm))) z2).1 h')⟩
    have hl':=hl.one o hbz b2.2
    clear hP hK b1 b2 hl o hbz
    go_wp2_with fail
    refine⟨⟨j+1,acc++[v],S3,by first | rfl | go_num,by omega,by simp;omega,hP2,hK2,b1',b2',hl',hOh⟩,?_⟩
    simp [intOf];omega
  · have dj:decide ((j:Int)<(n:Int))=false:=by rw [decide_eq_false_iff_not];omega
    replace hO:=hOh.out
    clear hOh
    rw [show n-j=0 from by omega] at hO
    obtain⟨x0,x1,x2,x3,hxs⟩:∃ x0 x1 x2 x3:Int,arrC acc=#[.int .i64 x0,.int .i64 x1,.int .i64 x2,.int .i64 x3]:=⟨_,_,_,_,rfl⟩
    rw [hxs] at b2
    obtain⟨b4,hP4,hK4,_⟩:=held4 b1 hP hK hBw' hz10 (.int .i64 x0) (.int .i64 x1) (.int .i64 x2) (.int .i64 x3)
    have hf:=hO.done hP4 hK4
    unfold encC at hf
    rw [hxs] at hf
    have c_z2:=b2.cells
    have c_z1:=b1.cells
    have hfz:∀ i,wr.frozen? ⟨z1,i,none⟩=false:=fun i=>frozen_of_heap b1.1 i
    clear hO hP hK b1 b2 hl hP4 hK4 hxs
    go_wp2_with fail
    have c_b4:=b4.cells
    refine bodyPost_ret (v:=.agg #[.int .i64 x0,.int .i64 x1,.int .i64 x2,.int .i64 x3]) (by simp [results,Try.results89,go_sem,c_b4]) rfl ?_
    exact hf
end Go.Proofs.Ytbphlkaihfbgeaa
