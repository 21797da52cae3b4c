/-
  RegCostsSaid: part 0 of its proof.
-/
import Derived.Lib.ItoaNum
import Derived.Lib.BitFns
import Derived.Test.YtchahoiainbcaaaProg
import Derived.WalkKit
import Derived.WalkLawsBesides
import Derived.WalkSpells
import Derived.Lib.MinMax
import Derived.Lib.Hide
import Derived.Deep.QuietTactic
import Derived.BigQuiet
import Derived.RegionTactic
import Derived.Deep.RegionWith
import Derived.Deep.LoopGhost
import Derived.ShutString
import Derived.WalkSmall
import Derived.Lib.AppendIntMem
import Derived.OrdersHeld
import Derived.RangeFuncBox
import Derived.RangeFuncFrom
import Derived.RangeFuncNested
import Derived.Maps.AppendAt
import Derived.OneCell
import Derived.Deep.RegionLaw
import Derived.Deep.AppendLies
import Derived.Laws.AppendOwn
import Derived.OwnWalk
import Derived.WalkMore
import Derived.ScopeJumps
import Derived.Deep.RegionHeld2
import Derived.RowKit
import Derived.OwnWalkIn
import Derived.TacticsInMore
import Derived.LoopNIn
import Derived.LoopIn
import Derived.RangeFuncCalls
namespace Kv
def within (n lo hi:Int):Int:=if n<lo then lo else if hi<n then hi else n
def clamp (n top:Int):Int:=within n 0 (within top 0 1099511627776)
def room (top:Int):Int:=within top 0 1048576
def wrapI (n top:Int):Int:=n % (clamp top 1099511627776+1)
def packI (hi lo top:Int):Int:=room hi*(room top+1)+within lo 0 (room top)
def unX (x:Int):Int:=within x 0 4398046511104
def unHi (x top:Int):Int:=unX x / (room top+1)
def unLo (x top:Int):Int:=unX x % (room top+1)
theorem within_bd (n lo hi:Int)(h:lo<=hi):lo<=within n lo hi/\within n lo hi<=hi:=by unfold within;omega
theorem room_bd (top:Int):0<=room top/\room top<=1048576:=by unfold room within;omega
theorem clamp_eq (n top:Int)(h:0<=top)(h':top<=1099511627776):clamp n top=within n 0 top:=by unfold clamp within;omega
theorem clamp_word (n:Int):clamp n 1099511627776=within n 0 1099511627776:=by unfold clamp within;omega
theorem clamp_room (n:Int):clamp n 1048576=room n:=by unfold clamp room within;omega
theorem clamp_of_room (n top:Int):clamp n (room top)=within n 0 (room top):=clamp_eq _ _ (room_bd top).1 (by have:=(room_bd top).2;omega)
theorem tmod_neg_fix (n m:Int)(hm:0<m)(h:n.tmod m<0):n.tmod m+m=n % m:=by
 have h1:=Int.tmod_eq_emod (a:=n) (b:=m)
 by_cases h0:0<=n
 · have:=Int.tmod_nonneg m h0;omega
 · rw [h1]
   have hd:¬ m ∣ n:=by
    intro hd
    have:n.tmod m=0:=Int.tmod_eq_zero_of_dvd hd
    omega
   rw [if_neg (by simp [h0,hd])]
   have:=Int.natAbs_of_nonneg (Int.le_of_lt hm)
   omega
theorem tmod_pos_fix (n m:Int)(hm:0<m)(h:0<=n.tmod m):n.tmod m=n % m:=by
 have h1:=Int.tmod_eq_emod (a:=n) (b:=m)
 have h2:=Int.emod_lt_of_pos n hm
 have h3:=Int.natAbs_of_nonneg (Int.le_of_lt hm)
 rw [h1]
 rw [h1] at h
 split at h <;> rename_i h'
 · rw [if_pos h'];omega
 · omega
theorem unX_bd (x:Int):0<=unX x/\unX x<=4398046511104:=by unfold unX within;omega
end Kv
namespace Go.Proofs.Ytchahoiainbcaaa
open Go.RowKit Kv
@[go_sem high] theorem run_min_ints3 {P:Program} (w:World) (ts:Array TypeId) (t:TypeId) (k k' k'':IntKind) (x y z:Int) :
  (Builtin.min_ ts t #[.int k x,.int k' y,.int k'' z]).run P w=.ok (.int k (min (min x y) z)) w:=by
 have e:∀ a b:Int,(if b<a then b else a)=min a b:=by intro a b;rw [Int.min_def];split <;> split <;> omega
 simp [Builtin.min_,Builtin.min2,e]
theorem ret_int {k:IntKind}{a b:Int}(h:a=b):Ending.returned (.int k a)=.returned (.int k b):=by rw [h]
theorem w64 (x:Int)(h:-9223372036854775808<=x)(h':x<=9223372036854775807):wrap64 x=x:=by unfold wrap64;omega
def Drew (w w':World):Prop:=∃ n,w'=w.drewN n
theorem Drew.mk' (w:World)(n:Nat):Drew w (w.drewN n):=⟨n,rfl⟩
theorem Drew.trans {a b c:World}(h:Drew a b)(k:Drew b c):Drew a c:=by
 obtain⟨n,rfl⟩:=h
 obtain⟨m,rfl⟩:=k
 exact⟨n+m,by simp⟩
theorem Drew.below {w w':World}(B:Nat)(h:Drew w w'):Below B w w':=by
 obtain⟨n,rfl⟩:=h
 exact⟨rfl,rfl,rfl,Nat.le_refl _,fun _ _=>rfl⟩
def Ext (w w':World):Prop:=Below w.heap.size w w'
theorem Ext.refl (w:World):Ext w w:=Below.refl _ _
theorem Ext.size {w w':World}(h:Ext w w'):w.heap.size<=w'.heap.size:=Below.size h
theorem Ext.trans {a b c:World}(h:Ext a b)(k:Ext b c):Ext a c:=Below.trans h (Below.mono k (Ext.size h))
theorem Ext.drewN {a b:World}(h:Ext a b)(n:Nat):Ext a (b.drewN n):=Below.trans h ⟨rfl,rfl,rfl,Nat.le_refl _,fun _ _=>rfl⟩
theorem Ext.drew {a b:World}(h:Ext a b):Ext a b.drew:=Below.drew h
theorem Ext.alloc {a b:World}(h:Ext a b)(o:Obj):Ext a (b.alloc o):=Below.alloc h (Ext.size h) o
theorem Ext.setCell {a b:World}(h:Ext a b){p:Addr}(hp:a.heap.size<=p.block)(u:Value):Ext a (b.setCell p u):=Below.setCell h hp u
theorem Drew.ext {w w':World}(h:Drew w w'):Ext w w':=Drew.below _ h
theorem Ext.cell {w w':World}(h:Ext w w'){p:Addr}(hp:p.block<w.heap.size):w'.cell? p=w.cell? p:=Below.cell h hp
end Go.Proofs.Ytchahoiainbcaaa
namespace Go.Proofs.Ytchahoiainbcaaa
open Go.RowKit
theorem tk {P:Program}{ops:Array Oper}{Q:Exit->Act->World->Prop}{md:Region.Mode}{S:World->Prop}(i:Nat){oi:Oper}{v:Value}{fuel:Nat}{listed:Array Bool}{a:Act}{w:World}(hi:ops[i]?=some oi)
  (hc:(Region.noSelect ops&&Region.free md ops listed i&&(Region.ready md ops listed).contains i&&Region.wanted oi (yielded ops a.tmps))=true)
  (hQ:∀ c a w,Q (.panic c) (a.put oi.dst v) w->Q (.panic c) a w)(hS:S w)(hy:∀ w,S w->(execOp a.eval oi).run P w=.ok (.value v) w)
  (h:wpAnyH P md ops Q S fuel (listed.setIfInBounds i true) (a.put oi.dst v) w):wpAnyH P md ops Q S (fuel+1) listed a w:=by
 simp only [Bool.and_eq_true] at hc
 exact wpAnyH_take hi hc.1.1.1 hc.1.1.2 hc.1.2 hQ (Or.inl ⟨hc.2,hy⟩) hS h
def AnyN (_:Nat) (p:Prop):Prop:=p
theorem tkb {p:Prop}(i:Nat)(h:AnyN i p):p:=h
theorem tke {p:Prop}{i:Nat}(h:p):AnyN i p:=h
theorem tkn {P:Program}{ops:Array Oper}{Q:Exit->Act->World->Prop}{md:Region.Mode}{S:World->Prop}{i:Nat}{oi:Oper}{v:Value}{fuel:Nat}{listed:Array Bool}{a:Act}{w:World}(hi:ops[i]?=some oi)
  (hc:(Region.noSelect ops&&Region.free md ops listed i&&(Region.ready md ops listed).contains i&&Region.wanted oi (yielded ops a.tmps))=true)
  (hQ:∀ c a w,Q (.panic c) (a.put oi.dst v) w->Q (.panic c) a w)(hS:S w)(hy:∀ w,S w->(execOp a.eval oi).run P w=.ok (.value v) w)
  (h:AnyN (i+1) (wpAnyH P md ops Q S fuel (listed.setIfInBounds i true) (a.put oi.dst v) w)):AnyN i (wpAnyH P md ops Q S (fuel+1) listed a w):=tk i hi hc hQ hS hy h
theorem sk {P:Program}{ops:Array Oper}{Q:Exit->Act->World->Prop}{md:Region.Mode}{S:World->Prop}(i:Nat){oi:Oper}{fuel:Nat}{listed:Array Bool}{a:Act}{w:World}(hi:ops[i]?=some oi)
  (hc:(Region.noSelect ops&&Region.free md ops listed i&&(Region.ready md ops listed).contains i&&!Region.wanted oi (yielded ops a.tmps))=true)
  (hQ:∀ c a w,Q (.panic c) (a.put oi.dst undef) w->Q (.panic c) a w)(hS:S w)
  (h:wpAnyH P md ops Q S fuel (listed.setIfInBounds i true) (a.put oi.dst undef) w):wpAnyH P md ops Q S (fuel+1) listed a w:=by
 simp only [Bool.and_eq_true,Bool.not_eq_true'] at hc
 exact wpAnyH_take hi hc.1.1.1 hc.1.1.2 hc.1.2 hQ (Or.inr ⟨hc.2,rfl⟩) hS h
end Go.Proofs.Ytchahoiainbcaaa
namespace Go.Proofs.Ytchahoiainbcaaa
theorem put_pack:(∀ (a:Act) (d:Nat) (v:Value),a.put (some d) v={ a with tmps:=a.tmps.setIfInBounds d v })/\(∀ (a:Act) (v:Value),a.put none v=a)/\(∀ (l:List Value) (i:Nat) (v:Value),l.toArray.setIfInBounds i v=(l.set i v).toArray) /\
  (∀ (l:List Value) (x v:Value),(x :: l).set 0 v=v :: l)/\(∀ (l:List Value) (i:Nat) (x v:Value),(x :: l).set (i+1) v=x :: l.set i v) :=
 ⟨fun _ _ _=>rfl,fun _ _=>rfl,fun _ _ _=>List.setIfInBounds_toArray ..,fun _ _ _=>rfl,fun _ _ _ _=>rfl⟩
end Go.Proofs.Ytchahoiainbcaaa
namespace Go.Proofs.Ytchahoiainbcaaa
open Go.RowKit
def WpF (P:Program) (f:FuncId) (c:Code) (Q:Exit->Act->World->Prop) (a:Act) (w:World):Prop :=
 ∀ (b:Frame) (k:List Item) (cs:List Frame),b.roundOf=none->b.fn=f ->
  ∃ e a' w',Q e a' w'/\ArrivesIn (Machine.fenced P Fence.wide) P (lone (b.atR a (.code c :: k)) cs w) b k cs e a' w'
section
variable {P:Program} {f:FuncId} {Q:Exit->Act->World->Prop} {a:Act} {w:World}
theorem wpF_of_wp {c:Code}(h:c.wp P Q a w):WpF P f c Q a w:=fun b k cs hro _=>(wpIn_wide (n:=0)).2 h b k cs hro trivial (room_wide _)
theorem wpF_seq {x y:Code}(h:WpF P f x (Exit.then (fun a' w'=>WpF P f y Q a' w') Q) a w):WpF P f (Code.seq x y) Q a w:=by
 intro b k cs hro hb
 have h0:(lone (b.atR a (.code (.seq x y) :: k)) cs w).fenced P Fence.wide:=fenced_wide _ _
 obtain⟨e,a₁,w₁,hq,harr⟩:=h b (.code y :: k) cs hro hb
 cases e with
 | normal =>
   obtain⟨e₂,a₂,w₂,hq₂,harr₂⟩:=hq b k cs hro hb
   exact⟨e₂,a₂,w₂,hq₂,.of_steps (.head h0 stepR_seq harr) harr₂⟩
 | exit id=>exact⟨_,a₁,w₁,hq,.of_steps (.one h0 stepR_seq) (.pass (x:=.code y) rfl (fun _ _=>.inl (by simp)) harr)⟩
 | goto l=>exact⟨_,a₁,w₁,hq,.of_steps (.one h0 stepR_seq) (.pass (x:=.code y) rfl (fun _ _=>.inl (by simp)) harr)⟩
 | ret=>exact⟨_,a₁,w₁,hq,.of_steps (.one h0 stepR_seq) (.pass (x:=.code y) rfl (fun _ _=>.inl (by simp)) harr)⟩
 | panic ch=>exact⟨_,a₁,w₁,hq,.of_steps (.one h0 stepR_seq) (.pass (x:=.code y) rfl (fun _ _=>.inl (by simp)) harr)⟩
 | outgrown=>exact⟨_,a₁,w₁,hq,.of_steps (.one h0 stepR_seq) (.pass (x:=.code y) rfl (fun _ _=>.inl (by simp)) harr)⟩
theorem wpF_step {x y:Code}(h:∀ K:Act->World->Prop,(∀ a' w',WpF P f y Q a' w'->K a' w')->x.wp P (Exit.then K Q) a w):WpF P f (Code.seq x y) Q a w :=
 wpF_seq (wpF_of_wp (h _ fun _ _ h=>h))
theorem calls_of_wpF {fn:Func}{c:Code}{args:Array Value}{R:Ending->World->Prop}(hf:P.funcs[f]?=some fn)(hb:fn.body=some c)
  (h:WpF P f c (bodyPostM Fence.wide 0 P fn R) { tmps:=args++Array.replicate (fn.ntmps-args.size) undef,defers:=[] } w):Calls P f args w R:=by
 refine (callsIn_wide (n:=0)).1 ⟨trivial,fun cs hr=>?_⟩
 let b:Frame:={ (default:Frame) with fn:=f,kind:=.normal,roundOf:=none }
 have henter:Frame.enter P f args .normal =
   b.atR { tmps:=args++Array.replicate (fn.ntmps-args.size) undef,defers:=[] } [.code c]:=by
  simp [Frame.enter,Frame.atR,hf,hb,b]
 obtain⟨e,a',w',hq,harr⟩:=h b [] cs rfl rfl
 rw [<- henter] at harr
 have hF:Fence.wide.fn f:=trivial
 cases e with
 | normal =>
   obtain⟨e',w'',fr',hR,hs,hfn,hl⟩:=leaves_stepsInM a'.defers .returning w' { b.atR a' [] with mode:=.returning } cs rfl rfl rfl hf rfl hF hr hq
   exact⟨e',w'',fr',hR,ComesIn.of_steps (StepsIn.trans harr (.one (fenced_wide _ _) (stepR_end rfl))) hs,hfn,hl⟩
 | ret =>
   obtain⟨todo,hs₀⟩:=harr.1 rfl
   obtain⟨e',w'',fr',hR,hs,hfn,hl⟩:=leaves_stepsInM a'.defers .returning w' { b.atR a' todo with mode:=.returning } cs rfl rfl rfl hf rfl hF hr hq
   exact⟨e',w'',fr',hR,ComesIn.of_steps hs₀ hs,hfn,hl⟩
 | panic chain =>
   obtain⟨todo,hs₀⟩:=harr
   obtain⟨e',w'',fr',hR,hs,hfn,hl⟩:=leaves_stepsInM a'.defers (.panicking chain) w' { b.atR a' todo with mode:=.panicking chain } cs rfl rfl rfl hf rfl hF hr hq
   exact⟨e',w'',fr',hR,ComesIn.of_steps hs₀ hs,hfn,hl⟩
 | exit id=>exact hq.elim
 | goto l=>exact hq.elim
 | outgrown=>exact⟨.outgrown,w',b,hq,harr.resolve_left (by simp [b]),rfl,trivial⟩
def roundPostP (P:Program) (l:Nat) (R:Ending->World->Prop):Exit->Act->World->Prop
 | .normal,_,w=>∃ v w',(Instr.endRound l none).run P w=.ok v w'/\R (.returned v) w'
 | .panic ch,a,w=>a.defers=[]/\R (.panicked ch) w
 | _,_,_=>False
theorem roundIn_p {l:Nat}{fn:Func}{tmps:Array Value}{assign body:Code}{R:Ending->World->Prop}(hf:P.funcs[f]?=some fn)
  (h:assign.wpIn (Fence.wide.inRound l) 0 P (Exit.then (fun a₁ w₁=>∃ w₂,(Instr.beginRound l).run P w₁=.ok () w₂/\body.wpIn (Fence.wide.inRound l) 0 P (roundPostP P l R) a₁ w₂) (fun _ _ _=>False))
    { tmps:=tmps,defers:=[] } w) :
  RoundIn Fence.wide 0 P l f tmps assign body w R:=by
 refine⟨trivial,fun c cs hr=>?_⟩
 let b:Frame:={ (default:Frame) with fn:=f,kind:=.normal,roundOf:=some l }
 have hb0:Frame.round l f tmps assign body .normal=b.atR { tmps:=tmps,defers:=[] } [.code assign,.beginRound,.code body]:=by
  simp [Frame.round,Frame.atR,b]
 have hF':(Fence.wide.inRound l).fn b.fn:=trivial
 obtain⟨e,a₁,w₁,hq,harr⟩:=h b [.beginRound,.code body] (c :: cs) rfl hF' hr
 rw [<- hb0] at harr
 cases e with
 | normal =>
   obtain⟨w₂,hbr,hbody⟩:=hq
   have s1:StepsIn (Machine.fenced P (Fence.wide.inRound l)) P (lone (b.atR a₁ [.beginRound,.code body]) (c :: cs) w₁) (lone (b.atR a₁ [.code body]) (c :: cs) w₂) :=
    .one (fenced_wide _ _) (stepR_beginRound rfl hbr)
   obtain⟨e₂,a₂,w₃,hq₂,harr₂⟩:=hbody b [] (c :: cs) rfl hF' hr
   cases e₂ with
   | normal =>
     obtain⟨v,w₄,hend,hR⟩:=hq₂
     exact⟨.returned v,w₄,hR,(StepsIn.trans harr s1).trans (StepsIn.trans harr₂ (.one (fenced_wide _ _) (stepR_round_end rfl rfl hend)))⟩
   | panic chain =>
     obtain⟨hd,hR⟩:=hq₂
     obtain⟨todo,hs⟩:=harr₂
     exact⟨.panicked chain,w₃,hR,(StepsIn.trans harr s1).trans (StepsIn.trans hs (.one (fenced_wide _ _) (step_leave_panicked ⟨rfl,hd,fn,hf⟩)))⟩
   | ret=>exact hq₂.elim
   | exit id=>exact hq₂.elim
   | goto t=>exact hq₂.elim
   | outgrown=>exact hq₂.elim
 | exit id=>exact hq.elim
 | goto t=>exact hq.elim
 | ret=>exact hq.elim
 | panic chain=>exact hq.elim
 | outgrown=>exact hq.elim
def rangePostF (P:Program) (l:Nat) (Q:Exit->Act->World->Prop) (a':Act):Ending->World->Prop
 | .returned _,w₃=>∃ w₄,(Instr.endLoop l).run P w₃=.ok none w₄/\Q .normal a' w₄
 | .panicked chain,w₃=>Q (.panic chain) a' w₃
 | .outgrown,_=>LetsOut Q
theorem wpF_range {g:Operand}{ps:Array Tmp}{assign body:Code}
  (h:∃ (l:Nat) (mark:List Deferred) (w₁:World) (d:Deferred) (w₁':World) (f':FuncId) (args:Array Value) (w₂:World),
    (Instr.enterLoop f a.tmps ps assign body none).run P w=.ok (l,mark) w₁ /\
    (resolve a.eval (rangeCall g l) 0).run P w₁=.ok d w₁' /\
    (invoke d.target d.args).run P w₁'=.ok (.enter f' args) w₂ /\
    CallsIn Fence.wide 0 P f' args w₂ (rangePostF P l Q { a with defers:=mark++a.defers })) :
  WpF P f (Code.rangeFunc g ps assign body) Q a w:=by
 intro b k cs hro hb
 obtain⟨l,mark,w₁,d,w₁',f',args,w₂,he,hres,hinv,hF,hcall⟩:=h
 rw [<- hro,<- hb] at he
 have henter:=stepR_rangeFunc (P:=P) (b:=b) (a:=a) (k:=k) (cs:=cs) (w:=w) he hres hinv
 obtain⟨e,w₃,fr,hR,hsteps,hfn,hleave⟩:=hcall (b.atR { a with defers:=mark++a.defers } (.inRangeFunc l :: k) :: cs) (room_wide _)
 cases e with
 | outgrown =>
   obtain⟨a₀,w₀,hq⟩:=hR
   exact⟨.outgrown,a₀,w₀,hq,.inr (Outgrown.of_steps (.one henter) hsteps)⟩
 | returned v =>
   obtain⟨w₄,hend,hj⟩:=hR
   refine⟨.normal,_,w₄,hj,.head (fenced_wide _ _) henter (StepsIn.trans hsteps (.head (fenced_wide _ _) ?_ (.one (fenced_wide _ _) (stepR_endRangeFunc hend))))⟩
   rw [<- finish_atR_inRangeFunc l v];exact step_leave_returned hleave
 | panicked chain =>
   refine⟨.panic chain,_,w₃,hR,.inRangeFunc l :: k,.head (fenced_wide _ _) henter (StepsIn.trans hsteps (.one (fenced_wide _ _) ?_))⟩
   rw [<- Frame.raise_atR];exact step_leave_panicked hleave
end
end Go.Proofs.Ytchahoiainbcaaa
namespace Kv
structure Acc where
 kind:Int
 cell:Int
 val:Int
structure Nt where
 kind:Int
 pos:Int
structure TS where
 ans:List Int
 acc:List Acc
 nts:List Nt
 loc:Nat->Int
inductive Prog (α:Type):Type where
 | ret (a:α):Prog α
 | read (c:Int) (k:Int->Prog α):Prog α
 | write (c v:Int) (k:Unit->Prog α):Prog α
 | get (i:Int) (k:Int->Prog α):Prog α
 | set (i v:Int) (k:Unit->Prog α):Prog α
 | note (n:Int) (k:Unit->Prog α):Prog α
namespace Prog
def bind {α β:Type}:Prog α->(α->Prog β)->Prog β
 | ret a,f=>f a
 | read c k,f=>read c fun x=>(k x).bind f
 | write c v k,f=>write c v fun x=>(k x).bind f
 | get i k,f=>get i fun x=>(k x).bind f
 | set i v k,f=>set i v fun x=>(k x).bind f
 | note n k,f=>note n fun x=>(k x).bind f
theorem bind_id {α:Type}:∀ p:Prog α,p.bind ret=p
 | ret _=>rfl
 | read c k=>by simp only [bind];congr 1;funext x;exact bind_id (k x)
 | write c v k=>by simp only [bind];congr 1;funext x;exact bind_id (k x)
 | get c k=>by simp only [bind];congr 1;funext x;exact bind_id (k x)
 | set c v k=>by simp only [bind];congr 1;funext x;exact bind_id (k x)
 | note c k=>by simp only [bind];congr 1;funext x;exact bind_id (k x)
theorem bind_assoc {α β γ:Type}(f:α->Prog β)(g:β->Prog γ):∀ p:Prog α,(p.bind f).bind g=p.bind fun x=>(f x).bind g
 | ret _=>rfl
 | read c k=>by simp only [bind];congr 1;funext x;exact bind_assoc f g (k x)
 | write c v k=>by simp only [bind];congr 1;funext x;exact bind_assoc f g (k x)
 | get c k=>by simp only [bind];congr 1;funext x;exact bind_assoc f g (k x)
 | set c v k=>by simp only [bind];congr 1;funext x;exact bind_assoc f g (k x)
 | note c k=>by simp only [bind];congr 1;funext x;exact bind_assoc f g (k x)
end Prog
def rd (c:Int):Prog Int:=.read c .ret
def wr (c v:Int):Prog Unit:=.write c v .ret
def gt (i:Int):Prog Int:=.get i .ret
def st (i v:Int):Prog Unit:=.set i v .ret
def TS.put (S:TS) (a:Acc):TS:={ S with acc:=S.acc++[a] }
def TS.noted (S:TS) (n:Int):TS:={ S with nts:=S.nts++[⟨n,(S.acc.length:Int)⟩] }
def TS.next (S:TS):Option Int:=S.ans[S.acc.length]?
def TS.got (S:TS) (i:Int):Int:=if i<0 then 0 else S.loc i.toNat
def TS.upd (S:TS) (i v:Int):TS :=
 if 0<=i/\i<32768 then { S with loc:=fun j=>if j=i.toNat then v else S.loc j } else S
def Prog.run {α:Type}:Prog α->TS->Option α × TS
 | .ret a,S=>(some a,S)
 | .read c k,S=>match S.next with
   | some v=>(k v).run (S.put ⟨1,c,0⟩)
   | none=>(none,S.put ⟨1,c,0⟩)
 | .write c v k,S=>match S.next with
   | some _=>(k ()).run (S.put ⟨2,c,v⟩)
   | none=>(none,S.put ⟨2,c,v⟩)
 | .get i k,S=>(k (S.got i)).run S
 | .set i v k,S=>(k ()).run (S.upd i v)
 | .note n k,S=>(k ()).run (S.noted n)
def thenR {α β:Type} (r:Option α × TS) (f:α->Prog β):Option β × TS :=
 match r with
 | (some a,S1)=>(f a).run S1
 | (none,S1)=>(none,S1)
theorem Prog.run_bind {α β:Type}(f:α->Prog β):∀ (p:Prog α) (S:TS),(p.bind f).run S=thenR (p.run S) f
 | .ret a,S=>rfl
 | .read c k,S=>by
   simp only [Prog.bind,Prog.run]
   cases S.next with
   | none=>rfl
   | some v=>exact run_bind f (k v) _
 | .write c v k,S=>by
   simp only [Prog.bind,Prog.run]
   cases S.next with
   | none=>rfl
   | some _=>exact run_bind f (k ()) _
 | .get i k,S=>run_bind f (k _) _
 | .set i v k,S=>run_bind f (k ()) _
 | .note n k,S=>run_bind f (k ()) _
theorem Prog.run_bind_some {α β:Type}{p:Prog α}{f:α->Prog β}{S S1:TS}{a:α}(h:p.run S=(some a,S1)):(p.bind f).run S=(f a).run S1:=by
 rw [run_bind,h];rfl
theorem Prog.run_bind_none {α β:Type}{p:Prog α}{f:α->Prog β}{S S1:TS}(h:p.run S=(none,S1)):(p.bind f).run S=(none,S1):=by
 rw [run_bind,h];rfl
theorem TS.upd_ans (S:TS)(i v:Int):(S.upd i v).ans=S.ans:=by unfold TS.upd;split <;> rfl
theorem TS.upd_acc (S:TS)(i v:Int):(S.upd i v).acc=S.acc:=by unfold TS.upd;split <;> rfl
theorem TS.upd_nts (S:TS)(i v:Int):(S.upd i v).nts=S.nts:=by unfold TS.upd;split <;> rfl
theorem Prog.run_ans {α:Type}:∀ (p:Prog α) (S:TS),(p.run S).2.ans=S.ans
 | .ret a,S=>rfl
 | .read c k,S=>by
   simp only [Prog.run]
   cases S.next with
   | none=>rfl
   | some v=>exact run_ans (k v) _
 | .write c v k,S=>by
   simp only [Prog.run]
   cases S.next with
   | none=>rfl
   | some _=>exact run_ans (k ()) _
 | .get i k,S=>run_ans (k _) _
 | .set i v k,S=>(run_ans (k ()) _).trans (TS.upd_ans S i v)
 | .note n k,S=>run_ans (k ()) _
theorem Prog.run_acc {α:Type}:∀ (p:Prog α) (S:TS),∃ l,(p.run S).2.acc=S.acc++l
 | .ret a,S=>⟨[],by simp [Prog.run]⟩
 | .read c k,S=>by
   simp only [Prog.run]
   cases S.next with
   | none=>exact⟨_,rfl⟩
   | some v =>
     obtain⟨l,h⟩:=run_acc (k v) (S.put ⟨1,c,0⟩)
     exact⟨⟨1,c,0⟩ :: l,by rw [h];simp [TS.put]⟩
 | .write c v k,S=>by
   simp only [Prog.run]
   cases S.next with
   | none=>exact⟨_,rfl⟩
   | some _ =>
     obtain⟨l,h⟩:=run_acc (k ()) (S.put ⟨2,c,v⟩)
     exact⟨⟨2,c,v⟩ :: l,by rw [h];simp [TS.put]⟩
 | .get i k,S=>run_acc (k _) _
 | .set i v k,S=>by
   obtain⟨l,h⟩:=run_acc (k ()) (S.upd i v)
   exact⟨l,by rw [<- TS.upd_acc S i v];exact h⟩
 | .note n k,S=>run_acc (k ()) (S.noted n)
inductive Prog.Notes {α:Type}:Prog α->Nat->Prop
 | ret (a:α) (n:Nat):Notes (.ret a) n
 | read (c:Int) {k:Int->Prog α} {n:Nat}:(∀ x,Notes (k x) n)->Notes (.read c k) n
 | write (c v:Int) {k:Unit->Prog α} {n:Nat}:Notes (k ()) n->Notes (.write c v k) n
 | get (i:Int) {k:Int->Prog α} {n:Nat}:(∀ x,Notes (k x) n)->Notes (.get i k) n
 | set (i v:Int) {k:Unit->Prog α} {n:Nat}:Notes (k ()) n->Notes (.set i v k) n
 | note (m:Int) {k:Unit->Prog α} {n:Nat}:Notes (k ()) n->Notes (.note m k) (n+1)
theorem Prog.Notes.mono {α:Type}{p:Prog α}{n:Nat}(h:p.Notes n):∀ {m},n<=m->p.Notes m:=by
 induction h with
 | ret a n=>intro m _;exact .ret a m
 | read c _ ih=>intro m hm;exact .read c fun x=>ih x hm
 | write c v _ ih=>intro m hm;exact .write c v (ih hm)
 | get c _ ih=>intro m hm;exact .get c fun x=>ih x hm
 | set c v _ ih=>intro m hm;exact .set c v (ih hm)
 | note k _ ih =>
   intro m hm
   cases m with
   | zero=>omega
   | succ m=>exact .note k (ih (by omega))
theorem Prog.Notes.bind {α β:Type}{p:Prog α}{f:α->Prog β}{n m:Nat}(h:p.Notes n)(hf:∀ a,(f a).Notes m):(p.bind f).Notes (n+m):=by
 induction h with
 | ret a n=>exact (hf a).mono (by omega)
 | read c _ ih=>exact .read c fun x=>ih x
 | write c v _ ih=>exact .write c v ih
 | get c _ ih=>exact .get c fun x=>ih x
 | set c v _ ih=>exact .set c v ih
 | @note k _ n _ ih=>rw [show n+1+m=(n+m)+1 from by omega];exact .note k ih
theorem Prog.Notes.run {α:Type}{p:Prog α}{n:Nat}(h:p.Notes n):∀ S:TS,(p.run S).2.nts.length<=S.nts.length+n:=by
 induction h with
 | ret a n=>intro S;simp [Prog.run]
 | read c _ ih =>
   intro S
   simp only [Prog.run]
   cases S.next with
   | none=>simp [TS.put]
   | some v=>exact ih v _
 | write c v _ ih =>
   intro S
   simp only [Prog.run]
   cases S.next with
   | none=>simp [TS.put]
   | some _=>exact ih _
 | get i _ ih=>intro S;exact ih _ _
 | set i v _ ih=>intro S;have:=ih (S.upd i v);rw [TS.upd_nts] at this;exact this
 | note k _ ih =>
   intro S
   have h1:=ih (S.noted k)
   have h2:(S.noted k).nts.length=S.nts.length+1:=by simp [TS.noted]
   simp only [Prog.run]
   omega
inductive Ref {α:Type} (p:Prog α):Bool->TS->α->Bool->TS->Prop
 | over (S:TS) (a:α):Ref p true S a true S
 | done {S S1:TS} {a:α}:p.run S=(some a,S1)->Ref p false S a false S1
 | stop {S S1:TS} (a:α):p.run S=(none,S1)->Ref p false S a true S1
theorem Ref.bind {α β:Type}{p:Prog α}{f:α->Prog β}{o o1 o2:Bool}{S S1 S2:TS}{a:α}{b:β}
  (h:Ref p o S a o1 S1)(k:Ref (f a) o1 S1 b o2 S2):Ref (p.bind f) o S b o2 S2:=by
 cases h with
 | over=>cases k;exact .over _ _
 | done h =>
   cases k with
   | done k=>exact .done ((Prog.run_bind_some h).trans k)
   | stop _ k=>exact .stop _ ((Prog.run_bind_some h).trans k)
 | stop _ h=>cases k;exact .stop _ (Prog.run_bind_none h)
theorem Ref.ret {α:Type}(a:α)(o:Bool)(S:TS):Ref (.ret a) o S a o S:=by
 cases o with
 | true=>exact .over _ _
 | false=>exact .done rfl
theorem Ref.any {α β:Type}{p:Prog α}{S S':TS}{a:α}{o:Bool}(h:Ref p true S a o S')(q:Prog β)(b:β):Ref q true S b o S':=by
 cases h;exact .over _ _
end Kv
namespace Go.Proofs.Ytchahoiainbcaaa
open Go.RowKit Kv
def Ints (w:World) (v:Value) (l:List Int):Prop :=
 ∃ A c,v=.slice A l.length c/\l.length<=c/\c<=9223372036854775807/\(l≠[]->∃ b off,A=some ⟨b,off,none⟩/\b<w.heap.size/\∀ i x,l[i]?=some x->w.cell? ⟨b,off+i,none⟩=some (.int .i64 x))
theorem Ints.ext {w w':World}{v:Value}{l:List Int}(h:Ints w v l)(hx:Ext w w'):Ints w' v l:=by
 obtain⟨A,c,rfl,h1,h2,h3⟩:=h
 refine⟨A,c,rfl,h1,h2,fun hl=>?_⟩
 obtain⟨b,off,rfl,hb,hc⟩:=h3 hl
 exact⟨b,off,rfl,Nat.lt_of_lt_of_le hb (Ext.size hx),fun i x hi=>(Ext.cell hx (p:=⟨b,off+i,none⟩) hb).trans (hc i x hi)⟩
theorem Ints.nil (w:World):Ints w (.slice none 0 0) []:=⟨none,0,rfl,by simp,by omega,fun h=>absurd rfl h⟩
theorem Ints.at_ {w:World}{A:Option Addr}{n c:Nat}{l:List Int}(h:Ints w (.slice A n c) l){i:Nat}(hi:i<n) :
  ∃ b off,A=some ⟨b,off,none⟩/\b<w.heap.size/\w.cell? ⟨b,off+i,none⟩=some (.int .i64 (l.getD i 0)):=by
 obtain⟨A',c',he,h1,h2,h3⟩:=h
 injection he with e1 e2 e3
 subst e1 e2 e3
 have hl:l≠[]:=by rintro rfl;simp at hi
 obtain⟨b,off,rfl,hb,hc⟩:=h3 hl
 refine⟨b,off,rfl,hb,?_⟩
 have:l[i]?=some (l.getD i 0):=by simp [List.getD,List.getElem?_eq_getElem hi]
 exact hc i _ this
theorem Ints.slice {w:World}{v:Value}{l:List Int}(h:Ints w v l):∃ A c,v=.slice A l.length c/\l.length<=c/\c<=9223372036854775807:=by
 obtain⟨A,c,rfl,h1,h2,_⟩:=h
 exact⟨A,c,rfl,h1,h2⟩
def IntRow (w:World) (base:Nat) (v:Value) (l:List Int):Prop:=w.ownsRow base 3 1 v l.length (l.map (Value.int .i64))
theorem IntRow.nil (w:World)(base:Nat):IntRow w base (.slice none 0 0) []:=World.ownsRow_nil _ _ _ _
theorem IntRow.ints {w:World}{base:Nat}{v:Value}{l:List Int}(h:IntRow w base v l):Ints w v l:=by
 have h':=h
 obtain⟨hl,h2⟩:=h
 rcases h2 with⟨rfl,h0⟩ | ⟨g,cap,cur,rfl,hg,hh,hn,hm,hs,ht⟩
 · obtain rfl:l=[]:=List.eq_nil_of_length_eq_zero h0
   exact Ints.nil w
 · refine⟨_,_,rfl,hn,by unfold maxLen at hm;exact hm,fun _=>⟨g,0,rfl,?_,fun i x hi=>?_⟩⟩
   · rcases Nat.lt_or_ge g w.heap.size with hlt | hge
     · exact hlt
     · rw [Array.getElem?_eq_none hge] at hh;cases hh
   · have hc:=World.ownsRow.cells h' (g:=g) rfl i (.int .i64 x) (by rw [List.getElem?_map,hi];rfl)
     rw [Addr.add_lit] at hc
     exact hc
theorem info_int:(Try.prog.info? 3).map (fun i=>(i.zero,i.size,i.bytes))=some (some (.int .i64 0),1,8):=by kernel_rfl
theorem append_int {ops:Array Oper}{rest:List Oper}{o:Oper}{a:Act}{Q:Exit->Act->World->Prop}{w:World}(hgd:o.guard=none)(s x:Operand)
  (ho:o.op=.call { callee:=.builtin .append,args:=#[s,x],argTypes:=#[24,24] })
  (base:Nat)(v:Value)(l:List Int)(y:Int)(hown:IntRow w base v l)(hs:a.eval s=v)(hx:a.eval x=.slice (some ⟨w.heap.size,0,none⟩) 1 1)
  (hlen:l.length<1000000000000)(hbase:base<=w.heap.size)
  (h:∀ v' w',IntRow w' base v' (l++[y])->(w.alloc (.cells #[.int .i64 y] 3)).grownBy w' v.ownBlock->wpList Try.prog ops Q rest (a.put o.dst v') w') :
  wpList Try.prog ops Q (o :: rest) a (w.alloc (.cells #[.int .i64 y] 3)):=by
 obtain⟨i0,hi,hz0,hz1,hz2⟩:=info_parts info_int
 refine wpList_append_own _ hgd s x 24 ho base 3 i0 (.int .i64 0) 1 8 Try.underlying24 hi hz0 hz1 hz2 rfl (by decide) v l.length _ hs (World.ownsRow.alloc hown _) ⟨w.heap.size,0,none⟩ 1 1 [.int .i64 y] hx rfl (cell_one_new _ _ _) (by simp [Value.oneCell']) (by unfold maxLen;omega) (by omega) (by simp;omega) fun v' w' h1 h2 _=>?_
 refine h v' w' ?_ h2
 unfold IntRow
 rw [List.length_append,List.map_append]
 exact h1
theorem Ext.appended {w wr w':World}{v:Value}{l:List Int}{o:Obj}(h:Ext w wr)(hown:IntRow wr w.heap.size v l)(hg:(wr.alloc o).grownBy w' v.ownBlock):Ext w w':=by
 refine Below.grown (Below.alloc h h.size o) hg (by have:=h.size;simp;omega) fun k hk=>?_
 obtain⟨_,h2⟩:=hown
 rcases h2 with⟨rfl,_⟩ | ⟨g,cap,cur,rfl,hgb,_⟩
 · simp [Value.ownBlock] at hk
 · simp [Value.ownBlock] at hk
   omega
theorem cell_of_heap {w:World}{b:Nat}{cs:Array Value}{t:TypeId}{fz:Nat × Nat}(h:w.heap[b]?=some (.cells cs t fz))(i:Nat):w.cell? ⟨b,i,none⟩=cs[i]?:=by
 simp [World.cell?,h]
def ownR (ix:List Nat) (w:World) (p b:Nat):Prop:=b=p∨∃ i∈ix,∃ v,w.cell? ⟨p,i,none⟩=some v/\v.ownBlock=some b
theorem ownR_same {ix:List Nat}{w w':World}{p:Nat}(h:w'.heap[p]?=w.heap[p]?)(b:Nat):ownR ix w' p b↔ownR ix w p b:=by
 unfold ownR
 have e:∀ i,w'.cell? ⟨p,i,none⟩=w.cell? ⟨p,i,none⟩:=fun i=>World.cell?_of_block (w:=w) (a:=⟨p,i,none⟩) h
 simp only [e]
structure Keep (ix:List Nat) (B p:Nat) (w w':World):Prop where
 below:Below B w w'
 rest:∀ b,b<w.heap.size->¬ ownR ix w p b->w'.heap[b]?=w.heap[b]?/\¬ ownR ix w' p b
section
variable {ix:List Nat} {B p:Nat} {w w' w'':World}
theorem Keep.refl (ix:List Nat)(B p:Nat)(w:World):Keep ix B p w w:=⟨Below.refl _ _,fun _ _ h=>⟨rfl,h⟩⟩
theorem Keep.size (h:Keep ix B p w w'):w.heap.size<=w'.heap.size:=h.below.size
theorem Keep.trans (h:Keep ix B p w w')(k:Keep ix B p w' w''):Keep ix B p w w'' :=
 ⟨h.below.trans k.below,fun b hb ho=>by
  obtain⟨h1,h2⟩:=h.rest b hb ho
  obtain⟨h3,h4⟩:=k.rest b (Nat.lt_of_lt_of_le hb h.size) h2
  exact⟨h3.trans h1,h4⟩⟩
theorem Keep.of_ext (h:Ext w w')(hp:p<w.heap.size)(hB:B<=w.heap.size):Keep ix B p w w' :=
 ⟨Below.mono h hB,fun b hb ho=>⟨Below.block h b hb,fun h'=>ho ((ownR_same (Below.block h p hp) b).1 h')⟩⟩
theorem Keep.alloc (o:Obj)(hp:p<w.heap.size)(hB:B<=w.heap.size):Keep ix B p w (w.alloc o):=Keep.of_ext ((Ext.refl w).alloc o) hp hB
theorem Keep.drewN (n:Nat)(h:Keep ix B p w w'):Keep ix B p w (w'.drewN n):=⟨⟨h.below.os,h.below.tape,h.below.output,h.below.size,h.below.block⟩,h.rest⟩
def Held (ix:List Nat) (w:World) (p b:Nat) (o:Obj):Prop:=w.heap[b]?=some o/\¬ ownR ix w p b
theorem Held.lt {b:Nat}{o:Obj}(h:Held ix w p b o):b<w.heap.size:=(Array.getElem?_eq_some_iff.1 h.1).1
theorem Held.keep {b:Nat}{o:Obj}(h:Held ix w p b o)(k:Keep ix B p w w'):Held ix w' p b o:=by
 obtain⟨h1,h2⟩:=k.rest b h.lt h.2
 exact⟨h1.trans h.1,h2⟩
theorem Held.ext {b:Nat}{o:Obj}(h:Held ix w p b o)(k:Ext w w')(hp:p<w.heap.size):Held ix w' p b o :=
 h.keep (B:=0) (Keep.of_ext k hp (Nat.zero_le _))
theorem Held.alloc {b:Nat}{o:Obj}(h:Held ix w p b o)(o':Obj)(hp:p<w.heap.size):Held ix (w.alloc o') p b o:=h.ext ((Ext.refl w).alloc o') hp
theorem Held.cells {b:Nat}{cs:Array Value}{t:TypeId}{fz:Nat × Nat}(h:Held ix w p b (.cells cs t fz))(i:Nat):w.cell? ⟨b,i,none⟩=cs[i]?:=cell_of_heap h.1 i
end
theorem row_ext {w w':World}{base e size n:Nat}{v:Value}{xs:List Value}(h:w.ownsRow base e size v n xs)(hx:Ext w w'):w'.ownsRow base e size v n xs :=
 h.kept (row:=none) ⟨hx.os,hx.tape,hx.output,hx.size,fun k hk _=>hx.block k hk⟩ (by cases v.ownBlock <;> simp)
theorem rows_apart {w:World}{B B' e e' s s' n n':Nat}{v v':Value}{xs xs':List Value}(h:w.ownsRow B e s v n xs)(h':w.ownsRow B' e' s' v' n' xs')(he:e≠e') :
  v.ownBlock=none∨v.ownBlock≠v'.ownBlock:=by
 rcases h.2 with⟨rfl,_⟩ | ⟨g,cap,cur,rfl,_,hg,_⟩
 · exact .inl rfl
 · refine .inr fun hb=>?_
   rcases h'.2 with⟨rfl,_⟩ | ⟨g',cap',cur',rfl,_,hg',_⟩
   · simp [Value.ownBlock] at hb
   · simp only [Value.ownBlock,Option.some.injEq] at hb
     subst hb
     rw [hg] at hg'
     injection hg' with hg'
     injection hg' with _ e2
     exact he e2
theorem row_not {w:World}{B e s n:Nat}{v:Value}{xs:List Value}(h:w.ownsRow B e s v n xs){b:Nat}{cs:Array Value}{t:TypeId}{fz:Nat × Nat}(hb:w.heap[b]?=some (.cells cs t fz))(he:e≠t) :
  v.ownBlock≠some b:=by
 intro hv
 rcases h.2 with⟨rfl,_⟩ | ⟨g,cap,cur,rfl,_,hg,_⟩
 · simp [Value.ownBlock] at hv
 · simp only [Value.ownBlock,Option.some.injEq] at hv
   subst hv
   rw [hg] at hb
   injection hb with hb
   injection hb with _ e2
   exact he e2
def accVals (l:List Acc):List Value:=l.flatMap fun a=>[.int .i64 a.kind,.int .i64 a.cell,.int .i64 a.val]
def ntVals (l:List Nt):List Value:=l.flatMap fun a=>[.int .i64 a.kind,.int .i64 a.pos]
def LocIs (L:List Int) (f:Nat->Int):Prop:=∀ i,f i=L.getD i 0
def maxAns:Nat:=1000000000
structure PMem (B:Nat) (w:World) (p:Nat) (S:TS) (st:Int) (vA vL vC vN:Value) (L:List Int):Prop where
 ge:B<=p
 heap:w.heap[p]?=some (.cells #[.int .i64 st,vA,vL,vC,vN] 48 (0,0))
 ans:Ints w vA S.ans
 ansB:∀ b,vA.ownBlock=some b->b<B
 rowL:w.ownsRow B 3 1 vL L.length (L.map (Value.int .i64))
 rowC:w.ownsRow B 41 3 vC S.acc.length (accVals S.acc)
 rowN:w.ownsRow B 100 2 vN S.nts.length (ntVals S.nts)
 loc:LocIs L S.loc
 locN:L.length<=32768
 accN:S.acc.length<=S.ans.length+1
 ansN:S.ans.length<=maxAns
 ntsN:S.nts.length<=maxAns
def Plays (B:Nat) (w:World) (p:Nat) (S:TS):Prop:=S.acc.length<=S.ans.length/\∃ vA vL vC vN L,PMem B w p S 1 vA vL vC vN L
def Stops (B:Nat) (w:World) (p:Nat) (S:TS):Prop:=∃ vA vL vC vN L,PMem B w p S 2 vA vL vC vN L
abbrev KeepP (B p:Nat) (w w':World):Prop:=Keep [2,3,4] B p w w'
abbrev HeldP (w:World) (p b:Nat) (o:Obj):Prop:=Held [2,3,4] w p b o
section
variable {B p:Nat} {w w':World} {S:TS} {st:Int} {vA vL vC vN:Value} {L:List Int}
theorem PMem.lt (h:PMem B w p S st vA vL vC vN L):p<w.heap.size:=(Array.getElem?_eq_some_iff.1 h.heap).1
theorem PMem.own (h:PMem B w p S st vA vL vC vN L){b:Nat}(hb:ownR [2,3,4] w p b):B<=b/\b<w.heap.size:=by
 rcases hb with rfl | ⟨i,hi,v,hv,hvb⟩
 · exact⟨h.ge,h.lt⟩
 · have e:=cell_of_heap h.heap i
   simp only [List.mem_cons,List.not_mem_nil,or_false] at hi
   rcases hi with rfl | rfl | rfl
   · obtain rfl:vL=v:=by rw [e] at hv;simpa using hv
     exact h.rowL.lt b hvb
   · obtain rfl:vC=v:=by rw [e] at hv;simpa using hv
     exact h.rowC.lt b hvb
   · obtain rfl:vN=v:=by rw [e] at hv;simpa using hv
     exact h.rowN.lt b hvb
theorem PMem.ext (h:PMem B w p S st vA vL vC vN L)(hx:Ext w w'):PMem B w' p S st vA vL vC vN L :=
 { h with heap:=(Below.block hx p h.lt).trans h.heap,ans:=h.ans.ext hx,rowL:=row_ext h.rowL hx,rowC:=row_ext h.rowC hx,rowN:=row_ext h.rowN hx }
theorem Plays.ext (h:Plays B w p S)(hx:Ext w w'):Plays B w' p S:=by
 obtain⟨h0,vA,vL,vC,vN,L,h⟩:=h
 exact⟨h0,vA,vL,vC,vN,L,h.ext hx⟩
theorem Plays.alloc (h:Plays B w p S)(o:Obj):Plays B (w.alloc o) p S:=h.ext ((Ext.refl w).alloc o)
theorem Plays.lt (h:Plays B w p S):p<w.heap.size:=by obtain⟨_,_,_,_,_,_,h⟩:=h;exact h.lt
theorem Plays.le (h:Plays B w p S):B<=w.heap.size:=by obtain⟨_,_,_,_,_,_,h⟩:=h;have:=h.lt;have:=h.ge;omega
theorem Plays.held (h:Plays B w p S)(o:Obj):HeldP (w.alloc o) p w.heap.size o:=by
 refine⟨heap_alloc_new w o,fun ho=>?_⟩
 obtain⟨_,_,_,_,_,_,h⟩:=h
 have h1:=(ownR_same (w:=w) (Below.heap_alloc w o p h.lt) _).1 ho
 have:=(h.own h1).2
 omega
end
theorem Plays.entry {B p:Nat}{S:TS}{w:World}(h:Plays B w p S)(a:Obj):HeldP (w.alloc a) p w.heap.size a/\Keep [2,3,4] B p w (w.alloc a)/\Plays B (w.alloc a) p S :=
 ⟨h.held a,(Keep.refl [2,3,4] B p w).trans (Keep.alloc a h.lt h.le),h.alloc a⟩
theorem Plays.entry2 {B p:Nat}{S:TS}{w:World}(h:Plays B w p S)(a b:Obj):HeldP ((w.alloc a).alloc b) p w.heap.size a/\HeldP ((w.alloc a).alloc b) p (w.heap.size+1) b/\Keep [2,3,4] B p w ((w.alloc a).alloc b)/\Plays B ((w.alloc a).alloc b) p S:=by
 have h2:=(h.alloc a).held b
 rw [World.size_alloc] at h2
 exact⟨(h.held a).alloc b (h.alloc a).lt,h2,((Keep.refl [2,3,4] B p w).trans (Keep.alloc a h.lt h.le)).trans (Keep.alloc b (h.alloc a).lt (h.alloc a).le),(h.alloc a).alloc b⟩
theorem info_acc:(Try.prog.info? 41).map (fun i=>(i.zero,i.size,i.bytes))=some (some (.agg #[.int .i64 0,.int .i64 0,.int .i64 0]),3,24):=by kernel_rfl
theorem accVals_snoc (l:List Acc)(a:Acc):accVals (l++[a])=accVals l++[.int .i64 a.kind,.int .i64 a.cell,.int .i64 a.val]:=by simp [accVals]
theorem heap_setCell {w:World}{b i:Nat}{cs:Array Value}{t:TypeId}{fz:Nat × Nat}(h:w.heap[b]?=some (.cells cs t fz))(v:Value) :
  (w.setCell ⟨b,i,none⟩ v).heap[b]?=some (.cells (cs.setIfInBounds i v) t fz):=by
 simp [World.setCell,Array.getElem?_modify,h]
theorem heap_setCell_ne (w:World){b i k:Nat}(v:Value)(h:k≠b):(w.setCell ⟨b,i,none⟩ v).heap[k]?=w.heap[k]?:=Below.heap_setCell _ _ _ _ h
theorem frozen_of_heap {w:World}{b:Nat}{cs:Array Value}{t:TypeId}(h:w.heap[b]?=some (.cells cs t (0,0)))(i:Nat):w.frozen? ⟨b,i,none⟩=false:=by
 simp [World.frozen?,h]
theorem grown_heap {w w1:World}{b:Nat}{o:Obj}{row:Option Nat}(h:w.heap[b]?=some o)(hv:row≠some b)(hg:w.grownBy w1 row):w1.heap[b]?=some o:=by
 have hb:=(Array.getElem?_eq_some_iff.1 h).1
 rw [hg.block b hb (fun e=>hv e.symm),h]
theorem ints_grown {w w1:World}{v:Value}{l:List Int}{row:Option Nat}(h:Ints w v l)(hg:w.grownBy w1 row)(hv:∀ b,v.ownBlock=some b->row≠some b):Ints w1 v l:=by
 obtain⟨A,c,rfl,h1,h2,h3⟩:=h
 refine⟨A,c,rfl,h1,h2,fun hl=>?_⟩
 obtain⟨b,off,rfl,hb,hc⟩:=h3 hl
 refine⟨b,off,rfl,Nat.lt_of_lt_of_le hb hg.size,fun i x hi=>?_⟩
 rw [<- hc i x hi]
 exact World.cell?_of_block (w:=w) (hg.block b hb (fun e=>hv b rfl e.symm))
theorem ints_set {w:World}{v:Value}{l:List Int}(h:Ints w v l)(a:Addr)(u:Value)(hv:∀ b,v.ownBlock=some b->b≠a.block):Ints (w.setCell a u) v l:=by
 obtain⟨A,c,rfl,h1,h2,h3⟩:=h
 refine⟨A,c,rfl,h1,h2,fun hl=>?_⟩
 obtain⟨b,off,rfl,hb,hc⟩:=h3 hl
 refine⟨b,off,rfl,by simpa using hb,fun i x hi=>?_⟩
 rw [<- hc i x hi]
 exact World.cell?_of_block (w:=w) (Below.heap_setCell _ _ _ _ (hv b rfl))
section
variable {B p:Nat} {w w1:World} {S:TS} {st:Int} {vA vL vC vN:Value} {L:List Int}
theorem PMem.cNe (h:PMem B w p S st vA vL vC vN L):vL.ownBlock≠some p/\vC.ownBlock≠some p/\vN.ownBlock≠some p :=
 ⟨row_not h.rowL h.heap (by decide),row_not h.rowC h.heap (by decide),row_not h.rowN h.heap (by decide)⟩
theorem keep_field {B p:Nat}{w w1:World}{cs cs':Array Value}{t:TypeId}{ix:List Nat}{row:Option Nat}{u:Value}{i:Nat}(hB:B<=p)(hp:w.heap[p]?=some (.cells cs t (0,0)))(hg:w.grownBy w1 row)(hr:∀ b,row=some b->B<=b/\ownR ix w p b)
  (hne:row≠some p)(_:cs'=cs.setIfInBounds i u)(hu:∀ b,u.ownBlock=some b->ownR ix w p b∨w.heap.size<=b):Keep ix B p w (w1.setCell ⟨p,i,none⟩ u):=by
 have hp1:=grown_heap hp hne hg
 have hp2:=heap_setCell (i:=i) hp1 u
 refine⟨⟨hg.os,hg.tape,hg.output,by have:=hg.size;simpa using this,fun k hk=>?_⟩,fun b hb ho=>⟨?_,fun h'=>?_⟩⟩
 · rw [heap_setCell_ne _ _ (by omega),hg.block k (by have:=(Array.getElem?_eq_some_iff.1 hp).1;omega) (fun e=>by have:=(hr k e.symm).1;omega)]
 · rw [heap_setCell_ne _ _ (fun e=>ho (.inl e)),hg.block b hb (fun e=>ho (hr b e.symm).2)]
 · rcases h' with rfl | ⟨j,hj,v,hv,hvb⟩
   · exact ho (.inl rfl)
   · rw [cell_of_heap hp2] at hv
     by_cases e:i=j
     · subst e
       rw [Array.getElem?_setIfInBounds] at hv
       split at hv
       · split at hv
         · injection hv with hv
           subst hv
           rcases hu b hvb with h1 | h1
           · exact ho h1
           · omega
         · cases hv
       · rename_i e;exact e rfl
     · rw [Array.getElem?_setIfInBounds_ne e] at hv
       exact ho (.inr ⟨j,hj,v,(cell_of_heap hp j).trans hv,hvb⟩)
theorem row_set {B e s n p i:Nat}{v u:Value}{xs:List Value}(h:w1.ownsRow B e s v n xs)(hne:v.ownBlock≠some p):(w1.setCell ⟨p,i,none⟩ u).ownsRow B e s v n xs :=
 ownsRow_setCell_other h (a:=⟨p,i,none⟩) hne u
theorem ownR_at {cs:Array Value}{t:TypeId}{ix:List Nat}{i:Nat}{v:Value}(hp:w.heap[p]?=some (.cells cs t (0,0)))(hi:i∈ix)(hv:cs[i]?=some v){b:Nat}(hb:v.ownBlock=some b):ownR ix w p b :=
 .inr ⟨i,hi,v,(cell_of_heap hp i).trans hv,hb⟩
theorem PMem.state (h:PMem B w p S st vA vL vC vN L)(st':Int):PMem B (w.setCell ⟨p,0,none⟩ (.int .i64 st')) p S st' vA vL vC vN L/\KeepP B p w (w.setCell ⟨p,0,none⟩ (.int .i64 st')):=by
 obtain⟨nL,nC,nN⟩:=h.cNe
 refine⟨{ h with heap:=heap_setCell h.heap _,ans:=ints_set h.ans _ _ ?_,rowL:=row_set h.rowL nL,rowC:=row_set h.rowC nC,rowN:=row_set h.rowN nN },?_⟩
 · intro b hb
   have:=h.ansB b hb
   have:=h.ge
   show b≠p
   omega
 · exact keep_field (row:=none) h.ge h.heap (World.grownBy.refl _ _) (fun b hb=>by cases hb) (by simp) rfl (fun b hb=>by simp [Value.ownBlock] at hb)
theorem PMem.grewC (h:PMem B w p S st vA vL vC vN L)(a:Acc){g cap:Nat}(hg:w.grownBy w1 vC.ownBlock)(hat:vC.ownBlock=some g∨w.heap.size<=g)
  (hown:w1.ownsRow B 41 3 (.slice (some ⟨g,0,none⟩) (S.acc.length+1) cap) (S.acc.length+1) (accVals S.acc++[.int .i64 a.kind,.int .i64 a.cell,.int .i64 a.val]))(hl:S.acc.length<=S.ans.length) :
  PMem B (w1.setCell ⟨p,3,none⟩ (.slice (some ⟨g,0,none⟩) (S.acc.length+1) cap)) p (S.put a) st vA vL (.slice (some ⟨g,0,none⟩) (S.acc.length+1) cap) vN L /\
   KeepP B p w (w1.setCell ⟨p,3,none⟩ (.slice (some ⟨g,0,none⟩) (S.acc.length+1) cap)):=by
 obtain⟨nL,nC,nN⟩:=h.cNe
 have hp1:=grown_heap h.heap nC hg
 have hgp:(Value.slice (some ⟨g,0,none⟩) (S.acc.length+1) cap).ownBlock≠some p:=row_not hown hp1 (by decide)
 refine⟨?_,?_⟩
 · refine { ge:=h.ge,heap:=heap_setCell hp1 _,ans:=ints_set (ints_grown h.ans hg ?_) _ _ ?_,ansB:=h.ansB,rowL:=row_set (h.rowL.kept hg (rows_apart h.rowL h.rowC (by decide))) nL,rowC:=?_,rowN:=row_set (h.rowN.kept hg (rows_apart h.rowN h.rowC (by decide))) nN,loc:=h.loc,locN:=h.locN,accN:=?_,ansN:=h.ansN,ntsN:=h.ntsN }
   · intro b hb e
     have:=h.ansB b hb
     have:=(h.rowC.lt b e).1
     omega
   · intro b hb
     have:=h.ansB b hb
     have:=h.ge
     show b≠p
     omega
   · have e:(S.put a).acc=S.acc++[a]:=rfl
     rw [e,accVals_snoc,List.length_append,List.length_singleton]
     exact row_set hown hgp
   · have e:(S.put a).acc=S.acc++[a]:=rfl
     rw [e,List.length_append,List.length_singleton]
     show S.acc.length+1<=S.ans.length+1
     omega
 · refine keep_field h.ge h.heap hg (fun b hb=>⟨(h.rowC.lt b hb).1,ownR_at h.heap (by simp) (i:=3) rfl hb⟩) nC rfl fun b hb=>?_
   obtain rfl:g=b:=by simpa [Value.ownBlock] using hb
   rcases hat with h1 | h1
   · exact .inl (ownR_at h.heap (by simp) (i:=3) rfl h1)
   · exact .inr h1
end
theorem cells_new2 (w:World)(O:Obj)(cs:Array Value)(t:TypeId):∀ (j:Nat) (u:Value),cs.toList[j]?=some u->(((w.alloc O).alloc (.cells cs t)).drew).cell? ((⟨w.heap.size+1,0,none⟩:Addr).add j)=some u:=by
 intro j u hu
 rw [Addr.add_lit,Nat.zero_add]
 refine (cell_of_heap (w:=((w.alloc O).alloc (.cells cs t)).drew) (b:=w.heap.size+1) (cs:=cs) (t:=t) (fz:=(0,0)) ?_ j).trans (by simpa using hu)
 have:=heap_alloc_new (w.alloc O) (.cells cs t)
 rw [World.size_alloc] at this
 exact this
theorem grown2 {w w1:World}{O O':Obj}{row:Option Nat}(hg:(((w.alloc O).alloc O').drew).grownBy w1 row):w.grownBy w1 row :=
 World.grownBy.trans (World.grownBy_alloc w O row) (World.grownBy.trans (World.grownBy_alloc _ O' row) ⟨hg.os,hg.tape,hg.output,hg.size,hg.block⟩)
set_option maxRecDepth 100000 in
theorem ask_p (B p:Nat)(S:TS)(k c v x:Int)(w:World)(h:Plays B w p S)(hx:S.next=some x) :
  Calls Try.prog 53 #[.pointer (some ⟨p,0,none⟩),.agg #[.int .i64 k,.int .i64 c,.int .i64 v]] w fun e w'=>e=.returned (.int .i64 x)/\Plays B w' p (S.put ⟨k,c,v⟩)/\KeepP B p w w':=by
 obtain⟨h1,vA,vL,vC,vN,L,h⟩:=h
 have hlt:S.acc.length<S.ans.length:=by
  unfold TS.next at hx
  exact (List.getElem?_eq_some_iff.1 hx).1
 have hx2:=Lib.hid (show S.ans.getD S.acc.length 0=x by
  unfold TS.next at hx
  simp [List.getD,hx])
 clear hx
 have hc:=cell_of_heap h.heap
 have hbo:=h.ansN
 unfold maxAns at hbo
 have hle:=h.lt
 have hge:=h.ge
 obtain⟨Aa,ca,rfl,ha1,ha2⟩:=h.ans.slice
 obtain⟨Ac,cc,hvC⟩:∃ A c,vC=.slice A S.acc.length c:=by
  rcases h.rowC.2 with⟨rfl,h0⟩ | ⟨g,cap,cur,rfl,_⟩
  · exact⟨none,0,by rw [h0]⟩
  · exact⟨_,_,rfl⟩
 subst hvC
 have hL:=Lib.hid h
 have hlt2:=Lib.hid hlt
 clear h hlt
 obtain⟨i0,hi,hz0,hz1,hz2⟩:=info_parts info_acc
 go_enter Try.func53,Try.ntmps53
 go_wp2_with fail
 go_region_law ((refine step_append_lies _ (by rfl) _ _ _ (by rfl) B 41 i0 _ 3 24 Try.underlying30 hi hz0 hz1 hz2 rfl (by omega) (Value.slice Ac S.acc.length cc) S.acc.length (accVals S.acc) (by rfl) (((World.ownsRow.alloc hL.out.rowC _).drew).alloc _) ⟨w.heap.size+1,0,none⟩ 1 1 [.int .i64 k,.int .i64 c,.int .i64 v] (by rfl) (by rfl) (cells_new2 w _ _ _) (by simp [Value.oneCell']) (by omega) (by unfold maxLen;omega) (by omega) (by simp;omega) (w.heap.size+2) (by simp) ?_;intro gg cap w1 hown1 hgrow hat hlt;have hp1:=grown_heap hL.out.heap hL.out.cNe.2.1 (grown2 hgrow);have hq1:=cell_of_heap hp1;have hf1:=frozen_of_heap hp1))
 all_goals
  obtain⟨HM,HK⟩:=hL.out.grewC ⟨k,c,v⟩ (grown2 hgrow) (hat.imp id (by omega)) hown1 h1
  clear hown1 hgrow hat hlt hp1 hq1 hf1 hc
  generalize hv':(Value.slice (some ⟨gg,0,none⟩) (S.acc.length+1) cap)=v' at *
  generalize w1.setCell ⟨p,3,none⟩ v'=W at *
  clear hv' w1
  have hq:=cell_of_heap HM.heap
  have hlt:=hlt2.out
  obtain⟨b,off,rfl,hb,hcell⟩:=HM.ans.at_ (show S.acc.length<S.ans.length from hlt)
  rw [show (S.put ⟨k,c,v⟩).ans.getD S.acc.length 0=x from hx2.out] at hcell
  have HF:Plays B W p (S.put ⟨k,c,v⟩):=⟨by show (S.acc++_).length<=S.ans.length;simp;omega,_,_,_,_,_,HM⟩
  have HKh:=Lib.hid HK
  clear HM HK
  go_wp2_with fail
  go_ret
  exact⟨rfl,HF,HKh.out⟩
set_option maxRecDepth 100000 in
theorem ask_s (B p:Nat)(S:TS)(k c v:Int)(w:World)(h:Plays B w p S)(hx:S.next=none) :
  Calls Try.prog 53 #[.pointer (some ⟨p,0,none⟩),.agg #[.int .i64 k,.int .i64 c,.int .i64 v]] w fun e w'=>e=.panicked [{ v:=.iface 51 (.agg #[.pointer (some ⟨p,0,none⟩)]),recovered:=false }]/\Stops B w' p (S.put ⟨k,c,v⟩)/\KeepP B p w w':=by
 obtain⟨h1,vA,vL,vC,vN,L,h⟩:=h
 have hlt:S.acc.length=S.ans.length:=by
  unfold TS.next at hx
  have:=List.getElem?_eq_none_iff.1 hx
  omega
 clear hx
 have hc:=cell_of_heap h.heap
 have hbo:=h.ansN
 unfold maxAns at hbo
 have hle:=h.lt
 have hge:=h.ge
 obtain⟨Aa,ca,rfl,ha1,ha2⟩:=h.ans.slice
 obtain⟨Ac,cc,hvC⟩:∃ A c,vC=.slice A S.acc.length c:=by
  rcases h.rowC.2 with⟨rfl,h0⟩ | ⟨g,cap,cur,rfl,_⟩
  · exact⟨none,0,by rw [h0]⟩
  · exact⟨_,_,rfl⟩
 subst hvC
 have hL:=Lib.hid h
 have hlt2:=Lib.hid hlt
 clear h hlt
 obtain⟨i0,hi,hz0,hz1,hz2⟩:=info_parts info_acc
 go_enter Try.func53,Try.ntmps53
 go_wp2_with fail
 go_region_law ((refine step_append_lies _ (by rfl) _ _ _ (by rfl) B 41 i0 _ 3 24 Try.underlying30 hi hz0 hz1 hz2 rfl (by omega) (Value.slice Ac S.acc.length cc) S.acc.length (accVals S.acc) (by rfl) (((World.ownsRow.alloc hL.out.rowC _).drew).alloc _) ⟨w.heap.size+1,0,none⟩ 1 1 [.int .i64 k,.int .i64 c,.int .i64 v] (by rfl) (by rfl) (cells_new2 w _ _ _) (by simp [Value.oneCell']) (by omega) (by unfold maxLen;omega) (by omega) (by simp;omega) (w.heap.size+2) (by simp) ?_;intro gg cap w1 hown1 hgrow hat hlt;have hp1:=grown_heap hL.out.heap hL.out.cNe.2.1 (grown2 hgrow);have hq1:=cell_of_heap hp1;have hf1:=frozen_of_heap hp1))
 all_goals
  obtain⟨HM,HK⟩:=hL.out.grewC ⟨k,c,v⟩ (grown2 hgrow) (hat.imp id (by omega)) hown1 h1
  clear hown1 hgrow hat hlt hp1 hq1 hf1 hc
  generalize hv':(Value.slice (some ⟨gg,0,none⟩) (S.acc.length+1) cap)=v' at *
  generalize w1.setCell ⟨p,3,none⟩ v'=W at *
  clear hv' w1
  have hq:=cell_of_heap HM.heap
  have hle:S.ans.length<=S.acc.length:=by have:=hlt2.out;omega
  have hfz:=frozen_of_heap HM.heap
  have HMh:=Lib.hid HM
  have HKh:=Lib.hid HK
  clear HM HK
  go_wp2_with fail
  obtain⟨HM2,HK2⟩:=HMh.out.state 2
  exact⟨rfl,rfl,⟨_,_,_,_,_,HM2⟩,HKh.out.trans HK2⟩
theorem got_at {S:TS}{L:List Int}(h:LocIs L S.loc)(i:Nat):S.got i=L.getD i 0:=by
 unfold TS.got
 rw [if_neg (by omega),Int.toNat_natCast]
 exact h i
theorem got_out {S:TS}{L:List Int}(h:LocIs L S.loc)(i:Nat)(hi:L.length<=i):S.got i=0:=by
 rw [got_at h];simp [List.getD,List.getElem?_eq_none hi]
theorem got_neg {S:TS}{i:Int}(h:i<0):S.got i=0:=by unfold TS.got;rw [if_pos h]
theorem get_p (B p:Nat)(S:TS)(i:Int)(w:World)(h:Plays B w p S) :
  Calls Try.prog 54 #[.pointer (some ⟨p,0,none⟩),.int .i64 i] w fun e w'=>e=.returned (.int .i64 (S.got i))/\w=w':=by
 obtain⟨_,vA,vL,vC,vN,L,h⟩:=h
 have hc:=cell_of_heap h.heap
 have hI:Ints w vL L:=IntRow.ints h.rowL
 by_cases h0:i<0
 · rw [got_neg h0]
   go_enter Try.func54,Try.ntmps54
   go_wp2_with fail
   go_ret
   exact⟨rfl,rfl⟩
 · obtain⟨i,rfl⟩:∃ n:Nat,i=(n:Int):=⟨i.toNat,by omega⟩
   obtain⟨A,c,rfl,hc1,hc2⟩:=hI.slice
   by_cases h1:i<L.length
   · obtain⟨b,off,rfl,hb,hcell⟩:=hI.at_ h1
     rw [got_at h.loc]
     clear h hI
     go_enter Try.func54,Try.ntmps54
     go_wp2_with fail
     go_ret
     exact⟨rfl,rfl⟩
   · rw [got_out h.loc i (by omega)]
     clear h hI
     go_enter Try.func54,Try.ntmps54
     go_wp2_with fail
     go_ret
     exact⟨rfl,rfl⟩
end Go.Proofs.Ytchahoiainbcaaa
namespace Go.Proofs.Ytchahoiainbcaaa
section
variable {P:Program} (w:World)
theorem zeroCells_one (z:Value)(m:Nat):(Builtin.zeroCells #[z] m)=(List.replicate m z).toArray:=by
 apply Array.ext'
 simp only [Builtin.zeroCells,Array.toList_map,Array.toList_range]
 apply List.ext_getElem?
 intro j
 by_cases hj:j<m
 · simp [hj,Nat.mod_one]
 · simp [hj]
theorem run_append_zeros (t u ty:TypeId)(base:Nat)(e:TypeId)(i:TypeInfo)(z:Value)(bytes:Nat)(k:IntKind)(ht:P.underlying t=some (.slice e))(hu:P.underlying u=some (.int k))(hi:P.info? e=some i)(hz:i.zero=some z)
  (hsize:i.size=1)(hby:i.bytes=bytes)(hzs:z.cells=#[z])(hz1:z.oneCell'=true)
  (v:Value)(n:Nat)(xs:List Value)(hown:w.ownsRow base e 1 v n xs)(m:Nat)(hm:0<m)(h63:n+m<=maxLen)(hbytes:(n+m)*bytes<=140737488355328)(hbase:base<=w.heap.size) :
  ∃ g cap w',(Builtin.append_ #[t,u] ty #[v,.int k m]).run P w=.ok (.slice (some ⟨g,0,none⟩) (n+m) cap) w' /\
   w'.ownsRow base e 1 (.slice (some ⟨g,0,none⟩) (n+m) cap) (n+m) (xs++List.replicate m z)/\w.grownBy w' v.ownBlock/\(v.ownBlock=some g∨g=w.heap.size):=by
 subst hby
 have hsmall:n+m<=9223372036854775807:=by simpa only [maxLen] using h63
 have hw64:IntKind.i64.wrap (m:Int)=m:=by rw [IntKind.wrap_i64];omega
 have hm0:¬ ((m:Int)<0):=by omega
 have hmb:¬ (281474976710656<(m:Int)*(i.bytes:Int)):=by
  have h1:m*i.bytes<=(n+m)*i.bytes:=Nat.mul_le_mul_right _ (by omega)
  have h2:((m*i.bytes:Nat):Int)<=140737488355328:=by omega
  rw [Int.natCast_mul] at h2
  omega
 have hmz:¬ (m=0):=by omega
 have hlen:(xs++List.replicate m z).length=(n+m)*1:=by rw [List.length_append,hown.1,List.length_replicate];omega
 have hxs:xs.length=n:=by have:=hown.1;omega
 have hzc:=zeroCells_one z
 have grown:∀ (old:Nat),old<n+m->∀ (row:Option Nat),
   (w.drew.alloc (.cells (xs.toArray++(List.replicate m z).toArray++Builtin.zeroCells z.cells (grownCap w (n+m) old e-(n+m))) e)).ownsRow base e 1
     (.slice (some ⟨w.heap.size,0,none⟩) (n+m) (grownCap w (n+m) old e)) (n+m) (xs++List.replicate m z) /\
   w.grownBy (w.drew.alloc (.cells (xs.toArray++(List.replicate m z).toArray++Builtin.zeroCells z.cells (grownCap w (n+m) old e-(n+m))) e)) row:=by
  intro old ho row
  have hge:=grownCap_ge w (n+m) old e
  have hcm:grownCap w (n+m) old e<=maxLen:=grownCap_le_maxLen w (n+m) old e h63
  refine⟨⟨hlen,.inr ⟨w.heap.size,_,_,rfl,hbase,heap_alloc_new w.drew _,hge,hcm,?_,?_⟩⟩,⟨rfl,rfl,rfl,by simp,fun k hk _=>Go.RowKit.Below.heap_alloc w.drew _ k hk⟩⟩
  · simp only [Array.size_append,List.size_toArray,size_zeroCells,hzs,List.length_replicate,hxs]
    simp
    omega
  · simp only [Array.toList_append,List.append_assoc]
    rw [<- List.append_assoc,<- hlen]
    exact List.take_left
 rcases hown.2 with⟨rfl,rfl⟩ | ⟨g,cap,cur,rfl,hbg,hg,hnc,hcm,hcs,htake⟩
 · obtain rfl:xs=[]:=List.eq_nil_of_length_eq_zero hxs
   have hgr:=grown 0 (by omega) (Value.ownBlock (.slice none 0 0))
   refine⟨w.heap.size,grownCap w (0+m) 0 e,_,?_,hgr.1,hgr.2,.inr rfl⟩
   have h63':¬ (9223372036854775807<(m:Int)):=by omega
   have h48':¬ (281474976710656<Builtin.nextslicecap m 0*i.bytes):=by rw [nextslicecap_zero hm];simp only [Nat.zero_add] at hbytes;omega
   simp [Builtin.append_,run_underlying ht,run_underlying hu,sizeOf,typeInfo,zeroValue,hi,hz,hsize,hw64,hm0,hmb,hmz,h63',h48',Question.forced,Builtin.firstCells,newRow,grownCap,asInt,asIntOf,hzs,hzc]
 · by_cases hroom:n+m<=cap
   · have hfit:n*1+(List.replicate m z).length<=cur.size:=by rw [List.length_replicate,hcs];omega
     have h1:∀ u∈List.replicate m z,u.oneCell'=true:=fun u hu=>by rw [List.eq_of_mem_replicate hu];exact hz1
     have hst:=run_storeCells_at P g (n*1) e (List.replicate m z) 0 cur w hg (by simpa using hfit) h1
     simp only [Nat.add_zero,Nat.mul_one] at hst
     refine⟨g,cap,w.setRow g (cur.toList.take n++List.replicate m z++cur.toList.drop (n+(List.replicate m z).length)).toArray,?_,⟨hlen,.inr ⟨g,cap,_,rfl,hbg,setRow_heap w g cur _ e _ hg,hroom,hcm,?_,?_⟩⟩,⟨rfl,rfl,rfl,by simp,fun k _ hk=>setRow_other w g k _ (fun e=>hk (by simp [Value.ownBlock,e]))⟩,.inl rfl⟩
     · simp [Builtin.append_,run_underlying ht,run_underlying hu,sizeOf,typeInfo,zeroValue,hi,hz,hsize,hw64,hm0,hmb,hmz,hroom,Addr.add_lit,hst,asInt,asIntOf,hzs,hzc]
     · simp only [List.size_toArray,List.length_append,List.length_take,List.length_drop,Array.length_toList]
       simp only [List.length_replicate] at hfit ⊢
       omega
     · have e:((cur.toList.take n++List.replicate m z++cur.toList.drop (n+(List.replicate m z).length)).toArray).toList=(xs++List.replicate m z)++cur.toList.drop (n+(List.replicate m z).length):=by
        rw [<- htake,Nat.mul_one]
       rw [e,<- hlen]
       exact List.take_left
   · have holds:∀ j u,xs[j]?=some u->w.cell? ((⟨g,0,none⟩:Addr).add j)=some u:=hown.cells (g:=g) rfl
     have hgr:=grown cap (by omega) (Value.ownBlock (.slice (some ⟨g,0,none⟩) n cap))
     refine⟨w.heap.size,grownCap w (n+m) cap e,_,?_,hgr.1,hgr.2,.inr rfl⟩
     have hfo:=run_firstCells_some (P:=P) w.drew 1 n ⟨g,0,none⟩ n cap xs (by omega) (by simpa using holds)
     have h63':¬ (9223372036854775807<((n:Int)+(m:Int))):=by omega
     have h48':¬ (281474976710656<Builtin.nextslicecap (n+m) cap*i.bytes):=by have:=growslice_fits (show cap<n+m by omega) hbytes;omega
     simp [Builtin.append_,run_underlying ht,run_underlying hu,sizeOf,typeInfo,zeroValue,hi,hz,hsize,hw64,hm0,hmb,hmz,hroom,h63',h48',Question.forced,hfo,newRow,grownCap,asInt,asIntOf,hzs,hzc]
theorem step_append_zeros {ops:Array Oper}{o:Oper}{a:Act}{K:Act->World->Prop}{Q:Exit->Act->World->Prop}{E:Prop}(hgd:o.guard=none)(s x:Operand)(t u:TypeId)
  (ho:o.op=.call { callee:=.builtin .append,args:=#[s,x],argTypes:=#[t,u] })
  (base:Nat)(e:TypeId)(i:TypeInfo)(z:Value)(bytes:Nat)(k:IntKind)(ht:P.underlying t=some (.slice e))(hu:P.underlying u=some (.int k))(hi:P.info? e=some i)(hz:i.zero=some z)
  (hsize:i.size=1)(hby:i.bytes=bytes)(hzs:z.cells=#[z])(hz1:z.oneCell'=true)
  (v:Value)(n:Nat)(xs:List Value)(hs:a.eval s=v)(hown:w.ownsRow base e 1 v n xs)(m:Nat)(hx:a.eval x=.int k m)(hm:0<m)(h63:n+m<=maxLen)(hbytes:(n+m)*bytes<=140737488355328)(hbase:base<=w.heap.size)
  (h:∀ g cap w',w'.ownsRow base e 1 (.slice (some ⟨g,0,none⟩) (n+m) cap) (n+m) (xs++List.replicate m z)->w.grownBy w' v.ownBlock->(v.ownBlock=some g∨g=w.heap.size)->K (a.put o.dst (.slice (some ⟨g,0,none⟩) (n+m) cap)) w') :
  if Region.wanted o (yielded ops a.tmps)=true then Oper.wp P o a w K Q else E:=by
 have hw:Region.wanted o (yielded ops a.tmps)=true:=by simp [Region.wanted,hgd]
 rw [if_pos hw]
 obtain⟨g,cap,w',hr,h2,h3,h4⟩:=run_append_zeros (P:=P) w t u o.type base e i z bytes k ht hu hi hz hsize hby hzs hz1 v n xs hown m hm h63 hbytes hbase
 unfold Oper.wp execOp
 simp only [ho,resolve,invoke,builtin,Sem.run_bind,Sem.run_pure,Result.andThen_ok,List.map_toArray,List.map_cons,List.map_nil,hs,hx,hr]
 exact h g cap w' h2 h3 h4
end
end Go.Proofs.Ytchahoiainbcaaa
namespace Go.Proofs.Ytchahoiainbcaaa
open Go.RowKit Kv
theorem grown0 {w w1:World}{row:Option Nat}(hg:(w.drew).grownBy w1 row):w.grownBy w1 row:=⟨hg.os,hg.tape,hg.output,hg.size,hg.block⟩
section
variable {B p:Nat} {w w1:World} {S:TS} {st:Int} {vA vL vC vN:Value} {L:List Int}
theorem LocIs.set {L:List Int}{f:Nat->Int}(h:LocIs L f)(i:Nat)(hi:i<L.length)(v:Int):LocIs (L.set i v) (fun j=>if j=i then v else f j):=by
 intro j
 by_cases e:j=i
 · subst e;simp [List.getD,hi]
 · simp [List.getD,e,Ne.symm e,h j]
theorem LocIs.zeros {L:List Int}{f:Nat->Int}(h:LocIs L f)(n:Nat):LocIs (L++List.replicate n 0) f:=by
 intro j
 rw [h j]
 simp only [List.getD_eq_getElem?_getD,List.getElem?_append,List.getElem?_replicate]
 split
 · rfl
 · rename_i hj
   rw [List.getElem?_eq_none (by omega)]
   split <;> rfl
theorem TS.upd_in {S:TS}{i:Nat}(h:i<32768)(v:Int):S.upd i v={ S with loc:=fun j=>if j=i then v else S.loc j }:=by
 unfold TS.upd
 rw [if_pos (by omega),Int.toNat_natCast]
theorem TS.upd_out {S:TS}{i v:Int}(h:i<0∨32768<=i):S.upd i v=S:=by
 unfold TS.upd
 rw [if_neg (by omega)]
theorem TS.upd_zero {S:TS}{L:List Int}(h:LocIs L S.loc){i:Nat}(hi:L.length<=i):S.upd i 0=S:=by
 unfold TS.upd
 split
 · obtain⟨a,c,n,f⟩:=S
   congr 1
   funext j
   show (if j=(i:Int).toNat then 0 else f j)=f j
   split
   · subst j
     have h2:f ((i:Int).toNat)=L.getD ((i:Int).toNat) 0:=h _
     rw [h2]
     simp [List.getD,List.getElem?_eq_none (show L.length<=i from hi)]
   · rfl
 · rfl
theorem PMem.stored {g cap:Nat}(h:PMem B w p S st vA (.slice (some ⟨g,0,none⟩) L.length cap) vC vN L)(i:Nat)(hi:i<L.length)(v:Int) :
  PMem B (w.setCell ⟨g,i,none⟩ (.int .i64 v)) p (S.upd i v) st vA (.slice (some ⟨g,0,none⟩) L.length cap) vC vN (L.set i v)/\KeepP B p w (w.setCell ⟨g,i,none⟩ (.int .i64 v)):=by
 obtain⟨nL,nC,nN⟩:=h.cNe
 have hgp:g≠p:=fun e=>nL (by rw [e];rfl)
 obtain⟨hs1,hs2⟩:=h.rowL.stored i (.int .i64 v)
 have hlt:=h.locN
 have hu:=TS.upd_in (S:=S) (show i<32768 by omega) v
 have hgB:=(h.rowL.lt g rfl).1
 refine⟨{ ge:=h.ge,heap:=?_,ans:=?_,ansB:=h.ansB,rowL:=?_,rowC:=?_,rowN:=?_,loc:=?_,locN:=by simpa using h.locN,accN:=?_,ansN:=?_,ntsN:=?_ },?_⟩
 · rw [heap_setCell_ne _ _ (Ne.symm hgp)];exact h.heap
 · rw [hu]
   exact ints_set h.ans _ _ (fun b hb=>by have:=h.ansB b hb;show b≠g;omega)
 · rw [List.map_set,List.length_set];exact hs1
 · rw [hu]
   exact row_set h.rowC (fun e=>by
    have:=rows_apart h.rowC h.rowL (by decide)
    rw [e] at this
    simp [Value.ownBlock] at this)
 · rw [hu]
   exact row_set h.rowN (fun e=>by
    have:=rows_apart h.rowN h.rowL (by decide)
    rw [e] at this
    simp [Value.ownBlock] at this)
 · rw [hu];exact h.loc.set i hi v
 · rw [hu];exact h.accN
 · rw [hu];exact h.ansN
 · rw [hu];exact h.ntsN
 · have ho:ownR [2,3,4] w p g:=ownR_at h.heap (by simp) (i:=2) rfl rfl
   refine⟨⟨rfl,rfl,rfl,by simp,fun k hk=>heap_setCell_ne _ _ (by omega)⟩,fun b hb hn=>⟨heap_setCell_ne _ _ (fun e=>hn (e▸ho)),fun h'=>hn ?_⟩⟩
   exact (ownR_same (heap_setCell_ne _ _ (Ne.symm hgp)) b).1 h'
theorem PMem.grewL (h:PMem B w p S st vA vL vC vN L)(n:Nat){g cap:Nat}(hg:w.grownBy w1 vL.ownBlock)(hat:vL.ownBlock=some g∨w.heap.size<=g)
  (hown:w1.ownsRow B 3 1 (.slice (some ⟨g,0,none⟩) (L.length+n) cap) (L.length+n) (L.map (Value.int .i64)++(List.replicate n (Value.int .i64 0))))(hl:L.length+n<=32768) :
  PMem B (w1.setCell ⟨p,2,none⟩ (.slice (some ⟨g,0,none⟩) (L.length+n) cap)) p S st vA (.slice (some ⟨g,0,none⟩) (L.length+n) cap) vC vN (L++List.replicate n 0) /\
   KeepP B p w (w1.setCell ⟨p,2,none⟩ (.slice (some ⟨g,0,none⟩) (L.length+n) cap)):=by
 obtain⟨nL,nC,nN⟩:=h.cNe
 have hp1:=grown_heap h.heap nL hg
 have hgp:(Value.slice (some ⟨g,0,none⟩) (L.length+n) cap).ownBlock≠some p:=row_not hown hp1 (by decide)
 refine⟨?_,?_⟩
 · refine { ge:=h.ge,heap:=heap_setCell hp1 _,ans:=ints_set (ints_grown h.ans hg ?_) _ _ ?_,ansB:=h.ansB,rowC:=row_set (h.rowC.kept hg (rows_apart h.rowC h.rowL (by decide))) nC,rowL:=?_,rowN:=row_set (h.rowN.kept hg (rows_apart h.rowN h.rowL (by decide))) nN,loc:=h.loc.zeros n,locN:=by simpa using hl,accN:=h.accN,ansN:=h.ansN,ntsN:=h.ntsN }
   · intro b hb e
     have:=h.ansB b hb
     have:=(h.rowL.lt b e).1
     omega
   · intro b hb
     have:=h.ansB b hb
     have:=h.ge
     show b≠p
     omega
   · rw [List.length_append,List.length_replicate,List.map_append,List.map_replicate]
     exact row_set hown hgp
 · refine keep_field h.ge h.heap hg (fun b hb=>⟨(h.rowL.lt b hb).1,ownR_at h.heap (by simp) (i:=2) rfl hb⟩) nL rfl fun b hb=>?_
   obtain rfl:g=b:=by simpa [Value.ownBlock] using hb
   rcases hat with h1 | h1
   · exact .inl (ownR_at h.heap (by simp) (i:=2) rfl h1)
   · exact .inr h1
end
set_option maxRecDepth 100000 in
theorem set_p (B p:Nat)(S:TS)(i v:Int)(w:World)(h:Plays B w p S) :
  Calls Try.prog 55 #[.pointer (some ⟨p,0,none⟩),.int .i64 i,.int .i64 v] w fun e w'=>e=.returned (.tuple #[])/\Plays B w' p (S.upd i v)/\KeepP B p w w':=by
 by_cases h0:i<0∨32768<=i
 · rw [TS.upd_out h0]
   have h':=Lib.hid h
   obtain⟨h1,vA,vL,vC,vN,L,h⟩:=h
   have hc:=cell_of_heap h.heap
   clear h
   rcases h0 with h0 | h0
   · go_enter Try.func55,Try.ntmps55
     go_wp2_with fail
     first | go_end0 | refine bodyPost_ret (results_none rfl _ _ _) rfl ?_
     exact⟨rfl,h'.out,Keep.refl _ _ _ _⟩
   · go_enter Try.func55,Try.ntmps55
     go_wp2_with fail
     first | go_end0 | refine bodyPost_ret (results_none rfl _ _ _) rfl ?_
     exact⟨rfl,h'.out,Keep.refl _ _ _ _⟩
 · obtain⟨i,rfl⟩:∃ n:Nat,i=(n:Int):=⟨i.toNat,by omega⟩
   have hi:i<32768:=by omega
   clear h0
   have h':=Lib.hid h
   obtain⟨h1,vA,vL,vC,vN,L,h⟩:=h
   have hc:=cell_of_heap h.heap
   have hI:Ints w vL L:=IntRow.ints h.rowL
   have hLn:=h.locN
   obtain⟨A,c,rfl,hc1,hc2⟩:=hI.slice
   by_cases hin:i<L.length
   · obtain⟨g,rfl⟩:∃ g,A=some ⟨g,0,none⟩:=by
      rcases h.rowL.2 with⟨e,h0⟩ | ⟨g,cap,cur,e,_⟩
      · omega
      · injection e with e1 e2 e3
        exact⟨g,e1⟩
     obtain⟨HM,HK⟩:=h.stored i hin v
     obtain⟨b,off,he,hb,hcell⟩:=hI.at_ hin
     injection he with he
     injection he with e1 e2
     subst e1 e2
     rw [Nat.zero_add] at hcell
     have hfz:=h.rowL.frozenAt i
     have HP:Plays B _ p (S.upd i v):=⟨by rw [TS.upd_acc,TS.upd_ans];exact h1,_,_,_,_,_,HM⟩
     have HPh:=Lib.hid HP
     have HKh:=Lib.hid HK
     clear HM HK HP h hI
     go_enter Try.func55,Try.ntmps55
     go_wp2_with fail
     first | go_end0 | refine bodyPost_ret (results_none rfl _ _ _) rfl ?_
     exact⟨rfl,HPh.out,HKh.out⟩
   · by_cases hv:v=0
     · subst hv
       rw [TS.upd_zero h.loc (by omega)]
       clear h hI
       go_enter Try.func55,Try.ntmps55
       go_wp2_with fail
       first | go_end0 | refine bodyPost_ret (results_none rfl _ _ _) rfl ?_
       exact⟨rfl,h'.out,Keep.refl _ _ _ _⟩
     · have hvb:(v==0)=false:=by rw [beq_eq_false_iff_ne];exact hv
       obtain⟨i0,hi0,hz0,hz1,hz2⟩:=info_parts info_int
       obtain⟨m,hm⟩:∃ m,L.length+m=i+1:=⟨i+1-L.length,by omega⟩
       have hw:IntKind.i64.wrap (IntKind.i64.wrap ((i:Int)+1)-(L.length:Int))=(m:Int):=by rw [IntKind.wrap_i64,IntKind.wrap_i64];omega
       have hL:=Lib.hid h
       have hmh:=Lib.hid hm
       clear h hI hm
       have hm0:0<m:=by have:=hmh.out;omega
       go_enter Try.func55,Try.ntmps55
       go_wp2_with fail
       go_region_law ((refine step_append_zeros _ (by rfl) _ _ _ _ (by rfl) B 3 i0 (.int .i64 0) 8 .i64 Try.underlying24 Try.underlying3 hi0 hz0 hz1 hz2 rfl rfl (Value.slice A L.length c) L.length (L.map (Value.int .i64)) (by rfl) (World.ownsRow.drew hL.out.rowL) m (by first | rfl | (simp only [hw];done)) hm0 (by have:=hmh.out;unfold maxLen;omega) (by have:=hmh.out;omega) (by have:=hL.out.lt;have:=hL.out.ge;simp;omega) ?_;intro gg cap w1 hown1 hgrow hat;have hp1:=grown_heap hL.out.heap hL.out.cNe.1 (grown0 hgrow);have hq1:=cell_of_heap hp1;have hf1:=frozen_of_heap hp1))
       all_goals
        obtain⟨HM,HK⟩:=hL.out.grewL m (grown0 hgrow) (hat.imp id (fun e=>Nat.le_of_eq e.symm)) hown1 (by have:=hmh.out;omega)
        clear hown1 hgrow hat hp1 hq1 hf1 hc hL
        generalize w1.setCell ⟨p,2,none⟩ (.slice (some ⟨gg,0,none⟩) (L.length+m) cap)=W at *
        clear w1
        have hlen:L.length+m=(L++List.replicate m (0:Int)).length:=by simp
        rw [hlen] at HM ⊢
        have hi2:i<(L++List.replicate m (0:Int)).length:=by have:=hmh.out;omega
        generalize L++List.replicate m (0:Int)=L2 at *
        have hq:=cell_of_heap HM.heap
        obtain⟨HM2,HK2⟩:=HM.stored i hi2 v
        have hfz:=HM.rowL.frozenAt i
        have hcl:W.cell? ⟨gg,i,none⟩=some (.int .i64 (L2.getD i 0)):=by
         obtain⟨b,off,he,_,hcell⟩:=(IntRow.ints HM.rowL).at_ hi2
         injection he with he
         injection he with e1 e2
         subst e1 e2
         rw [Nat.zero_add] at hcell
         exact hcell
        have HP:Plays B _ p (S.upd i v):=⟨by rw [TS.upd_acc,TS.upd_ans];exact h1,_,_,_,_,_,HM2⟩
        have HPh:=Lib.hid HP
        have HKh:=Lib.hid (HK.trans HK2)
        clear HM HK HP HM2 HK2 hlen hmh hm0 hw hin hLn
        go_wp2_with fail
        first | go_end0 | refine bodyPost_ret (results_none rfl _ _ _) rfl ?_
        exact⟨rfl,HPh.out,HKh.out⟩
theorem wp_scope_fwd {P:Program}{a:Act}{w:World}{Q:Exit->Act->World->Prop}{c rest:Code}(l:Nat)(hf:findLabel c l=some rest)
  (first:c.wp P (Exit.jump l (fun a' w'=>rest.wp P (Exit.noGoto Q) a' w') Q) a w):(Code.scope c).wp P Q a w:=by
 refine wp_scope_jumps l (fun a' w'=>rest.wp P (Exit.noGoto Q) a' w') (fun _ _=>0) hf first fun a' w' h=>Code.wp_mono (fun e a2 w2 hq=>?_) h
 cases e <;> first | exact hq | exact hq.elim
theorem Plays.drew {B p:Nat}{w:World}{S:TS}(h:Plays B w p S):Plays B w.drew p S:=h.ext (Ext.refl w).drew
theorem Keep.drew {ix:List Nat}{B p:Nat}{w w':World}(h:Keep ix B p w w'):Keep ix B p w w'.drew:=⟨⟨h.below.os,h.below.tape,h.below.output,h.below.size,h.below.block⟩,h.rest⟩
theorem Held.drew {ix:List Nat}{p b:Nat}{w:World}{o:Obj}(h:Held ix w p b o):Held ix w.drew p b o:=h
def stopE (p:Nat):Ending:=.panicked [{ v:=.iface 51 (.agg #[.pointer (some ⟨p,0,none⟩)]),recovered:=false }]
def Post {α:Type} (enc:α->Value) (B p:Nat) (w0:World) (r:Option α × TS) (e:Ending) (w':World):Prop :=
 match r.1 with
 | some v=>e=.returned (enc v)/\Plays B w' p r.2/\KeepP B p w0 w'
 | none=>e=stopE p/\Stops B w' p r.2/\KeepP B p w0 w'
def Owes {α:Type} (R:Ending->World->Prop) (enc:α->Value) (B p:Nat) (w0:World) (r:Option α × TS):Prop:=∀ e w',Post enc B p w0 r e w'->R e w'
theorem owes {α:Type}(enc:α->Value)(B p:Nat)(w0:World)(r:Option α × TS):Owes (Post enc B p w0 r) enc B p w0 r:=fun _ _ h=>h
def encI (x:Int):Value:=.int .i64 x
def encU (_:Unit):Value:=.tuple #[]
def encB (b:Bool):Value:=.bool b
@[go_sem] theorem encI_eq (x:Int):encI x=.int .i64 x:=rfl
@[go_sem] theorem encU_eq (x:Unit):encU x=.tuple #[]:=rfl
@[go_sem] theorem encB_eq (x:Bool):encB x=.bool x:=rfl
section
variable {α β:Type} {B p:Nat} {w0 w:World} {S:TS} {R:Ending->World->Prop}
theorem Owes.done {enc:α->Value}{v:α}{w':World}(h:Owes R enc B p w0 (some v,S))(h1:Plays B w' p S)(h2:KeepP B p w0 w'):R (.returned (enc v)) w':=h _ _ ⟨rfl,h1,h2⟩
theorem Owes.stop {enc:α->Value}{w':World}(h:Owes R enc B p w0 (none,S))(h1:Stops B w' p S)(h2:KeepP B p w0 w'):R (stopE p) w':=h _ _ ⟨rfl,h1,h2⟩
theorem tstep {P:Program}{f:FuncId}{args:Array Value}{K:Ending->World->Prop}{enc:α->Value}{enc':β->Value}{T:Prog α}{g:α->Prog β}
  (hO:Owes R enc' B p w0 ((T.bind g).run S))(hB:KeepP B p w0 w)(h:Calls P f args w (Post enc B p w (T.run S)))(hp:∀ w',R (stopE p) w'->K (stopE p) w')
  (hk:∀ v S1 w1,T.run S=(some v,S1)->Plays B w1 p S1->KeepP B p w w1->KeepP B p w0 w1->Owes R enc' B p w0 ((g v).run S1)->K (.returned (enc v)) w1):Calls P f args w K:=by
 refine h.mono fun e w1 hp1=>?_
 unfold Post at hp1
 generalize hr:T.run S=r at hp1
 obtain⟨o,S1⟩:=r
 cases o with
 | some v =>
   obtain⟨rfl,h1,h2⟩:=hp1
   rw [Prog.run_bind_some hr] at hO
   exact hk v S1 w1 hr h1 h2 (hB.trans h2) hO
 | none =>
   obtain⟨rfl,h1,h2⟩:=hp1
   rw [Prog.run_bind_none hr] at hO
   exact hp w1 (hO.stop h1 (hB.trans h2))
theorem tlast {P:Program}{f:FuncId}{args:Array Value}{K:Ending->World->Prop}{enc enc':α->Value}{T:Prog α}
  (hO:Owes R enc' B p w0 (T.run S))(hB:KeepP B p w0 w)(h:Calls P f args w (Post enc B p w (T.run S)))(hp:∀ w',R (stopE p) w'->K (stopE p) w')
  (hk:∀ v S1 w1,T.run S=(some v,S1)->Plays B w1 p S1->KeepP B p w w1->KeepP B p w0 w1->Owes R enc' B p w0 (some v,S1)->K (.returned (enc v)) w1):Calls P f args w K:=by
 rw [<- Prog.bind_id T] at hO
 exact tstep hO hB h hp hk
theorem run_gt (l:Int)(g:Int->Prog α)(S:TS):((gt l).bind g).run S=(g (S.got l)).run S:=rfl
theorem run_gt1 (l:Int)(S:TS):(gt l).run S=(some (S.got l),S):=rfl
end
theorem read_p (B p:Nat)(S:TS)(c:Int)(w:World)(h:Plays B w p S):Calls Try.prog 33 #[.pointer (some ⟨p,0,none⟩),.int .i64 c] w (Post encI B p w ((rd c).run S)):=by
 cases hx:S.next with
 | some x =>
   have hr:(rd c).run S=(some x,S.put ⟨1,c,0⟩):=by simp [rd,Prog.run,hx]
   rw [hr]
   have hA:=ask_p B p S 1 c 0 x w h hx
   clear hr hx
   go_enter Try.func33,Try.ntmps33
   go_wp2_with fail
   refine hA.mono ?_
   rintro e w' ⟨rfl,h1,h2⟩
   have HH:Hid (Plays B w' p (S.put ⟨1,c,0⟩)/\KeepP B p w w'):=⟨h1,h2⟩
   clear h1 h2
   go_wp2_with fail
   go_ret
   exact⟨rfl,HH.out.1,HH.out.2⟩
 | none =>
   have hr:(rd c).run S=(none,S.put ⟨1,c,0⟩):=by simp [rd,Prog.run,hx]
   rw [hr]
   have hA:=ask_s B p S 1 c 0 w h hx
   clear hr hx
   go_enter Try.func33,Try.ntmps33
   go_wp2_with fail
   refine hA.mono ?_
   rintro e w' ⟨rfl,h1,h2⟩
   exact⟨rfl,rfl,h1,h2⟩
theorem write_p (B p:Nat)(S:TS)(c v:Int)(w:World)(h:Plays B w p S):Calls Try.prog 26 #[.pointer (some ⟨p,0,none⟩),.int .i64 c,.int .i64 v] w (Post encU B p w ((wr c v).run S)):=by
 cases hx:S.next with
 | some x =>
   have hr:(wr c v).run S=(some (),S.put ⟨2,c,v⟩):=by simp [wr,Prog.run,hx]
   rw [hr]
   have hA:=ask_p B p S 2 c v x w h hx
   clear hr hx
   go_enter Try.func26,Try.ntmps26
   go_wp2_with fail
   refine hA.mono ?_
   rintro e w' ⟨rfl,h1,h2⟩
   have HH:Hid (Plays B w' p (S.put ⟨2,c,v⟩)/\KeepP B p w w'):=⟨h1,h2⟩
   clear h1 h2
   go_wp2_with fail
   first | go_end0 | refine bodyPost_ret (results_none rfl _ _ _) rfl ?_
   exact⟨rfl,HH.out.1,HH.out.2⟩
 | none =>
   have hr:(wr c v).run S=(none,S.put ⟨2,c,v⟩):=by simp [wr,Prog.run,hx]
   rw [hr]
   have hA:=ask_s B p S 2 c v w h hx
   clear hr hx
   go_enter Try.func26,Try.ntmps26
   go_wp2_with fail
   refine hA.mono ?_
   rintro e w' ⟨rfl,h1,h2⟩
   exact⟨rfl,rfl,h1,h2⟩
theorem setO {B p:Nat}{S:TS}{i v:Int}{w:World}(h:Plays B w p S):Calls Try.prog 55 #[.pointer (some ⟨p,0,none⟩),.int .i64 i,.int .i64 v] w (Post encU B p w ((st i v).run S)) :=
 (set_p B p S i v w h).mono fun _ _ ⟨h1,h2,h3⟩=>⟨h1,h2,h3⟩
end Go.Proofs.Ytchahoiainbcaaa
namespace Kv
open Go Go.RowKit
structure Reg where
 kind:Int
 base:Int
 loc:Int
 n:Int
 wr:Int
 rd:Int
 top:Int
def bitM (v:Int):Int:=if v=0 then 0 else 1
def otherM (v:Int):Int:=if v=0 then 1 else 0
def steadyW (base loc v:Int):Prog Unit:=(gt loc).bind fun x=>if x=bitM v then .ret () else (wr base (bitM v)).bind fun _=>st loc (bitM v)
def trompW (b l v:Int):Prog Unit :=
 (gt l).bind fun x=>if x=bitM v then .ret () else
   (wr b (bitM v)).bind fun _=>(st l (bitM v)).bind fun _=>(gt (l+1)).bind fun w=>(rd (b+2)).bind fun y =>
     if y=w then (wr (b+1) (wrap64 (1-w))).bind fun _=>st (l+1) (wrap64 (1-w)) else .ret ()
def trompR3 (b l x:Int):Prog Int :=
 (rd b).bind fun y=>(st (l+3) y).bind fun _=>(rd (b+1)).bind fun y=>(gt (l+2)).bind fun g =>
   if y=g then gt (l+3) else (rd b).bind fun y=>(st (l+3) y).bind fun _=>.ret x
def trompR2 (b l x:Int):Prog Int :=
 (rd (b+1)).bind fun y=>(gt (l+2)).bind fun g=>if y=g then trompR3 b l x else
   (gt (l+2)).bind fun t=>(wr (b+2) (wrap64 (1-t))).bind fun _=>(st (l+2) (wrap64 (1-t))).bind fun _=>trompR3 b l x
def trompR (b l:Int):Prog Int :=
 (rd (b+1)).bind fun y=>(gt (l+2)).bind fun g=>if y=g then gt (l+3) else (rd b).bind fun x=>trompR2 b l x
def slotsW (b l v:Int):Prog Unit :=
 (trompR (b+13) (l+14)).bind fun y=>(gt (l+otherM y)).bind fun z=>(wr (b+(2*otherM y+otherM z)) v).bind fun _ =>
   (st (l+otherM y) (otherM z)).bind fun _=>(trompW (b+(4+3*otherM y)) (l+(2+4*otherM y)) (otherM z)).bind fun _=>trompW (b+10) (l+10) (otherM y)
def slotsR (b l:Int):Prog Int :=
 (trompR (b+10) (l+10)).bind fun y=>(trompW (b+13) (l+14) (bitM y)).bind fun _ =>
   (trompR (b+(4+3*bitM y)) (l+(2+4*bitM y))).bind fun z=>rd (b+(2*bitM y+bitM z))
def forP {σ:Type} (T:Int->σ->Prog σ):List Int->σ->Prog σ
 | [],x=>.ret x
 | a :: l,x=>(T a x).bind fun y=>forP T l y
def ranksFrom (but:Int):Nat->Int->List Int
 | 0,_=>[]
 | n+1,i=>if i=but then ranksFrom but n (i+1) else i :: ranksFrom but n (i+1)
def tableW (b l n wr top me v:Int):Prog Unit :=
 if me≠wr then .ret () else (gt l).bind fun s=>(st l (wrap64 (s+1))).bind fun _ =>
  (forP (fun a _=>slotsW (b+16*a) (l+(2+18*a)) (packI (wrap64 (s+1)) v (clamp top 1048576))) (ranksFrom (-1) (n-1).toNat 0) ()).bind fun _=>st (l+1) (clamp v (clamp top 1048576))
def tellsM (k a b:Int):Int:=k+a*(k-1)+(if b > a then b-1 else b)
def rankM (w me:Int):Int:=if me > w then me-1 else me
def tableR (b l n wr top me:Int):Prog Int :=
 if me=wr then gt (l+1) else
  (slotsR (b+16*rankM wr me) (l+(2+18*rankM wr me))).bind fun x =>
    (forP (fun i x=>(slotsR (b+16*tellsM (n-1) i (rankM wr me)) (l+(2+18*tellsM (n-1) i (rankM wr me)))).bind fun y=>.ret (max x y)) (ranksFrom (rankM wr me) (n-1).toNat 0) x).bind fun x =>
    (forP (fun i _=>slotsW (b+16*tellsM (n-1) (rankM wr me) i) (l+(2+18*tellsM (n-1) (rankM wr me) i)) x) (ranksFrom (rankM wr me) (n-1).toNat 0) ()).bind fun _=>.ret (unLo x (clamp top 1048576))
def manyTop (top:Int):Int:=packI 4095 (clamp top 255) (clamp top 255)
def manyB (b n j:Int):Int:=b+16*j*(n-1)*(n-1)
def manyL (l n j:Int):Int:=l+j*(2+18*(n-1)*(n-1))
def manyRs (b l n top me:Int):Nat->Int->Int->Int->Prog (Int × Int)
 | 0,_,s,v=>.ret (s,v)
 | k+1,j,s,v=>(tableR (manyB b n j) (manyL l n j) n j (manyTop top) me).bind fun y =>
    if s<=unHi y (clamp top 255) then manyRs b l n top me k (j+1) (unHi y (clamp top 255)) (unLo y (clamp top 255)) else manyRs b l n top me k (j+1) s v
def manyR (b l n top me:Int):Prog Int:=(manyRs b l n top me n.toNat 0 0 0).bind fun p=>.ret p.2
def manyW (b l n top me v:Int):Prog Unit :=
 (manyRs b l n top me n.toNat 0 0 0).bind fun p=>tableW (manyB b n me) (manyL l n me) n me (manyTop top) me (packI (min (p.1+1) 4095) (clamp v (clamp top 255)) (clamp top 255))
def regW (r:Reg) (me v:Int):Prog Unit:=if r.kind=1 then wr r.base v else if r.kind=6 then tableW r.base r.loc r.n r.wr r.top me v else manyW r.base r.loc r.n r.top me v
def regR (r:Reg) (me:Int):Prog Int:=if r.kind=1 then rd r.base else if r.kind=6 then tableR r.base r.loc r.n r.wr r.top me else manyR r.base r.loc r.n r.top me
structure Reg.ok (r:Reg):Prop where
 kind:r.kind=1∨r.kind=6∨r.kind=7
 base:0<=r.base/\r.base<=32768
 loc:0<=r.loc/\r.loc<=32768
 n:1<=r.n/\r.n<=8
 wr:r.kind=6->0<=r.wr/\r.wr<r.n
end Kv
namespace Go.Proofs.Ytchahoiainbcaaa
open Go.RowKit Kv
def encR (r:Reg):Value:=.agg #[.int .i64 r.kind,.int .i64 r.base,.int .i64 r.loc,.int .i64 r.n,.int .i64 r.wr,.int .i64 r.rd,.int .i64 r.top]
theorem tromp_write_p (B p:Nat)(S:TS)(r:Reg)(v:Int)(w:World)(h:Plays B w p S)(hb1:0<=r.base)(hb2:r.base<=60000)(hl1:0<=r.loc)(hl2:r.loc<=60000) :
  Calls Try.prog 29 #[.pointer (some ⟨p,0,none⟩),encR r,.int .i64 v] w (Post encU B p w ((trompW r.base r.loc v).run S)):=by
 generalize hR:Post encU B p w ((trompW r.base r.loc v).run S)=R
 have hO:Owes R encU B p w ((trompW r.base r.loc v).run S):=hR▸owes _ _ _ _ _
 clear hR
 obtain⟨kind,base,loc,n,wr,rd,top⟩:=r
 simp only at hb1 hb2 hl1 hl2 hO
 unfold encR
 obtain⟨b1,hK,hP⟩:=h.entry (.cells #[.int .i64 kind,.int .i64 base,.int .i64 loc,.int .i64 n,.int .i64 wr,.int .i64 rd,.int .i64 top] 23)
 have c_b1:=b1.cells
 clear h
 have hv:bitM v=0∨bitM v=1:=by unfold bitM;split <;> simp
 have hvb:(v != 0)=decide (bitM v=1):=by unfold bitM;by_cases hv:v=0 <;> simp [hv]
 unfold trompW at hO
 generalize bitM v=b at *
 rcases hv with rfl | rfl
 · go_enter Try.func29,Try.ntmps29
   go_wp2_with fail
   refine (get_p B p S (loc) _ hP).mono ?_
   rintro e w' ⟨rfl,rfl⟩
   rw [run_gt] at hO
   generalize S.got (loc)=x at hO ⊢
   by_cases hx:x=0
   · rw [if_pos hx] at hO
     subst hx
     go_wp2_with fail
     first | go_end0 | refine bodyPost_ret (results_none rfl _ _ _) rfl ?_
     exact hO.done hP hK
   · rw [if_neg hx] at hO
     have hx2:(x==0)=false:=by rw [beq_eq_false_iff_ne];exact hx
     go_wp2_with fail
     refine tstep hO hK (write_p B p S _ _ _ hP) (fun _ h=>⟨rfl,h⟩) ?_
     clear hO hK hP c_b1
     intro u S w1 hr hP hk hK hO
     replace b1:=b1.keep hk
     have c_b1:=b1.cells
     clear hk hr
     go_wp2_with fail
     refine tstep hO hK (setO hP) (fun _ h=>⟨rfl,h⟩) ?_
     clear hO hK hP c_b1
     intro u S w1 hr hP hk hK hO
     replace b1:=b1.keep hk
     have c_b1:=b1.cells
     clear hk hr
     go_wp2_with fail
     refine (get_p B p S (loc+1) _ hP).mono ?_
     rintro e w' ⟨rfl,rfl⟩
     rw [run_gt] at hO
     generalize S.got (loc+1)=z at hO ⊢
     go_wp2_with fail
     refine tstep hO hK (read_p B p S _ _ hP) (fun _ h=>⟨rfl,h⟩) ?_
     clear hO hK hP c_b1
     intro y S w1 hr hP hk hK hO
     replace b1:=b1.keep hk
     have c_b1:=b1.cells
     clear hk hr
     by_cases hy:y=z
     · rw [if_pos hy] at hO
       subst hy
       go_wp2_with fail
       refine tstep hO hK (write_p B p S _ _ _ hP) (fun _ h=>⟨rfl,h⟩) ?_
       clear hO hK hP c_b1
       intro u S w1 hr hP hk hK hO
       replace b1:=b1.keep hk
       have c_b1:=b1.cells
       clear hk hr
       go_wp2_with fail
       refine tlast hO hK (setO hP) (fun _ h=>⟨rfl,h⟩) ?_
       clear hO hK hP c_b1
       intro u S w1 hr hP hk hK hO
       replace b1:=b1.keep hk
       have c_b1:=b1.cells
       clear hk hr
       go_wp2_with fail
       first | go_end0 | refine bodyPost_ret (results_none rfl _ _ _) rfl ?_
       exact hO.done hP hK
     · rw [if_neg hy] at hO
       have hy2:(y==z)=false:=by rw [beq_eq_false_iff_ne];exact hy
       go_wp2_with fail
       first | go_end0 | refine bodyPost_ret (results_none rfl _ _ _) rfl ?_
       exact hO.done hP hK
 · go_enter Try.func29,Try.ntmps29
   go_wp2_with fail
   refine (get_p B p S (loc) _ hP).mono ?_
   rintro e w' ⟨rfl,rfl⟩
   rw [run_gt] at hO
   generalize S.got (loc)=x at hO ⊢
   by_cases hx:x=1
   · rw [if_pos hx] at hO
     subst hx
     go_wp2_with fail
     first | go_end0 | refine bodyPost_ret (results_none rfl _ _ _) rfl ?_
     exact hO.done hP hK
   · rw [if_neg hx] at hO
     have hx2:(x==1)=false:=by rw [beq_eq_false_iff_ne];exact hx
     go_wp2_with fail
     refine tstep hO hK (write_p B p S _ _ _ hP) (fun _ h=>⟨rfl,h⟩) ?_
     clear hO hK hP c_b1
     intro u S w1 hr hP hk hK hO
     replace b1:=b1.keep hk
     have c_b1:=b1.cells
     clear hk hr
     go_wp2_with fail
     refine tstep hO hK (setO hP) (fun _ h=>⟨rfl,h⟩) ?_
     clear hO hK hP c_b1
     intro u S w1 hr hP hk hK hO
     replace b1:=b1.keep hk
     have c_b1:=b1.cells
     clear hk hr
     go_wp2_with fail
     refine (get_p B p S (loc+1) _ hP).mono ?_
     rintro e w' ⟨rfl,rfl⟩
     rw [run_gt] at hO
     generalize S.got (loc+1)=z at hO ⊢
     go_wp2_with fail
     refine tstep hO hK (read_p B p S _ _ hP) (fun _ h=>⟨rfl,h⟩) ?_
     clear hO hK hP c_b1
     intro y S w1 hr hP hk hK hO
     replace b1:=b1.keep hk
     have c_b1:=b1.cells
     clear hk hr
     by_cases hy:y=z
     · rw [if_pos hy] at hO
       subst hy
       go_wp2_with fail
       refine tstep hO hK (write_p B p S _ _ _ hP) (fun _ h=>⟨rfl,h⟩) ?_
       clear hO hK hP c_b1
       intro u S w1 hr hP hk hK hO
       replace b1:=b1.keep hk
       have c_b1:=b1.cells
       clear hk hr
       go_wp2_with fail
       refine tlast hO hK (setO hP) (fun _ h=>⟨rfl,h⟩) ?_
       clear hO hK hP c_b1
       intro u S w1 hr hP hk hK hO
       replace b1:=b1.keep hk
       have c_b1:=b1.cells
       clear hk hr
       go_wp2_with fail
       first | go_end0 | refine bodyPost_ret (results_none rfl _ _ _) rfl ?_
       exact hO.done hP hK
     · rw [if_neg hy] at hO
       have hy2:(y==z)=false:=by rw [beq_eq_false_iff_ne];exact hy
       go_wp2_with fail
       first | go_end0 | refine bodyPost_ret (results_none rfl _ _ _) rfl ?_
       exact hO.done hP hK
set_option maxHeartbeats 2000000 in
theorem tromp_read_p (B p:Nat)(S:TS)(r:Reg)(w:World)(h:Plays B w p S)(hb1:0<=r.base)(hb2:r.base<=60000)(hl1:0<=r.loc)(hl2:r.loc<=60000) :
  Calls Try.prog 36 #[.pointer (some ⟨p,0,none⟩),encR r] w (Post encI B p w ((trompR r.base r.loc).run S)):=by
 generalize hR:Post encI B p w ((trompR r.base r.loc).run S)=R
 have hO:Owes R encI B p w ((trompR r.base r.loc).run S):=hR▸owes _ _ _ _ _
 clear hR
 obtain⟨kind,base,loc,n,wr,rd,top⟩:=r
 simp only at hb1 hb2 hl1 hl2 hO
 unfold encR
 obtain⟨b1,hK,hP⟩:=h.entry (.cells #[.int .i64 kind,.int .i64 base,.int .i64 loc,.int .i64 n,.int .i64 wr,.int .i64 rd,.int .i64 top] 23)
 have c_b1:=b1.cells
 clear h
 unfold trompR at hO
 go_enter Try.func36,Try.ntmps36
 go_wp2_with fail
 refine wp_scope_fwd 0 rfl ?_
 go_wp2_with fail
 have hwb:=IntWalk.i64_in (base+1) (by omega)
 have hwv:=IntWalk.i64_in (loc+3) (by omega)
 have hw0:=IntWalk.i64_in base (by omega)
 have hwl:=IntWalk.i64_in (loc+2) (by omega)
 replace hP:=hP.drew
 replace hK:=hK.drew
 replace b1:=b1.drew
 go_region_held2 (fun w'=>w'.cell? ⟨w.heap.size,1,none⟩=some (.int .i64 base)/\w'.cell? ⟨w.heap.size,2,none⟩=some (.int .i64 loc)) (first | go_keep | exact⟨c_b1 1,c_b1 2⟩)
  (first
    | (go_at_call 33
       refine tstep hO hK (read_p B p S _ _ hP) (fun _ h=>⟨rfl,h⟩) ?_
       clear hO hK hP c_b1
       intro y S w1 hr hP hk hK hO
       replace b1:=b1.keep hk
       have c_b1:=b1.cells
       clear hk hr)
    | (go_at_call 54
       refine (get_p B p S (loc+2) _ hP).mono ?_
       rintro e w' ⟨rfl,rfl⟩
       rw [run_gt] at hO
       generalize S.got (loc+2)=g at hO ⊢))
 by_cases hy:y=g
 · rw [if_pos hy] at hO
   subst hy
   go_wp2_with fail
   refine (get_p B p S (loc+3) _ hP).mono ?_
   rintro e w' ⟨rfl,rfl⟩
   rw [run_gt1] at hO
   generalize S.got (loc+3)=z at hO ⊢
   go_wp2_with fail
   apply wp_goto
   refine⟨rfl,?_⟩
   go_wp2_with fail
   exact hO.done hP hK
 · rw [if_neg hy] at hO
   have hy2:(y==g)=false:=by rw [beq_eq_false_iff_ne];exact hy
   go_wp2_with fail
   refine tstep hO hK (read_p B p S _ _ hP) (fun _ h=>⟨rfl,h⟩) ?_
   clear hO hK hP c_b1
   intro x S w1 hr hP hk hK hO
   replace b1:=b1.keep hk
   have c_b1:=b1.cells
   clear hk hr
   unfold trompR2 at hO
   clear hy2 hy
   go_wp2_with fail
   replace hP:=hP.drew
   replace hK:=hK.drew
   replace b1:=b1.drew
   go_region_held2 (fun w'=>w'.cell? ⟨w.heap.size,1,none⟩=some (.int .i64 base)/\w'.cell? ⟨w.heap.size,2,none⟩=some (.int .i64 loc)) (first | go_keep | exact⟨c_b1 1,c_b1 2⟩)
    (first
      | (go_at_call 33
         refine tstep hO hK (read_p B p S _ _ hP) (fun _ h=>⟨rfl,h⟩) ?_
         clear hO hK hP c_b1
         intro y S w1 hr hP hk hK hO
         replace b1:=b1.keep hk
         have c_b1:=b1.cells
         clear hk hr)
      | (go_at_call 54
         refine (get_p B p S (loc+2) _ hP).mono ?_
         rintro e w' ⟨rfl,rfl⟩
         rw [run_gt] at hO
         generalize S.got (loc+2)=g at hO ⊢))
   by_cases hy:y=g
   · rw [if_pos hy] at hO
     subst hy
     go_wp2_with fail
     unfold trompR3 at hO
     replace hP:=hP.drew
     replace hK:=hK.drew
     replace b1:=b1.drew
     go_region_held2 (fun w'=>w'.cell? ⟨w.heap.size,1,none⟩=some (.int .i64 base)/\w'.cell? ⟨w.heap.size,2,none⟩=some (.int .i64 loc)) (first | go_keep | exact⟨c_b1 1,c_b1 2⟩)
      (first
        | (go_at_call 33
           refine tstep hO hK (read_p B p S _ _ hP) (fun _ h=>⟨rfl,h⟩) ?_
           clear hO hK hP c_b1
           intro y S w1 hr hP hk hK hO
           replace b1:=b1.keep hk
           have c_b1:=b1.cells
           clear hk hr)
        | (go_at_call 55
           refine tstep hO hK (setO hP) (fun _ h=>⟨rfl,h⟩) ?_
           clear hO hK hP c_b1
           intro u S w1 hr hP hk hK hO
           replace b1:=b1.keep hk
           have c_b1:=b1.cells
           clear hk hr))
     go_wp2_with fail
     replace hP:=hP.drew
     replace hK:=hK.drew
     replace b1:=b1.drew
     go_region_held2 (fun w'=>w'.cell? ⟨w.heap.size,1,none⟩=some (.int .i64 base)/\w'.cell? ⟨w.heap.size,2,none⟩=some (.int .i64 loc)) (first | go_keep | exact⟨c_b1 1,c_b1 2⟩)
      (first
        | (go_at_call 33
           refine tstep hO hK (read_p B p S _ _ hP) (fun _ h=>⟨rfl,h⟩) ?_
           clear hO hK hP c_b1
           intro y S w1 hr hP hk hK hO
           replace b1:=b1.keep hk
           have c_b1:=b1.cells
           clear hk hr)
        | (go_at_call 54
           refine (get_p B p S (loc+2) _ hP).mono ?_
           rintro e w' ⟨rfl,rfl⟩
           rw [run_gt] at hO
           generalize S.got (loc+2)=g at hO ⊢))
     by_cases hy:y=g
     · rw [if_pos hy] at hO
       subst hy
       go_wp2_with fail
       refine (get_p B p S (loc+3) _ hP).mono ?_
       rintro e w' ⟨rfl,rfl⟩
       rw [run_gt1] at hO
       generalize S.got (loc+3)=z at hO ⊢
       go_wp2_with fail
       apply wp_goto
       refine⟨rfl,?_⟩
       go_wp2_with fail
       exact hO.done hP hK
     · rw [if_neg hy] at hO
       have hy2:(y==g)=false:=by rw [beq_eq_false_iff_ne];exact hy
       go_wp2_with fail
       replace hP:=hP.drew
       replace hK:=hK.drew
       replace b1:=b1.drew
       go_region_held2 (fun w'=>w'.cell? ⟨w.heap.size,1,none⟩=some (.int .i64 base)/\w'.cell? ⟨w.heap.size,2,none⟩=some (.int .i64 loc)) (first | go_keep | exact⟨c_b1 1,c_b1 2⟩)
        (first
          | (go_at_call 33
             refine tstep hO hK (read_p B p S _ _ hP) (fun _ h=>⟨rfl,h⟩) ?_
             clear hO hK hP c_b1
             intro y S w1 hr hP hk hK hO
             replace b1:=b1.keep hk
             have c_b1:=b1.cells
             clear hk hr)
          | (go_at_call 55
             refine tstep hO hK (setO hP) (fun _ h=>⟨rfl,h⟩) ?_
             clear hO hK hP c_b1
             intro u S w1 hr hP hk hK hO
             replace b1:=b1.keep hk
             have c_b1:=b1.cells
             clear hk hr))
       go_wp2_with fail
       apply wp_goto
       refine⟨rfl,?_⟩
       go_wp2_with fail
       exact hO.done hP hK
   · rw [if_neg hy] at hO
     have hy2:(y==g)=false:=by rw [beq_eq_false_iff_ne];exact hy
     go_wp2_with fail
     refine (get_p B p S (loc+2) _ hP).mono ?_
     rintro e w' ⟨rfl,rfl⟩
     rw [run_gt] at hO
     generalize S.got (loc+2)=t at hO ⊢
     go_wp2_with fail
     refine tstep hO hK (write_p B p S _ _ _ hP) (fun _ h=>⟨rfl,h⟩) ?_
     clear hO hK hP c_b1
     intro u S w1 hr hP hk hK hO
     replace b1:=b1.keep hk
     have c_b1:=b1.cells
     clear hk hr
     go_wp2_with fail
     refine tstep hO hK (setO hP) (fun _ h=>⟨rfl,h⟩) ?_
     clear hO hK hP c_b1
     intro u S w1 hr hP hk hK hO
     replace b1:=b1.keep hk
     have c_b1:=b1.cells
     clear hk hr
     clear hy2 hy
     go_wp2_with fail
     unfold trompR3 at hO
     replace hP:=hP.drew
     replace hK:=hK.drew
     replace b1:=b1.drew
     go_region_held2 (fun w'=>w'.cell? ⟨w.heap.size,1,none⟩=some (.int .i64 base)/\w'.cell? ⟨w.heap.size,2,none⟩=some (.int .i64 loc)) (first | go_keep | exact⟨c_b1 1,c_b1 2⟩)
      (first
        | (go_at_call 33
           refine tstep hO hK (read_p B p S _ _ hP) (fun _ h=>⟨rfl,h⟩) ?_
           clear hO hK hP c_b1
           intro y S w1 hr hP hk hK hO
           replace b1:=b1.keep hk
           have c_b1:=b1.cells
           clear hk hr)
        | (go_at_call 55
           refine tstep hO hK (setO hP) (fun _ h=>⟨rfl,h⟩) ?_
           clear hO hK hP c_b1
           intro u S w1 hr hP hk hK hO
           replace b1:=b1.keep hk
           have c_b1:=b1.cells
           clear hk hr))
     go_wp2_with fail
     replace hP:=hP.drew
     replace hK:=hK.drew
     replace b1:=b1.drew
     go_region_held2 (fun w'=>w'.cell? ⟨w.heap.size,1,none⟩=some (.int .i64 base)/\w'.cell? ⟨w.heap.size,2,none⟩=some (.int .i64 loc)) (first | go_keep | exact⟨c_b1 1,c_b1 2⟩)
      (first
        | (go_at_call 33
           refine tstep hO hK (read_p B p S _ _ hP) (fun _ h=>⟨rfl,h⟩) ?_
           clear hO hK hP c_b1
           intro y S w1 hr hP hk hK hO
           replace b1:=b1.keep hk
           have c_b1:=b1.cells
           clear hk hr)
        | (go_at_call 54
           refine (get_p B p S (loc+2) _ hP).mono ?_
           rintro e w' ⟨rfl,rfl⟩
           rw [run_gt] at hO
           generalize S.got (loc+2)=g at hO ⊢))
     by_cases hy:y=g
     · rw [if_pos hy] at hO
       subst hy
       go_wp2_with fail
       refine (get_p B p S (loc+3) _ hP).mono ?_
       rintro e w' ⟨rfl,rfl⟩
       rw [run_gt1] at hO
       generalize S.got (loc+3)=z at hO ⊢
       go_wp2_with fail
       apply wp_goto
       refine⟨rfl,?_⟩
       go_wp2_with fail
       exact hO.done hP hK
     · rw [if_neg hy] at hO
       have hy2:(y==g)=false:=by rw [beq_eq_false_iff_ne];exact hy
       go_wp2_with fail
       replace hP:=hP.drew
       replace hK:=hK.drew
       replace b1:=b1.drew
       go_region_held2 (fun w'=>w'.cell? ⟨w.heap.size,1,none⟩=some (.int .i64 base)/\w'.cell? ⟨w.heap.size,2,none⟩=some (.int .i64 loc)) (first | go_keep | exact⟨c_b1 1,c_b1 2⟩)
        (first
          | (go_at_call 33
             refine tstep hO hK (read_p B p S _ _ hP) (fun _ h=>⟨rfl,h⟩) ?_
             clear hO hK hP c_b1
             intro y S w1 hr hP hk hK hO
             replace b1:=b1.keep hk
             have c_b1:=b1.cells
             clear hk hr)
          | (go_at_call 55
             refine tstep hO hK (setO hP) (fun _ h=>⟨rfl,h⟩) ?_
             clear hO hK hP c_b1
             intro u S w1 hr hP hk hK hO
             replace b1:=b1.keep hk
             have c_b1:=b1.cells
             clear hk hr))
       go_wp2_with fail
       apply wp_goto
       refine⟨rfl,?_⟩
       go_wp2_with fail
       exact hO.done hP hK
theorem other_p (b:Int)(w:World):Calls Try.prog 58 #[.int .i64 b] w fun e w'=>e=.returned (.int .i64 (otherM b))/\w=w':=by
 unfold otherM
 by_cases hb:b=0
 · subst hb
   go_enter Try.func58,Try.ntmps58
   go_wp2_with fail
   go_ret
   exact⟨rfl,rfl⟩
 · have hb2:(b==0)=false:=by rw [beq_eq_false_iff_ne];exact hb
   rw [if_neg hb]
   go_enter Try.func58,Try.ntmps58
   go_wp2_with fail
   go_ret
   exact⟨rfl,rfl⟩
theorem same_p (b:Int)(w:World):Calls Try.prog 73 #[.int .i64 b] w fun e w'=>e=.returned (.int .i64 (bitM b))/\w=w':=by
 have h:=other_p b
 unfold otherM at h
 unfold bitM
 by_cases hb:b=0
 · subst hb
   rw [if_pos rfl] at h
   rw [if_pos rfl]
   go_enter Try.func73,Try.ntmps73
   go_wp2_with fail
   refine (h _).mono ?_
   rintro e w' ⟨rfl,rfl⟩
   go_wp2_with fail
   go_ret
   exact⟨rfl,rfl⟩
 · rw [if_neg hb] at h
   rw [if_neg hb]
   go_enter Try.func73,Try.ntmps73
   go_wp2_with fail
   refine (h _).mono ?_
   rintro e w' ⟨rfl,rfl⟩
   go_wp2_with fail
   go_ret
   exact⟨rfl,rfl⟩
theorem index2_0 (w:World):(Instr.index 81 (.agg #[.int .i64 0,.int .i64 1]) (.int .i64 0)).run Try.prog w=.ok (.int .i64 0) w:=by kernel_rfl
theorem index2_1 (w:World):(Instr.index 81 (.agg #[.int .i64 0,.int .i64 1]) (.int .i64 1)).run Try.prog w=.ok (.int .i64 1) w:=by kernel_rfl
set_option maxRecDepth 100000 in
theorem slot_p (q:Int)(w:World)(h:q=0∨q=1):Calls Try.prog 61 #[.int .i64 q] w fun e w'=>e=.returned (.int .i64 q)/\Ext w w':=by
 have h0:=index2_0
 have h1:=index2_1
 rcases h with rfl | rfl
 all_goals
  go_enter Try.func61,Try.ntmps61
  go_wp2_with fail
  go_ret
  exact⟨rfl,Ext.refl _⟩
theorem sbit_p (r:Reg)(n:Int)(w:World)(hn:0<=n/\n<=3)(hb1:0<=r.base)(hb2:r.base<=60000)(hl1:0<=r.loc)(hl2:r.loc<=60000) :
  Calls Try.prog 59 #[encR r,.int .i64 n] w fun e w'=>e=.returned (encR { r with kind:=4,base:=r.base+(4+3*n),loc:=r.loc+(2+4*n),top:=1 })/\Ext w w':=by
 obtain⟨kind,base,loc,nn,wr,rd,top⟩:=r
 simp only at hb1 hb2 hl1 hl2
 unfold encR
 go_enter Try.func59,Try.ntmps59
 go_wp2_with fail
 refine bodyPost_ret (v:=.agg #[.int .i64 4,.int .i64 (base+(4+3*n)),.int .i64 (loc+(2+4*n)),.int .i64 nn,.int .i64 wr,.int .i64 rd,.int .i64 1]) (by simp [results,Try.results59,go_sem]) rfl ?_
 exact⟨rfl,((Ext.refl _).alloc _).alloc _⟩
theorem scell_p (r:Reg)(q i:Int)(w:World)(hq:q=0∨q=1)(hi:i=0∨i=1)(hb1:0<=r.base)(hb2:r.base<=60000) :
  Calls Try.prog 60 #[encR r,.int .i64 q,.int .i64 i] w fun e w'=>e=.returned (.int .i64 (r.base+(2*q+i)))/\Ext w w':=by
 obtain⟨kind,base,loc,nn,wr,rd,top⟩:=r
 simp only at hb1 hb2
 unfold encR
 rcases hq with rfl | rfl <;> rcases hi with rfl | rfl
 all_goals
  go_enter Try.func60,Try.ntmps60
  go_wp2_with fail
  go_quiet (fail)
  go_wp2_with fail
  go_ret
  exact⟨ret_int (by show _=_;omega),(((Ext.refl _).alloc _).alloc _).drewN _⟩
theorem other_01 (y:Int):otherM y=0∨otherM y=1:=by unfold otherM;split <;> simp
theorem bit_01 (y:Int):bitM y=0∨bitM y=1:=by unfold bitM;split <;> simp
set_option maxHeartbeats 2000000 in
theorem slots_write_p (B p:Nat)(S:TS)(r:Reg)(v:Int)(w:World)(h:Plays B w p S)(hb1:0<=r.base)(hb2:r.base<=59000)(hl1:0<=r.loc)(hl2:r.loc<=59000) :
  Calls Try.prog 30 #[.pointer (some ⟨p,0,none⟩),encR r,.int .i64 v] w (Post encU B p w ((slotsW r.base r.loc v).run S)):=by
 generalize hR:Post encU B p w ((slotsW r.base r.loc v).run S)=R
 have hO:Owes R encU B p w ((slotsW r.base r.loc v).run S):=hR▸owes _ _ _ _ _
 clear hR
 obtain⟨kind,base,loc,n,wr,rd,top⟩:=r
 simp only at hb1 hb2 hl1 hl2 hO
 unfold encR
 obtain⟨b1,hK,hP⟩:=h.entry (.cells #[.int .i64 kind,.int .i64 base,.int .i64 loc,.int .i64 n,.int .i64 wr,.int .i64 rd,.int .i64 top] 23)
 have c_b1:=b1.cells
 clear h
 unfold slotsW at hO
 go_enter Try.func30,Try.ntmps30
 go_wp2_with fail
 refine (sbit_p ⟨kind,base,loc,n,wr,rd,top⟩ 3 _ (by omega) hb1 (by simp only;omega) hl1 (by simp only;omega)).mono ?_
 rintro e w2 ⟨rfl,hx⟩
 clear c_b1
 replace hK:=hK.trans (Keep.of_ext hx hP.lt hP.le)
 replace b1:=b1.ext hx hP.lt
 have c_b1:=b1.cells
 replace hP:=hP.ext hx
 clear hx
 go_wp2_with fail
 refine tstep hO hK (tromp_read_p B p S ⟨4,base+13,loc+14,n,wr,rd,1⟩ _ hP (by simp only;omega) (by simp only;omega) (by simp only;omega) (by simp only;omega)) (fun _ h=>⟨rfl,h⟩) ?_
 clear hO hK hP c_b1
 intro y S w1 hr hP hk hK hO
 replace b1:=b1.keep hk
 have c_b1:=b1.cells
 clear hk hr
 go_wp2_with fail
 refine (other_p y _).mono ?_
 rintro e w' ⟨rfl,rfl⟩
 have hq:=other_01 y
 generalize otherM y=q at *
 have hq0:0<=q/\q<=1:=by omega
 go_wp2_with fail
 refine (get_p B p S (loc+q) _ hP).mono ?_
 rintro e w' ⟨rfl,rfl⟩
 rw [run_gt] at hO
 generalize S.got (loc+q)=z at hO ⊢
 go_wp2_with fail
 refine (other_p z _).mono ?_
 rintro e w' ⟨rfl,rfl⟩
 have hi:=other_01 z
 generalize otherM z=i at *
 have hi0:0<=i/\i<=1:=by omega
 go_wp2_with fail
 refine (scell_p ⟨kind,base,loc,n,wr,rd,top⟩ q i _ hq hi hb1 (by simp only;omega)).mono ?_
 rintro e w2 ⟨rfl,hx⟩
 clear c_b1
 replace hK:=hK.trans (Keep.of_ext hx hP.lt hP.le)
 replace b1:=b1.ext hx hP.lt
 have c_b1:=b1.cells
 replace hP:=hP.ext hx
 clear hx
 go_wp2_with fail
 refine tstep hO hK (write_p B p S _ _ _ hP) (fun _ h=>⟨rfl,h⟩) ?_
 clear hO hK hP c_b1
 intro u S w1 hr hP hk hK hO
 replace b1:=b1.keep hk
 have c_b1:=b1.cells
 clear hk hr
 go_wp2_with fail
 refine tstep hO hK (setO hP) (fun _ h=>⟨rfl,h⟩) ?_
 clear hO hK hP c_b1
 intro u S w1 hr hP hk hK hO
 replace b1:=b1.keep hk
 have c_b1:=b1.cells
 clear hk hr
 go_wp2_with fail
 replace hP:=hP.drew
 replace hK:=hK.drew
 replace b1:=b1.drew
 go_region_held2 (fun w'=>∀ i:Nat,w'.cell? ⟨w.heap.size,i,none⟩=(#[.int .i64 kind,.int .i64 base,.int .i64 loc,.int .i64 n,.int .i64 wr,.int .i64 rd,.int .i64 top]:Array Value)[i]?) (first | go_keep | exact c_b1)
  (first
    | (go_at_call 61
       refine (slot_p q _ hq).mono ?_
       rintro e w2 ⟨rfl,hx⟩
       clear c_b1
       replace hK:=hK.trans (Keep.of_ext hx hP.lt hP.le)
       replace b1:=b1.ext hx hP.lt
       have c_b1:=b1.cells
       replace hP:=hP.ext hx
       clear hx)
    | (go_at_call 59
       refine (sbit_p ⟨kind,base,loc,n,wr,rd,top⟩ q _ (by omega) hb1 (by simp only;omega) hl1 (by simp only;omega)).mono ?_
       rintro e w2 ⟨rfl,hx⟩
       clear c_b1
       replace hK:=hK.trans (Keep.of_ext hx hP.lt hP.le)
       replace b1:=b1.ext hx hP.lt
       have c_b1:=b1.cells
       replace hP:=hP.ext hx
       clear hx)
    | (go_at_call 29
       refine tstep hO hK (tromp_write_p B p S ⟨4,base+(4+3*q),loc+(2+4*q),n,wr,rd,1⟩ i _ hP (by simp only;omega) (by simp only;omega) (by simp only;omega) (by simp only;omega)) (fun _ h=>⟨rfl,h⟩) ?_
       clear hO hK hP c_b1
       intro u S w1 hr hP hk hK hO
       replace b1:=b1.keep hk
       have c_b1:=b1.cells
       clear hk hr))
 go_wp2_with fail
 refine (sbit_p ⟨kind,base,loc,n,wr,rd,top⟩ 2 _ (by omega) hb1 (by simp only;omega) hl1 (by simp only;omega)).mono ?_
 rintro e w2 ⟨rfl,hx⟩
 clear c_b1
 replace hK:=hK.trans (Keep.of_ext hx hP.lt hP.le)
 replace b1:=b1.ext hx hP.lt
 have c_b1:=b1.cells
 replace hP:=hP.ext hx
 clear hx
 go_wp2_with fail
 refine tlast hO hK (tromp_write_p B p S ⟨4,base+10,loc+10,n,wr,rd,1⟩ q _ hP (by simp only;omega) (by simp only;omega) (by simp only;omega) (by simp only;omega)) (fun _ h=>⟨rfl,h⟩) ?_
 clear hO hK hP c_b1
 intro u S w1 hr hP hk hK hO
 replace b1:=b1.keep hk
 have c_b1:=b1.cells
 clear hk hr
 go_wp2_with fail
 first | go_end0 | refine bodyPost_ret (results_none rfl _ _ _) rfl ?_
 exact hO.done hP hK
set_option maxHeartbeats 2000000 in
theorem slots_read_p (B p:Nat)(S:TS)(r:Reg)(w:World)(h:Plays B w p S)(hb1:0<=r.base)(hb2:r.base<=59000)(hl1:0<=r.loc)(hl2:r.loc<=59000) :
  Calls Try.prog 37 #[.pointer (some ⟨p,0,none⟩),encR r] w (Post encI B p w ((slotsR r.base r.loc).run S)):=by
 generalize hR:Post encI B p w ((slotsR r.base r.loc).run S)=R
 have hO:Owes R encI B p w ((slotsR r.base r.loc).run S):=hR▸owes _ _ _ _ _
 clear hR
 obtain⟨kind,base,loc,n,wr,rd,top⟩:=r
 simp only at hb1 hb2 hl1 hl2 hO
 unfold encR
 obtain⟨b1,hK,hP⟩:=h.entry (.cells #[.int .i64 kind,.int .i64 base,.int .i64 loc,.int .i64 n,.int .i64 wr,.int .i64 rd,.int .i64 top] 23)
 have c_b1:=b1.cells
 clear h
 unfold slotsR at hO
 go_enter Try.func37,Try.ntmps37
 go_wp2_with fail
 refine (sbit_p ⟨kind,base,loc,n,wr,rd,top⟩ 2 _ (by omega) hb1 (by simp only;omega) hl1 (by simp only;omega)).mono ?_
 rintro e w2 ⟨rfl,hx⟩
 clear c_b1
 replace hK:=hK.trans (Keep.of_ext hx hP.lt hP.le)
 replace b1:=b1.ext hx hP.lt
 have c_b1:=b1.cells
 replace hP:=hP.ext hx
 clear hx
 go_wp2_with fail
 refine tstep hO hK (tromp_read_p B p S ⟨4,base+10,loc+10,n,wr,rd,1⟩ _ hP (by simp only;omega) (by simp only;omega) (by simp only;omega) (by simp only;omega)) (fun _ h=>⟨rfl,h⟩) ?_
 clear hO hK hP c_b1
 intro y S w1 hr hP hk hK hO
 replace b1:=b1.keep hk
 have c_b1:=b1.cells
 clear hk hr
 go_wp2_with fail
 refine (same_p y _).mono ?_
 rintro e w' ⟨rfl,rfl⟩
 have hq:=bit_01 y
 generalize bitM y=q at *
 have hq0:0<=q/\q<=1:=by omega
 go_wp2_with fail
 refine (sbit_p ⟨kind,base,loc,n,wr,rd,top⟩ 3 _ (by omega) hb1 (by simp only;omega) hl1 (by simp only;omega)).mono ?_
 rintro e w2 ⟨rfl,hx⟩
 clear c_b1
 replace hK:=hK.trans (Keep.of_ext hx hP.lt hP.le)
 replace b1:=b1.ext hx hP.lt
 have c_b1:=b1.cells
 replace hP:=hP.ext hx
 clear hx
 go_wp2_with fail
 refine tstep hO hK (tromp_write_p B p S ⟨4,base+13,loc+14,n,wr,rd,1⟩ q _ hP (by simp only;omega) (by simp only;omega) (by simp only;omega) (by simp only;omega)) (fun _ h=>⟨rfl,h⟩) ?_
 clear hO hK hP c_b1
 intro u S w1 hr hP hk hK hO
 replace b1:=b1.keep hk
 have c_b1:=b1.cells
 clear hk hr
 go_wp2_with fail
 replace hP:=hP.drew
 replace hK:=hK.drew
 replace b1:=b1.drew
 go_region_held2 (fun w'=>∀ i:Nat,w'.cell? ⟨w.heap.size,i,none⟩=(#[.int .i64 kind,.int .i64 base,.int .i64 loc,.int .i64 n,.int .i64 wr,.int .i64 rd,.int .i64 top]:Array Value)[i]?) (first | go_keep | exact c_b1)
  (first
    | (go_at_call 61
       refine (slot_p q _ hq).mono ?_
       rintro e w2 ⟨rfl,hx⟩
       clear c_b1
       replace hK:=hK.trans (Keep.of_ext hx hP.lt hP.le)
       replace b1:=b1.ext hx hP.lt
       have c_b1:=b1.cells
       replace hP:=hP.ext hx
       clear hx)
    | (go_at_call 59
       refine (sbit_p ⟨kind,base,loc,n,wr,rd,top⟩ q _ (by omega) hb1 (by simp only;omega) hl1 (by simp only;omega)).mono ?_
       rintro e w2 ⟨rfl,hx⟩
       clear c_b1
       replace hK:=hK.trans (Keep.of_ext hx hP.lt hP.le)
       replace b1:=b1.ext hx hP.lt
       have c_b1:=b1.cells
       replace hP:=hP.ext hx
       clear hx)
    | (go_at_call 36
       refine tstep hO hK (tromp_read_p B p S ⟨4,base+(4+3*q),loc+(2+4*q),n,wr,rd,1⟩ _ hP (by simp only;omega) (by simp only;omega) (by simp only;omega) (by simp only;omega)) (fun _ h=>⟨rfl,h⟩) ?_
       clear hO hK hP c_b1
       intro z S w1 hr hP hk hK hO
       replace b1:=b1.keep hk
       have c_b1:=b1.cells
       clear hk hr)
    | (go_at_call 73
       refine (same_p z _).mono ?_
       rintro e w' ⟨rfl,rfl⟩))
 have hi:=bit_01 z
 generalize bitM z=i at *
 have hi0:0<=i/\i<=1:=by omega
 go_wp2_with fail
 refine (scell_p ⟨kind,base,loc,n,wr,rd,top⟩ q i _ hq hi hb1 (by simp only;omega)).mono ?_
 rintro e w2 ⟨rfl,hx⟩
 clear c_b1
 replace hK:=hK.trans (Keep.of_ext hx hP.lt hP.le)
 replace b1:=b1.ext hx hP.lt
 have c_b1:=b1.cells
 replace hP:=hP.ext hx
 clear hx
 go_wp2_with fail
 refine tlast hO hK (read_p B p S _ _ hP) (fun _ h=>⟨rfl,h⟩) ?_
 clear hO hK hP c_b1
 intro x S w1 hr hP hk hK hO
 replace b1:=b1.keep hk
 have c_b1:=b1.cells
 clear hk hr
 go_wp2_with fail
 exact hO.done hP hK
theorem within_any (n lo hi:Int)(w:World) :
  Calls Try.prog 52 #[.int .i64 n,.int .i64 lo,.int .i64 hi] w fun e w'=>e=.returned (.int .i64 (within n lo hi))/\w=w':=by
 unfold within
 go_enter Try.func52,Try.ntmps52
 go_wp2
 all_goals go_ret
 all_goals simp [*]
theorem clamp_p (n top:Int)(w:World) :
  Calls Try.prog 63 #[.int .i64 n,.int .i64 top] w fun e w'=>e=.returned (.int .i64 (clamp n top))/\w=w':=by
 go_enter Try.func63,Try.ntmps63
 go_wp2
 all_goals go_ret
 all_goals exact⟨ret_int (by unfold clamp within;omega),rfl⟩
theorem clamp_r (n top:Int)(w:World) :
  Calls Try.prog 48 #[.int .i64 n,.int .i64 top] w fun e w'=>e=.returned (.int .i64 (clamp n top))/\w=w':=by
 go_enter Try.func48,Try.ntmps48
 go_wp2_with (go_at_call 52;refine (within_any _ _ _ _).mono ?_;rintro e w' ⟨rfl,rfl⟩)
 go_ret
 exact⟨rfl,rfl⟩
theorem wrap_r (n top:Int)(w:World) :
  Calls Try.prog 22 #[.int .i64 n,.int .i64 top] w fun e w'=>e=.returned (.int .i64 (wrapI n top))/\w=w':=by
 have h1:=within_bd top 0 1099511627776 (by omega)
 have he:=clamp_word top
 have h2:=tmod_neg_fix n (clamp top 1099511627776+1) (by omega)
 have h3:=tmod_pos_fix n (clamp top 1099511627776+1) (by omega)
 have h4:=Int.emod_lt_of_pos n (b:=clamp top 1099511627776+1) (by omega)
 have h5:=Int.emod_nonneg n (b:=clamp top 1099511627776+1) (by omega)
 rw [he] at h2 h3 h4 h5
 have H:Hid ((n.tmod (within top 0 1099511627776+1)<0->wrap64 (n.tmod (within top 0 1099511627776+1)+(within top 0 1099511627776+1))=wrapI n top)/\(0<=n.tmod (within top 0 1099511627776+1)->n.tmod (within top 0 1099511627776+1)=wrapI n top)):=by
  unfold wrapI
  rw [he]
  refine⟨fun h=>?_,fun h=>?_⟩
  · rw [h2 h,w64 _ (by omega) (by omega)]
  · rw [h3 h]
 clear h2 h3 h4 h5 he
 go_enter Try.func22,Try.ntmps22
 go_wp2_with (go_at_call 52;refine (within_any _ _ _ _).mono ?_;rintro e w' ⟨rfl,rfl⟩)
 all_goals go_ret
 · exact⟨ret_int (H.out.1 ‹_›),rfl⟩
 · exact⟨ret_int (H.out.2 ‹_›),rfl⟩
theorem pack_p (hi lo top:Int)(w:World) :
  Calls Try.prog 64 #[.int .i64 hi,.int .i64 lo,.int .i64 top] w fun e w'=>e=.returned (.int .i64 (packI hi lo top))/\w=w':=by
 go_enter Try.func64,Try.ntmps64
 go_wp2_with fail
 refine (clamp_p _ _ _).mono ?_
 rintro e w' ⟨rfl,rfl⟩
 rw [clamp_room]
 have h1:=room_bd hi
 have h2:=room_bd top
 have h3:=within_bd lo 0 (room top) h2.1
 have h4:0<=room hi*(room top+1):=Int.mul_nonneg h1.1 (by omega)
 have h5:room hi*(room top+1)<=1048576*1048577:=Int.mul_le_mul h1.2 (by omega) (by omega) (by omega)
 go_wp2_with fail
 refine (clamp_p _ _ _).mono ?_
 rintro e w' ⟨rfl,rfl⟩
 rw [clamp_room]
 go_wp2_with fail
 refine (clamp_p _ _ _).mono ?_
 rintro e w' ⟨rfl,rfl⟩
 rw [clamp_of_room]
 go_wp2
 go_ret
 exact⟨rfl,rfl⟩
theorem unpack_p (x top:Int)(w:World) :
  Calls Try.prog 76 #[.int .i64 x,.int .i64 top] w fun e w'=>e=.returned (.tuple #[.int .i64 (unHi x top),.int .i64 (unLo x top)])/\Drew w w':=by
 have h2:=room_bd top
 have h3:=unX_bd x
 have hx:Hid (max 0 (min x 4398046511104)=unX x):=by unfold unX within;show max 0 (min x 4398046511104)=_;omega
 go_enter Try.func76,Try.ntmps76
 go_wp2_with fail
 refine (clamp_p _ _ _).mono ?_
 rintro e w' ⟨rfl,rfl⟩
 rw [clamp_room]
 go_wp2
 rw [hx.out]
 go_quiet (fail)
 go_wp2
 go_ret2
 exact⟨rfl,Drew.mk' _ _⟩
theorem threads_p (n:Int)(w:World)(h1:1<=n)(h2:n<=8):Calls Try.prog 66 #[.int .i64 n] w fun e w'=>e=.returned (.int .i64 n)/\w=w':=by
 go_enter Try.func66,Try.ntmps66
 go_wp2_with fail
 go_ret
 exact⟨ret_int (by show _=_;omega),rfl⟩
theorem writer_p (r:Reg)(w:World)(h1:1<=r.n)(h2:r.n<=8)(h3:0<=r.wr)(h4:r.wr<r.n):Calls Try.prog 62 #[encR r] w fun e w'=>e=.returned (.int .i64 r.wr)/\Ext w w':=by
 obtain⟨kind,base,loc,n,wr,rd,top⟩:=r
 simp only at h1 h2 h3 h4
 have hd:decide (wr<0)=false:=by simpa using h3
 have hd2:decide (n<=wr)=false:=by simpa using h4
 unfold encR
 go_enter Try.func62,Try.ntmps62
 go_wp2_with fail
 go_quiet ((go_at_call 66;exact Calls.quiet_of_same ((threads_p n _ h1 h2).mono fun _ _ ⟨a,b⟩=>⟨a,b.symm⟩)))
 go_wp2_with fail
 go_ret
 exact⟨rfl,((Ext.refl _).alloc _).drewN _⟩
theorem tslot_p (r:Reg)(j:Int)(w:World)(h1:0<=j)(h2:j<=64)(hb1:0<=r.base)(hb2:r.base<=57000)(hl1:0<=r.loc)(hl2:r.loc<=57000) :
  Calls Try.prog 67 #[encR r,.int .i64 j] w fun e w'=>e=.returned (encR { r with kind:=5,base:=r.base+16*j,loc:=r.loc+(2+18*j),top:=1099511627776 })/\Ext w w':=by
 obtain⟨kind,base,loc,n,wr,rd,top⟩:=r
 simp only at hb1 hb2 hl1 hl2
 unfold encR
 have ha:loc+(2+18*j)=loc+2+18*j:=by omega
 simp only [ha]
 clear ha
 go_enter Try.func67,Try.ntmps67
 go_wp2_with fail
 refine bodyPost_ret (v:=.agg #[.int .i64 5,.int .i64 (base+16*j),.int .i64 (loc+2+18*j),.int .i64 n,.int .i64 wr,.int .i64 rd,.int .i64 1099511627776]) (by simp [results,Try.results67,go_sem]) rfl ?_
 exact⟨rfl,((Ext.refl _).alloc _).alloc _⟩
theorem mul_bd (a k:Int)(h1:0<=a/\a<k)(h3:k<=7):0<=a*(k-1)/\a*(k-1)<=36:=by
 have h4:0<=a*(k-1):=Int.mul_nonneg h1.1 (by omega)
 have h5:a*(k-1)<=6*6:=Int.mul_le_mul (by omega) (by omega) (by omega) (by omega)
 omega
theorem tells_bd (k a b:Int)(h1:0<=a/\a<k)(h2:0<=b/\b<k)(h3:k<=7)(_h4:a≠b):0<=tellsM k a b/\tellsM k a b<=60:=by
 have:=mul_bd a k h1 h3
 unfold tellsM
 split <;> omega
theorem tells_p (r:Reg)(k a b:Int)(w:World)(h1:0<=a/\a<k)(h2:0<=b/\b<k)(h3:k<=7)(h4:a≠b)(hb1:0<=r.base)(hb2:r.base<=57000)(hl1:0<=r.loc)(hl2:r.loc<=57000) :
  Calls Try.prog 75 #[encR r,.int .i64 k,.int .i64 a,.int .i64 b] w fun e w'=>e=.returned (encR { r with kind:=5,base:=r.base+16*tellsM k a b,loc:=r.loc+(2+18*tellsM k a b),top:=1099511627776 })/\Ext w w':=by
 have hm:=mul_bd a k h1 h3
 have ht:=tells_bd k a b h1 h2 h3 h4
 have hs:=Lib.hid (tslot_p r (tellsM k a b))
 obtain⟨kind,base,loc,n,wr,rd,top⟩:=r
 simp only at hb1 hb2 hl1 hl2
 by_cases hab:a<b
 · have e:tellsM k a b=k+a*(k-1)+(b-1):=by unfold tellsM;rw [if_pos hab]
   have eh:=Lib.hid e
   clear e
   unfold encR at hs ⊢
   generalize tellsM k a b=t at *
   go_enter Try.func75,Try.ntmps75
   go_wp2_with fail
   rw [<- eh.out]
   refine (hs.out _ ht.1 (by omega) hb1 hb2 hl1 hl2).mono ?_
   rintro e w2 ⟨rfl,hx⟩
   have hz:w2.heap[w.heap.size+1]?=some (.cells #[.int .i64 0,.int .i64 0,.int .i64 0,.int .i64 0,.int .i64 0,.int .i64 0,.int .i64 0] 23):=by
    refine (Below.block hx _ (by simp)).trans ?_
    have:=heap_alloc_new (w.alloc (.cells #[.int .i64 kind,.int .i64 base,.int .i64 loc,.int .i64 n,.int .i64 wr,.int .i64 rd,.int .i64 top] 23)) (.cells #[.int .i64 0,.int .i64 0,.int .i64 0,.int .i64 0,.int .i64 0,.int .i64 0,.int .i64 0] 23)
    rw [World.size_alloc] at this
    exact this
   have hzc:=cell_of_heap hz
   have hzf:=frozen_of_heap hz
   have hxh:=Lib.hid hx
   clear hx hz
   go_wp2_with fail
   refine bodyPost_ret (v:=.agg #[.int .i64 5,.int .i64 (base+16*t),.int .i64 (loc+(2+18*t)),.int .i64 n,.int .i64 wr,.int .i64 rd,.int .i64 1099511627776]) (by simp [results,Try.results75,go_sem,hzc]) rfl ?_
   refine⟨rfl,?_⟩
   repeat (refine Ext.setCell ?_ (Nat.le_succ _) _)
   exact (((Ext.refl _).alloc _).alloc _).trans hxh.out
 · have e:tellsM k a b=k+a*(k-1)+b:=by unfold tellsM;rw [if_neg (by omega)]
   have eh:=Lib.hid e
   clear e
   unfold encR at hs ⊢
   generalize tellsM k a b=t at *
   go_enter Try.func75,Try.ntmps75
   go_wp2_with fail
   rw [<- eh.out]
   refine (hs.out _ ht.1 (by omega) hb1 hb2 hl1 hl2).mono ?_
   rintro e w2 ⟨rfl,hx⟩
   have hz:w2.heap[w.heap.size+1]?=some (.cells #[.int .i64 0,.int .i64 0,.int .i64 0,.int .i64 0,.int .i64 0,.int .i64 0,.int .i64 0] 23):=by
    refine (Below.block hx _ (by simp)).trans ?_
    have:=heap_alloc_new (w.alloc (.cells #[.int .i64 kind,.int .i64 base,.int .i64 loc,.int .i64 n,.int .i64 wr,.int .i64 rd,.int .i64 top] 23)) (.cells #[.int .i64 0,.int .i64 0,.int .i64 0,.int .i64 0,.int .i64 0,.int .i64 0,.int .i64 0] 23)
    rw [World.size_alloc] at this
    exact this
   have hzc:=cell_of_heap hz
   have hzf:=frozen_of_heap hz
   have hxh:=Lib.hid hx
   clear hx hz
   go_wp2_with fail
   refine bodyPost_ret (v:=.agg #[.int .i64 5,.int .i64 (base+16*t),.int .i64 (loc+(2+18*t)),.int .i64 n,.int .i64 wr,.int .i64 rd,.int .i64 1099511627776]) (by simp [results,Try.results75,go_sem,hzc]) rfl ?_
   refine⟨rfl,?_⟩
   repeat (refine Ext.setCell ?_ (Nat.le_succ _) _)
   exact (((Ext.refl _).alloc _).alloc _).trans hxh.out
theorem rank_p (r:Reg)(me:Int)(w:World)(h1:1<=r.n)(h2:r.n<=8)(h3:0<=r.wr)(h4:r.wr<r.n)(h5:0<=me/\me<r.n)(h6:me≠r.wr) :
  Calls Try.prog 74 #[encR r,.int .i64 me] w fun e w'=>e=.returned (.tuple #[.int .i64 (rankM r.wr me),.bool true])/\Ext w w':=by
 have hw:=Lib.hid (writer_p r)
 obtain⟨kind,base,loc,n,wr,rd,top⟩:=r
 simp only at h1 h2 h3 h4 h5 h6
 have hd1:decide (me<0)=false:=by simpa using h5.1
 have hd2:decide (n<=me)=false:=by simpa using h5.2
 have hd3:(me==wr)=false:=by simpa using h6
 unfold encR at hw ⊢
 go_enter Try.func74,Try.ntmps74
 go_wp2_with fail
 refine (hw.out _ h1 h2 h3 h4).mono ?_
 rintro e w2 ⟨rfl,hx⟩
 have hc:∀ i:Nat,w2.cell? ⟨w.heap.size,i,none⟩=(#[.int .i64 kind,.int .i64 base,.int .i64 loc,.int .i64 n,.int .i64 wr,.int .i64 rd,.int .i64 top]:Array Value)[i]?:=fun i=>by
  rw [Ext.cell hx (p:=⟨w.heap.size,i,none⟩) (by simp)]
  exact cell_of_heap (heap_alloc_new w _) i
 have hxh:=Lib.hid hx
 clear hx
 go_wp2_with fail
 refine (threads_p n _ h1 h2).mono ?_
 rintro e w' ⟨rfl,rfl⟩
 by_cases hm:wr<me
 · go_wp2_with fail
   go_ret2
   exact⟨by rw [show rankM wr me=me-1 from by unfold rankM;rw [if_pos hm]];rfl,((Ext.refl _).alloc _).trans hxh.out⟩
 · go_wp2_with fail
   go_ret2
   exact⟨by rw [show rankM wr me=me from by unfold rankM;rw [if_neg (by omega)]];rfl,((Ext.refl _).alloc _).trans hxh.out⟩
attribute [local go_sem] Oper.semAt_some
def Gives (P:Program) (gf:Nat) (lb:Array Value) (xs:List Int) (Ok:World->Prop):Prop :=
 ∀ (l:Nat) (J:List Int->World->Prop) (Jp:List PanicEntry->World->Prop) (W:World),(∀ ys W',J ys W'->Ok W') ->
  (∀ y ys W',J (y :: ys) W'->YieldAt Fence.wide 0 P l #[.int .i64 y] W' fun e W2=>(e=.returned (.bool true)/\J ys W2)∨(∃ c,e=.panicked c/\Jp c W2)) ->
  J xs W->CallsIn Fence.wide 0 P gf (#[.func (.yield l) #[] #[]]++lb) W fun e W'=>(∃ v,e=.returned v/\J [] W')∨(∃ c,e=.panicked c/\Jp c W')
set_option maxHeartbeats 1000000 in
theorem ranks_gives (k:Nat)(but:Int)(bk bb:Nat)(hk:k<=8) :
  Gives Try.prog 84 #[.pointer (some ⟨bk,0,none⟩),.pointer (some ⟨bb,0,none⟩)] (ranksFrom but k 0) (fun W=>W.cell? ⟨bk,0,none⟩=some (.int .i64 k)/\W.cell? ⟨bb,0,none⟩=some (.int .i64 but)):=by
 intro l J Jp W hOk hY h0
 show CallsIn Fence.wide 0 Try.prog 84 #[.func (.yield l) #[] #[],.pointer (some ⟨bk,0,none⟩),.pointer (some ⟨bb,0,none⟩)] W _
 have c0:=(hOk _ _ h0).1
 refine callsIn_of_wp Try.func84 rfl trivial ?_ rfl
 simp only [Try.ntmps84,List.size_toArray,List.length_cons,List.length_nil,Nat.reduceAdd,Nat.reduceSub,Array.replicate_succ,Array.replicate_zero,List.push_toArray,List.append_toArray,List.nil_append,List.cons_append]
 gi_wp2
 gi_loopw [6] (fun q wr=>∃ i:Nat,q=.int .i64 i/\i<=k/\J (ranksFrom but (k-i) i) wr) (fun q _=>k-(intOf q).toNat)
 case atStart=>exact⟨0,rfl,by omega,h0⟩
 case round =>
  obtain⟨i,rfl,hi,hJ⟩:=hrel
  have c1:=(hOk _ _ hJ).2
  by_cases hik:i<k
  · obtain⟨n,hn⟩:∃ n,k-i=n+1:=⟨k-i-1,by omega⟩
    rw [hn] at hJ
    by_cases hb:(i:Int)=but
    · have hbe:((i:Int) != but)=false:=by simp [hb]
      have hJ2:J (ranksFrom but (k-(i+1)) ((i+1:Nat):Int)) wr:=by
       rw [show k-(i+1)=n from by omega]
       have e:ranksFrom but (n+1) (i:Int)=ranksFrom but n ((i:Int)+1):=by simp [ranksFrom,hb]
       rw [e] at hJ
       exact hJ
      have hJh:=Lib.hid hJ2
      clear hJ hJ2 hb hn hY h0 hOk
      gi_wp2_with fail
      refine⟨fun _ h=>(by cases h),?_⟩
      gi_wp2_with fail
      exact⟨⟨i+1,by go_num,by omega,hJh.out⟩,by simp [intOf];omega⟩
    · have hbe:((i:Int) != but)=true:=by simp [hb]
      have e:ranksFrom but (n+1) (i:Int)=(i:Int) :: ranksFrom but n ((i:Int)+1):=by simp [ranksFrom,hb]
      rw [e] at hJ
      obtain⟨fn,tmps,assign,body,hy,hR⟩:=hY _ _ _ hJ
      have hnh:=Lib.hid hn
      clear hJ hb hn hY h0 hOk e
      gi_wp2_with fail
      refine⟨rfl,hR.mono ?_⟩
      rintro e W3 (⟨rfl,hJ3⟩ | ⟨c,rfl,hJ3⟩)
      · gi_wp2_with fail
        exact⟨⟨i+1,by go_num,by omega,by rw [show k-(i+1)=n from by have:=hnh.out;omega];exact hJ3⟩,by simp [intOf];omega⟩
      · exact⟨rfl,.inr ⟨c,rfl,hJ3⟩⟩
  · obtain rfl:i=k:=by omega
    rw [Nat.sub_self] at hJ
    clear hY h0 hOk
    gi_wp2_with fail
    first | go_end0 | refine bodyPost_ret (results_none rfl _ _ _) rfl ?_
    exact .inl ⟨_,rfl,hJ⟩
end Go.Proofs.Ytchahoiainbcaaa
