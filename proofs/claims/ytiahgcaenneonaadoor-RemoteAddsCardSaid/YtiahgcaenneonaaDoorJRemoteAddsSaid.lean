/-
  RemoteAdds holds: of all threads' counts reads, writes and remote ones add up to those of all; who reads one cell again and again, while nobody writes it, pays once, without conditions.
-/
import Derived.Test.YtiahgcaenneonaaDoorJRemoteAddsSaid1
namespace Go.Proofs.YtiahgcaenneonaaDoor.remoteAdds
open Go.ChangeShapes Go.WideShapes Go.ChangeAt Go.RowKit Kv
set_option maxRecDepth 100000 in
theorem main (H:Type)(enc:TypeId × Value->H)(W:World)(base:Nat)(args:Array Value)(ds:List (DataW H))(p:List MemPlace)
  (hval:∀ (j:Nat) t v,Tryd.f4.params[j]?=some t->args[j]?=some v->Value.okWide Tryd.prog W .any base t v)
  (hA:DataW.TrodAll enc Tryd.prog W 0 (fun _=>true) true Tryd.f4.params.toList args.toList ds p)(_hL:laidMetH Tryd.prog Rows.remoteAddsRow.laid W) :
  Calls Tryd.prog 4 args W fun e w'=>e=.returned (.bool true)/\Ext W w':=by
 rw [Tryd.params4] at hA hval
 obtain⟨v0,vs0,d0,ds0,p0,q0,hargs,rfl,rfl,h0,r0⟩:=trodAll_cons hA
 obtain⟨v1,vs1,d1,ds1,p1,q1,rfl,rfl,rfl,h1,r1⟩:=trodAll_cons r0
 obtain⟨v2,vs2,d2,ds2,p2,q2,rfl,rfl,rfl,h2,r2⟩:=trodAll_cons r1
 obtain⟨v3,vs3,d3,ds3,p3,q3,rfl,rfl,rfl,h3,r3⟩:=trodAll_cons r2
 obtain⟨rfl,rfl,rfl⟩:=trodAll_nil r3
 obtain rfl:args=#[v0,v1,v2,v3]:=by cases args;simp_all
 obtain⟨l,A,c,rfl,hl,hb,hln⟩:=marks_arg (hval 0 38 v0 rfl rfl) h0
 obtain⟨homes,hh,_⟩:=ints_arg (hval 1 25 v1 rfl rfl) h1
 obtain⟨Ah,ch,rfl,_⟩:=hh.slice
 obtain⟨s,rfl,rfl,rfl,ws⟩:=open_int Tryd.underlying5 (hval 2 5 v2 rfl rfl) h2
 have hs:=bounds_u8 ws
 obtain⟨n,rfl⟩:∃ n:Nat,s=(n:Int):=⟨s.toNat,by omega⟩
 obtain⟨s2,rfl,rfl,rfl,ws2⟩:=open_int Tryd.underlying5 (hval 3 5 v3 rfl rfl) h3
 have hs2:=bounds_u8 ws2
 obtain⟨m,rfl⟩:∃ n:Nat,s2=(n:Int):=⟨s2.toNat,by omega⟩
 exact rm_walk A c l Ah ch homes n m W hl hln hb hh (by omega) (by omega)
end Go.Proofs.YtiahgcaenneonaaDoor.remoteAdds
namespace Go.Proofs.YtiahgcaenneonaaDoor.remoteAdds
open Go.ChangeShapes Go.WideShapes Go.ChangeAt Go.RowKit
theorem laidOut:laidOutB Tryd.prog=true:=by kernel_rfl
set_option maxRecDepth 100000 in
theorem contract (H:Type)(enc:TypeId × Value->H)(W:World)(base:Nat)(args:Array Value)(ds gs:List (DataW H))(before:List MemPlace)
  (hval:∀ (j:Nat) t v,Tryd.f4.params[j]?=some t->args[j]?=some v->Value.okWide Tryd.prog W .any base t v)
  (hW:DataW.Whole enc Tryd.prog Tryd.f4.params.toList Rows.remoteAddsSpec.vars false W args.toList ds gs before)(hL:laidMetH Tryd.prog Rows.remoteAddsRow.laid W) :
  Calls Tryd.prog 4 args W fun e W'=>∃ v,e=.returned v/\Rows.remoteAddsSpec.post enc Tryd.prog Tryd.f4 false true false false W args v W':=by
 refine (main H enc W base args ds before hval (by obtain⟨p,q,hA,hV,hpq,_,_⟩:=hW;obtain⟨_,rfl⟩:=trodVars_none hV;rw [List.append_nil] at hpq;subst hpq;exact hA) hL).mono fun e W' ⟨he,hg⟩=>⟨_,he,?_⟩
 refine law_post (tb:=4) laidOut ?_ (by kernel_rfl) Tryd.underlying4 rfl ?_ hW hg
 · rw [Tryd.params4]
   intro t ht
   simp only [List.mem_cons,List.not_mem_nil,or_false] at ht
   rcases ht with rfl | rfl | rfl | rfl <;> exact⟨by kernel_rfl,of_decide_eq_true (by kernel_rfl)⟩
 · intro ds hl
   rw [Tryd.params4] at hl
   match ds,hl with
   | [d0,d1,d2,d3],_=>rfl
set_option maxRecDepth 100000 in
theorem laid_met (os:Os):laidMet Tryd.prog Rows.remoteAddsRow.laid (((laidWorld os)).forCall (fun _ _=>0) ⟨#[],#[.slice none 0 0,.slice none 0 0,.int .u8 0,.int .u8 0],[]⟩).memory :=
 laidMet_of_run' 8 (by kernel_rfl) (by kernel_rfl)
set_option maxRecDepth 100000 in
theorem reads (os:Os){H:Type}(enc:TypeId × Value->H):∃ places,DataW.whole enc Tryd.prog (((laidWorld os)).forCall (fun _ _=>0) ⟨#[],#[.slice none 0 0,.slice none 0 0,.int .u8 0,.int .u8 0],[]⟩).memory Tryd.f4.params.toList Rows.remoteAddsSpec.vars false (#[.slice none 0 0,.slice none 0 0,.int .u8 0,.int .u8 0]:Array Value).toList 8=some ([.nil,.nil,.lit (.int .u8 0),.lit (.int .u8 0)],[],places) :=
 ⟨[],by kernel_rfl⟩
set_option maxRecDepth 100000 in
theorem lifted (os:Os)(started:os.Started)(H:Type)(enc:TypeId × Value->H)(F:Stop.Interp) :
  ReturnsInHanded {} Tryd.checked os 4 .any ((OpenSpec.ofChange Rows.remoteAddsSpec).preRow enc Tryd.prog Tryd.f4 Rows.remoteAddsRow.domain false Rows.remoteAddsRow.laid) (((OpenSpec.ofChange Rows.remoteAddsSpec).at F).post enc Tryd.prog Tryd.f4 false true false false):=by
 obtain⟨places,hx⟩:=reads os enc
 refine returnsInHanded_of_row (C:=Tryd.checked) (s:=(OpenSpec.ofChange Rows.remoteAddsSpec)) own started (by kernel_rfl) Tryd.func4
  (witness_row_at (enc:=enc) (C:=Tryd.checked) false (laidWorld os) #[.slice none 0 0,.slice none 0 0,.int .u8 0,.int .u8 0] rfl (by kernel_rfl) (by kernel_rfl) (by kernel_rfl)
    (OpenSpec.preRow_of_cond 8 hx (by kernel_rfl) (fun k hk=>by cases hk) (by kernel_rfl) (laid_met os))) ?_
 intro W base args ds gs before hval hW _ _ _ hL _ _
 exact contract H enc W base args ds gs before hval hW hL
theorem c1:(Rows.remoteAddsRow.inPlace==Tryd.pinned.checked.prog.inPlace 4)=true:=by kernel_rfl
theorem c2:(Rows.remoteAddsRow.unfollowed==Tryd.pinned.checked.prog.unfollowed 4)=true:=by kernel_rfl
theorem c3:(Rows.remoteAddsRow.recurses==Tryd.pinned.checked.prog.recurses 4)=true:=by kernel_rfl
theorem c4:(Rows.remoteAddsRow.named==Tryd.pinned.checked.prog.varsNamed 4)=true:=by kernel_rfl
theorem closed:joinedFacts Tryd.pinned.checked.prog 4 Tryd.f4 (OpenSpec.ofChange Rows.remoteAddsSpec).bare Rows.remoteAddsRow=true:=by
 unfold joinedFacts
 simp only [Bool.and_eq_true]
 repeat' refine And.intro ?_ ?_
 all_goals first | with_reducible exact c1 | with_reducible exact c2 | with_reducible exact c3 | with_reducible exact c4 | kernel_rfl
theorem said:Rows.RemoteAddsSaid :=
 OpenClaim.holds_of_cond 4 Tryd.f4 rfl rfl rfl rfl rfl rfl rfl ⟨rfl,rfl,rfl,rfl,rfl⟩ rfl rfl rfl rfl rfl (by kernel_rfl) Tryd.func4 closed
  (of_decide_eq_true (by kernel_rfl)) (by unfold Func.isWrapper;first | (rw [if_pos (by decide +kernel)];kernel_rfl) | (rw [if_neg (by decide +kernel)];exact⟨rfl,rfl⟩))
  (fun os started H enc _ F=>by rw [OpenClaim.pre_eq_preRow];exact lifted os started H enc F)
theorem plain (f:FuncId)(fn:Func)(hf:Tryd.pinned.checked.prog.funcNamed "kevel/kevellaw49.RemoteAdds"=some f)(hfn:Tryd.pinned.checked.prog.funcs[f]?=some fn) :
  false=Tryd.pinned.checked.prog.looks []/\∀ (j:Nat) t,fn.params[j]?=some t->Tryd.pinned.checked.prog.wantsStandIn t=false:=by
 obtain rfl:f=4:=Option.some.inj ((show Tryd.prog.funcNamed "kevel/kevellaw49.RemoteAdds"=some 4 by kernel_rfl).symm.trans hf) |>.symm
 obtain rfl:fn=Tryd.f4:=(Option.some.inj (Tryd.func4.symm.trans hfn)).symm
 refine⟨by kernel_rfl,fun j t ht=>?_⟩
 rw [Tryd.params4] at ht
 have hm:=Array.mem_of_getElem? ht
 simp only [List.mem_toArray,List.mem_cons,List.not_mem_nil,or_false] at hm
 rcases hm with rfl | rfl | rfl | rfl <;> exact (show Tryd.prog.wantsStandIn _=false by kernel_rfl)
theorem card:Rows.RemoteAddsCardSaid :=
 Claim7.holds_tied_plain_at .later [] _ _ _ _ said (fun _ h=>by cases h) (by kernel_rfl) (fun _ h=>by cases h) remoteAdds_row_tie rfl ⟨rfl,rfl⟩ (by kernel_rfl) rfl plain (by kernel_rfl)
end Go.Proofs.YtiahgcaenneonaaDoor.remoteAdds
