/-
  RwPlaysSaid: part 1 of its proof.
-/
import Derived.Test.YtbaajjkopdjbgaaGreatJRwPlaysSaid0
import Derived.WalkMore
import Derived.ScopeJumps
import Derived.Deep.RegionHeld2
import Derived.Deep.QuietTactic
import Derived.BigQuiet
import Derived.Maps.AppendAt
import Derived.RowKit
open Go.Value renaming int -> V
open Go.IntKind renaming i64 -> Z
namespace Go.Proofs.YtbaajjkopdjbgaaGreat
open Go.RowKit Kv
theorem wp_scope_fwd {P:Program}{a:Act}{w:World}{Q:Exit->Act->World->Prop}{c rest:Code}(l:Nat)(hf:findLabel c l=some rest)
  (first:c.wp P (Exit.jump l (fun a' w'=>rest.wp P (Exit.noGoto Q) a' w') Q) a w):(Code.scope c).wp P Q a w:=by
 refine wp_scope_jumps l (fun a' w'=>rest.wp P (Exit.noGoto Q) a' w') (fun _ _=>0) hf first fun a' w' h=>Code.wp_mono (fun e a2 w2 hq=>?_) h
 cases e <;> first | exact hq | exact hq.elim
theorem Plays.drew {B p:Nat}{w:World}{S:TS}(h:Plays B w p S):Plays B w.drew p S:=h.ext (Ext.refl w).drew
theorem Keep.drew {ix:List Nat}{B p:Nat}{w w':World}(h:Keep ix B p w w'):Keep ix B p w w'.drew:=⟨⟨h.below.os,h.below.tape,h.below.output,h.below.size,h.below.block⟩,h.rest⟩
theorem Held.drew {ix:List Nat}{p b:Nat}{w:World}{o:Obj}(h:Held ix w p b o):Held ix w.drew p b o:=h
def stopE (p:Nat):Ending:=.panicked [{ v:=.iface 92 (.agg #[.pointer (some ⟨p,0,none⟩)]),recovered:=false }]
def Post {α:Type} (enc:α->Value) (B p:Nat) (w0:World) (r:Option α × TS) (e:Ending) (w':World):Prop :=
 match r.1 with
 | some v=>e=.returned (enc v)/\Plays B w' p r.2/\KeepP B p w0 w'
 | none=>e=stopE p/\Stops B w' p r.2/\KeepP B p w0 w'
def Owes {α:Type} (R:Ending->World->Prop) (enc:α->Value) (B p:Nat) (w0:World) (r:Option α × TS):Prop:=∀ e w',Post enc B p w0 r e w'->R e w'
theorem owes {α:Type}(enc:α->Value)(B p:Nat)(w0:World)(r:Option α × TS):Owes (Post enc B p w0 r) enc B p w0 r:=fun _ _ h=>h
def encI (x:Int):Value:=V Z x
def encU (_:Unit):Value:=.tuple #[]
def encB (b:Bool):Value:=.bool b
@[go_sem] theorem encI_eq (x:Int):encI x=V Z x:=rfl
@[go_sem] theorem encU_eq (x:Unit):encU x=.tuple #[]:=rfl
@[go_sem] theorem encB_eq (x:Bool):encB x=.bool x:=rfl
section
variable {α β:Type} {B p:Nat} {w0 w:World} {S:TS} {R:Ending->World->Prop}
theorem Owes.done {enc:α->Value}{v:α}{w':World}(h:Owes R enc B p w0 (some v,S))(h1:Plays B w' p S)(h2:KeepP B p w0 w'):R (.returned (enc v)) w':=h _ _ ⟨rfl,h1,h2⟩
theorem Owes.stop {enc:α->Value}{w':World}(h:Owes R enc B p w0 (none,S))(h1:Stops B w' p S)(h2:KeepP B p w0 w'):R (stopE p) w':=h _ _ ⟨rfl,h1,h2⟩
theorem tstep {P:Program}{f:FuncId}{args:Array Value}{K:Ending->World->Prop}{enc:α->Value}{enc':β->Value}{T:Prog α}{g:α->Prog β}
  (hO:Owes R enc' B p w0 ((T.bind g).run S))(hB:KeepP B p w0 w)(h:Calls P f args w (Post enc B p w (T.run S)))(hp:∀ w',R (stopE p) w'->K (stopE p) w')
  (hk:∀ v S1 w1,T.run S=(some v,S1)->Plays B w1 p S1->KeepP B p w w1->KeepP B p w0 w1->Owes R enc' B p w0 ((g v).run S1)->K (.returned (enc v)) w1):Calls P f args w K:=by
 refine h.mono fun e w1 hp1=>?_
 unfold Post at hp1
 generalize hr:T.run S=r at hp1
 obtain⟨o,S1⟩:=r
 cases o with
 | some v =>
   obtain⟨rfl,h1,h2⟩:=hp1
   rw [Prog.run_bind_some hr] at hO
   exact hk v S1 w1 hr h1 h2 (hB.trans h2) hO
 | none =>
   obtain⟨rfl,h1,h2⟩:=hp1
   rw [Prog.run_bind_none hr] at hO
   exact hp w1 (hO.stop h1 (hB.trans h2))
theorem tlast {P:Program}{f:FuncId}{args:Array Value}{K:Ending->World->Prop}{enc enc':α->Value}{T:Prog α}
  (hO:Owes R enc' B p w0 (T.run S))(hB:KeepP B p w0 w)(h:Calls P f args w (Post enc B p w (T.run S)))(hp:∀ w',R (stopE p) w'->K (stopE p) w')
  (hk:∀ v S1 w1,T.run S=(some v,S1)->Plays B w1 p S1->KeepP B p w w1->KeepP B p w0 w1->Owes R enc' B p w0 (some v,S1)->K (.returned (enc v)) w1):Calls P f args w K:=by
 rw [<- Prog.bind_id T] at hO
 exact tstep hO hB h hp hk
theorem run_gt (l:Int)(g:Int->Prog α)(S:TS):((gt l).bind g).run S=(g (S.got l)).run S:=rfl
theorem run_gt1 (l:Int)(S:TS):(gt l).run S=(some (S.got l),S):=rfl
end
theorem read_p (B p:Nat)(S:TS)(c:Int)(w:World)(h:Plays B w p S):Calls Tryz.prog 146 #[.pointer (some ⟨p,0,none⟩),V Z c] w (Post encI B p w ((rd c).run S)):=by
 cases hx:S.next with
 | some x =>
   have hr:(rd c).run S=(some x,S.put ⟨1,c,0⟩):=by simp [rd,Prog.run,hx]
   rw [hr]
   have hA:=ask_p B p S 1 c 0 x w h hx
   clear hr hx
   go_enter Tryz.func146,Tryz.ntmps146
   go_wp2_with fail
   refine hA.mono ?_
   rintro e w' ⟨rfl,h1,h2⟩
   have HH:Hid (Plays B w' p (S.put ⟨1,c,0⟩)/\KeepP B p w w'):=⟨h1,h2⟩
   clear h1 h2;go_wp2_with fail
   go_ret
   exact⟨rfl,HH.out.1,HH.out.2⟩
 | none =>
   have hr:(rd c).run S=(none,S.put ⟨1,c,0⟩):=by simp [rd,Prog.run,hx]
   rw [hr]
   have hA:=ask_s B p S 1 c 0 w h hx
   clear hr hx
   go_enter Tryz.func146,Tryz.ntmps146
   go_wp2_with fail
   refine hA.mono ?_
   rintro e w' ⟨rfl,h1,h2⟩
   exact⟨rfl,rfl,h1,h2⟩
theorem write_p (B p:Nat)(S:TS)(c v:Int)(w:World)(h:Plays B w p S):Calls Tryz.prog 139 #[.pointer (some ⟨p,0,none⟩),V Z c,V Z v] w (Post encU B p w ((wr c v).run S)):=by
 cases hx:S.next with
 | some x =>
   have hr:(wr c v).run S=(some (),S.put ⟨2,c,v⟩):=by simp [wr,Prog.run,hx]
   rw [hr]
   have hA:=ask_p B p S 2 c v x w h hx
   clear hr hx
   go_enter Tryz.func139,Tryz.ntmps139
   go_wp2_with fail
   refine hA.mono ?_
   rintro e w' ⟨rfl,h1,h2⟩
   have HH:Hid (Plays B w' p (S.put ⟨2,c,v⟩)/\KeepP B p w w'):=⟨h1,h2⟩
   clear h1 h2;go_wp2_with fail
   first | go_end0 | refine bodyPost_ret (results_none rfl _ _ _) rfl ?_
   exact⟨rfl,HH.out.1,HH.out.2⟩
 | none =>
   have hr:(wr c v).run S=(none,S.put ⟨2,c,v⟩):=by simp [wr,Prog.run,hx]
   rw [hr]
   have hA:=ask_s B p S 2 c v w h hx
   clear hr hx
   go_enter Tryz.func139,Tryz.ntmps139
   go_wp2_with fail
   refine hA.mono ?_
   rintro e w' ⟨rfl,h1,h2⟩
   exact⟨rfl,rfl,h1,h2⟩
theorem setO {B p:Nat}{S:TS}{i v:Int}{w:World}(h:Plays B w p S):Calls Tryz.prog 132 #[.pointer (some ⟨p,0,none⟩),V Z i,V Z v] w (Post encU B p w ((st i v).run S)) :=
 (set_p B p S i v w h).mono fun _ _ ⟨h1,h2,h3⟩=>⟨h1,h2,h3⟩
section
variable {α β:Type} {B p:Nat} {w0 w:World} {o:Bool} {S:TS} {R:Ending->World->Prop}
def RPost {α:Type} (enc:α->Value) (B p:Nat) (w0:World) (T:Prog α) (o:Bool) (S:TS) (e:Ending) (w':World):Prop :=
 ∃ a o' S',e=.returned (enc a)/\Ref T o S a o' S'/\RAt B w' p o' S'/\KeepR B p w0 w'
def ROwes {α:Type} (R:Ending->World->Prop) (enc:α->Value) (B p:Nat) (w0:World) (T:Prog α) (o:Bool) (S:TS):Prop:=∀ e w',RPost enc B p w0 T o S e w'->R e w'
theorem rowes {α:Type}(enc:α->Value)(B p:Nat)(w0:World)(T:Prog α)(o:Bool)(S:TS):ROwes (RPost enc B p w0 T o S) enc B p w0 T o S:=fun _ _ h=>h
theorem ROwes.ret {enc:α->Value}{a:α}{w':World}(h:ROwes R enc B p w0 (.ret a) o S)(h1:RAt B w' p o S)(h2:KeepR B p w0 w'):R (.returned (enc a)) w':=h _ _ ⟨a,o,S,rfl,Ref.ret a o S,h1,h2⟩
theorem ROwes.over {enc:α->Value}{T:Prog α}(a:α){w':World}(h:ROwes R enc B p w0 T true S)(h1:RAt B w' p true S)(h2:KeepR B p w0 w'):R (.returned (enc a)) w':=h _ _ ⟨a,true,S,rfl,.over _ _,h1,h2⟩
theorem ROwes.any {enc:α->Value}{T:Prog α}(h:ROwes R enc B p w0 T true S)(T':Prog α):ROwes R enc B p w0 T' true S:=by
 rintro e w' ⟨a,o',S',rfl,hr,h1,h2⟩
 cases hr
 exact h.over a h1 h2
theorem ROwes.then {enc:α->Value}{T:Prog β}{g:β->Prog α}{v:β}{o1:Bool}{S1:TS}(h:ROwes R enc B p w0 (T.bind g) o S)(hr:Ref T o S v o1 S1):ROwes R enc B p w0 (g v) o1 S1:=by
 rintro e w' ⟨a,o',S',rfl,hr',h1,h2⟩
 exact h _ _ ⟨a,o',S',rfl,hr.bind hr',h1,h2⟩
theorem rstep {P:Program}{f:FuncId}{args:Array Value}{K:Ending->World->Prop}{enc:α->Value}{enc':β->Value}{T:Prog α}{g:α->Prog β}
  (hO:ROwes R enc' B p w0 (T.bind g) o S)(hB:KeepR B p w0 w)(h:Calls P f args w (RPost enc B p w T o S))
  (hk:∀ v o1 S1 w1,RAt B w1 p o1 S1->KeepR B p w w1->KeepR B p w0 w1->ROwes R enc' B p w0 (g v) o1 S1->K (.returned (enc v)) w1):Calls P f args w K:=by
 refine h.mono fun e w1 hp1=>?_
 obtain⟨a,o',S',rfl,hr,h1,h2⟩:=hp1
 exact hk a o' S' w1 h1 h2 (hB.trans h2) (hO.then hr)
theorem rlast {P:Program}{f:FuncId}{args:Array Value}{K:Ending->World->Prop}{enc enc':α->Value}{T:Prog α}
  (hO:ROwes R enc' B p w0 T o S)(hB:KeepR B p w0 w)(h:Calls P f args w (RPost enc B p w T o S))
  (hk:∀ v o1 S1 w1,RAt B w1 p o1 S1->KeepR B p w w1->KeepR B p w0 w1->ROwes R enc' B p w0 (.ret v) o1 S1->K (.returned (enc v)) w1):Calls P f args w K:=by
 rw [<- Prog.bind_id T] at hO
 exact rstep hO hB h hk
theorem RAt.drew (h:RAt B w p o S):RAt B w.drew p o S:=h.ext (Ext.refl w).drew
theorem RAt.cell (h:RAt B w p o S):∃ vA n vC vN vL,∀ i,w.cell? ⟨p,i,none⟩=(#[vA,V Z n,.bool o,vC,vN,vL]:Array Value)[i]?:=by
 obtain⟨n,vA,vC,vN,vL,L,h,_⟩:=h
 exact⟨_,_,_,_,_,cell_of_heap h.heap⟩
end
theorem get_r (B p:Nat)(o:Bool)(S:TS)(i:Int)(w:World)(h:RAt B w p o S) :
  Calls Tryz.prog 133 #[.pointer (some ⟨p,0,none⟩),V Z i] w fun e w'=>e=.returned (V Z (S.got i))/\w=w':=by
 obtain⟨n,vA,vC,vN,vL,L,h,_⟩:=h
 have hc:=cell_of_heap h.heap
 have hI:Ints w vL L:=IntRow.ints h.rowL
 by_cases h0:i<0
 · rw [got_neg h0]
   go_enter Tryz.func133,Tryz.ntmps133
   go_wp2_with fail
   go_ret
   exact⟨rfl,rfl⟩
 · obtain⟨i,rfl⟩:∃ n:Nat,i=(n:Int):=⟨i.toNat,by omega⟩
   obtain⟨A,c,rfl,hc1,hc2⟩:=hI.slice
   by_cases h1:i<L.length
   · obtain⟨b,off,rfl,hb,hcell⟩:=hI.at_ h1
     rw [got_at h.loc]
     clear h hI
     go_enter Tryz.func133,Tryz.ntmps133
     go_wp2_with fail
     go_ret
     exact⟨rfl,rfl⟩
   · rw [got_out h.loc i (by omega)]
     clear h hI
     go_enter Tryz.func133,Tryz.ntmps133
     go_wp2_with fail
     go_ret
     exact⟨rfl,rfl⟩
theorem access_o (B p:Nat)(S:TS)(k c v:Int)(w:World)(h:RAt B w p true S) :
  Calls Tryz.prog 221 #[.pointer (some ⟨p,0,none⟩),.agg #[V Z k,V Z c,V Z v]] w fun e w'=>e=.returned (V Z 0)/\RAt B w' p true S/\KeepR B p w w':=by
 have hP:=Hd (h.alloc (.cells #[V Z k,V Z c,V Z v] 112))
 have hK:Hid (KeepR B p w (w.alloc (.cells #[V Z k,V Z c,V Z v] 112))):=Hd (Keep.alloc _ h.lt h.le)
 have hlt:=h.lt
 obtain⟨vA,n,vC,vN,vL,hc⟩:=h.cell
 clear h
 go_enter Tryz.func221,Tryz.ntmps221
 go_wp2_with fail
 go_ret
 exact⟨rfl,hP.out,hK.out⟩
set_option maxRecDepth 100000 in
theorem access_p (B p:Nat)(S:TS)(k c v x:Int)(w:World)(h:RAt B w p false S)(hx:S.next=some x) :
  Calls Tryz.prog 221 #[.pointer (some ⟨p,0,none⟩),.agg #[V Z k,V Z c,V Z v]] w fun e w'=>e=.returned (V Z x)/\RAt B w' p false (S.put ⟨k,c,v⟩)/\KeepR B p w w':=by
 obtain⟨n,vA,vC,vN,vL,L,h,hn,-⟩:=h
 have hlt:S.acc.length<S.ans.length:=by
  unfold TS.next at hx
  exact (List.getElem?_eq_some_iff.1 hx).1
 obtain rfl:n=S.acc.length:=by omega
 clear hn
 have hx2:=Hd (show S.ans.getD S.acc.length 0=x by
  unfold TS.next at hx
  simp [List.getD,hx])
 clear hx
 have hc:=cell_of_heap h.heap
 have hbo:=h.ansN;unfold maxAns at hbo;have hle:=h.lt;have hge:=h.ge
 obtain⟨Aa,ca,rfl,ha1,ha2⟩:=h.ans.slice
 obtain⟨Ac,cc,hvC⟩:∃ A c,vC=.slice A S.acc.length c:=by
  rcases h.rowC.2 with⟨rfl,h0⟩ | ⟨g,cap,cur,rfl,_⟩
  · exact⟨none,0,by rw [h0]⟩
  · exact⟨_,_,rfl⟩
 subst hvC
 have hL:=Hd h
 have hlt2:=Hd hlt
 have h1:S.acc.length<=S.ans.length:=by omega
 clear h hlt
 obtain⟨i0,hi,hz0,hz1,hz2⟩:=info_parts info_acc
 go_enter Tryz.func221,Tryz.ntmps221
 go_wp2_with fail
 go_region_law ((refine step_append_lies _ (by rfl) _ _ _ (by rfl) B 112 i0 _ 3 24 Tryz.underlying27 hi hz0 hz1 hz2 rfl (by omega) (Value.slice Ac S.acc.length cc) S.acc.length (accVals S.acc) (by rfl) (((World.ownsRow.alloc hL.out.rowC _).drew).alloc _) ⟨w.heap.size+1,0,none⟩ 1 1 [V Z k,V Z c,V Z v] (by rfl) (by rfl) (cells_new2 w _ _ _) (by simp [Value.oneCell']) (by omega) (by unfold maxLen;omega) (by omega) (by simp;omega) (w.heap.size+2) (by simp) ?_;intro gg cap w1 hown1 hgrow hat hlt;have hp1:=grown_heap hL.out.heap hL.out.cNe.2.1 (grown2 hgrow);have hq1:=cell_of_heap hp1;have hf1:=frozen_of_heap hp1))
 all_goals
  obtain⟨HM,HK⟩:=hL.out.grewC ⟨k,c,v⟩ (grown2 hgrow) (hat.imp id (by omega)) hown1 (Nat.le_of_lt hlt2.out)
  clear hown1 hgrow hat hlt hp1 hq1 hf1 hc
  generalize hv':(Value.slice (some ⟨gg,0,none⟩) (S.acc.length+1) cap)=v' at *
  generalize w1.setCell ⟨p,3,none⟩ v'=W at *
  clear hv' w1
  have hq:=cell_of_heap HM.heap
  have hfz:=frozen_of_heap HM.heap
  have hlt:=hlt2.out
  have HMh:=Hd HM
  have HKh:=Hd HK
  clear HM HK;go_wp2_with fail
  go_quiet (fail)
  have HM:=HMh.out.ext ((Ext.refl W).drewN nq)
  have HK:=HKh.out.drewN nq
  clear hq hfz HMh HKh
  generalize W.drewN nq=W2 at *
  clear W
  have hq:=cell_of_heap HM.heap
  have hfz:=frozen_of_heap HM.heap
  have HMh:=Hd HM
  have HKh:=Hd HK
  clear HM HK;go_wp2_with fail
  have e1:(S.acc.length:Int)+1=((S.acc.length+1:Nat):Int):=rfl
  obtain⟨HM,HK⟩:=HMh.out.told (S.acc.length+1)
  have HF:RAt B (W2.setCell ⟨p,1,none⟩ (V Z ((S.acc.length+1:Nat):Int))) p false (S.put ⟨k,c,v⟩):=⟨_,_,_,_,_,_,HM,by show _=min (S.acc++_).length S.ans.length;simp;omega,by show _=decide (S.ans.length<(S.acc++_).length);simp;omega⟩
  replace HK:=HKh.out.trans HK
  obtain⟨b,off,rfl,hb,hcell⟩:=HM.ans.at_ (show S.acc.length<S.ans.length from hlt)
  rw [show (S.put ⟨k,c,v⟩).ans.getD S.acc.length 0=x from hx2.out] at hcell
  rw [e1]
  clear hq hfz HMh HKh
  generalize W2.setCell ⟨p,1,none⟩ (V Z ((S.acc.length+1:Nat):Int))=W3 at *
  have hq:=cell_of_heap HM.heap
  have HFh:=Hd HF
  have HKh:=Hd HK
  clear HM HK HF e1 W2
  have hw:IntKind.i64.wrap (((S.acc.length+1:Nat):Int)-1)=(S.acc.length:Int):=by rw [IntKind.wrap_i64];omega
  go_quiet (simp only [hw])
  go_wp2_with fail
  first | go_ret | skip
  exact⟨rfl,HFh.out.ext ((Ext.refl _).drewN nq),HKh.out.drewN nq⟩
set_option maxRecDepth 100000 in
theorem access_s (B p:Nat)(S:TS)(k c v:Int)(w:World)(h:RAt B w p false S)(hx:S.next=none) :
  Calls Tryz.prog 221 #[.pointer (some ⟨p,0,none⟩),.agg #[V Z k,V Z c,V Z v]] w fun e w'=>e=.returned (V Z 0)/\RAt B w' p true (S.put ⟨k,c,v⟩)/\KeepR B p w w':=by
 obtain⟨n,vA,vC,vN,vL,L,h,hn,ho⟩:=h
 have hlt:S.acc.length=S.ans.length:=by
  unfold TS.next at hx
  have:=List.getElem?_eq_none_iff.1 hx
  simp at ho
  omega
 obtain rfl:n=S.acc.length:=by omega
 clear hn hx ho
 have hc:=cell_of_heap h.heap
 have hbo:=h.ansN;unfold maxAns at hbo;have hle:=h.lt;have hge:=h.ge
 obtain⟨Aa,ca,rfl,ha1,ha2⟩:=h.ans.slice
 obtain⟨Ac,cc,hvC⟩:∃ A c,vC=.slice A S.acc.length c:=by
  rcases h.rowC.2 with⟨rfl,h0⟩ | ⟨g,cap,cur,rfl,_⟩
  · exact⟨none,0,by rw [h0]⟩
  · exact⟨_,_,rfl⟩
 subst hvC
 have hL:=Hd h
 have hlt2:=Hd hlt
 have h1:S.acc.length<=S.ans.length:=by omega
 clear h hlt
 obtain⟨i0,hi,hz0,hz1,hz2⟩:=info_parts info_acc
 go_enter Tryz.func221,Tryz.ntmps221
 go_wp2_with fail
 go_region_law ((refine step_append_lies _ (by rfl) _ _ _ (by rfl) B 112 i0 _ 3 24 Tryz.underlying27 hi hz0 hz1 hz2 rfl (by omega) (Value.slice Ac S.acc.length cc) S.acc.length (accVals S.acc) (by rfl) (((World.ownsRow.alloc hL.out.rowC _).drew).alloc _) ⟨w.heap.size+1,0,none⟩ 1 1 [V Z k,V Z c,V Z v] (by rfl) (by rfl) (cells_new2 w _ _ _) (by simp [Value.oneCell']) (by omega) (by unfold maxLen;omega) (by omega) (by simp;omega) (w.heap.size+2) (by simp) ?_;intro gg cap w1 hown1 hgrow hat hlt;have hp1:=grown_heap hL.out.heap hL.out.cNe.2.1 (grown2 hgrow);have hq1:=cell_of_heap hp1;have hf1:=frozen_of_heap hp1))
 all_goals
  obtain⟨HM,HK⟩:=hL.out.grewC ⟨k,c,v⟩ (grown2 hgrow) (hat.imp id (by omega)) hown1 (Nat.le_of_eq hlt2.out)
  clear hown1 hgrow hat hlt hp1 hq1 hf1 hc
  generalize hv':(Value.slice (some ⟨gg,0,none⟩) (S.acc.length+1) cap)=v' at *
  generalize w1.setCell ⟨p,3,none⟩ v'=W at *
  clear hv' w1
  have hq:=cell_of_heap HM.heap
  have hfz:=frozen_of_heap HM.heap
  have hle:S.ans.length<=S.acc.length:=by have:=hlt2.out;omega
  have HMh:=Hd HM
  have HKh:=Hd HK
  clear HM HK;go_wp2_with fail
  go_quiet (fail)
  have HM:=HMh.out.ext ((Ext.refl W).drewN nq)
  have HK:=HKh.out.drewN nq
  clear hq hfz HMh HKh
  generalize W.drewN nq=W2 at *
  clear W
  have hq:=cell_of_heap HM.heap
  have hfz:=frozen_of_heap HM.heap
  obtain⟨HM2,HK2⟩:=HM.ended true
  have HF:RAt B (W2.setCell ⟨p,2,none⟩ (.bool true)) p true (S.put ⟨k,c,v⟩):=⟨_,_,_,_,_,_,HM2,by have:=hlt2.out;show _=min (S.acc++_).length S.ans.length;simp;omega,by have:=hlt2.out;show _=decide (S.ans.length<(S.acc++_).length);simp;omega⟩
  have HFh:=Hd HF
  have HKh:=Hd (HK.trans HK2)
  clear HM HK HM2 HK2 HF;go_wp2_with fail
  go_ret
  exact⟨rfl,HFh.out,HKh.out⟩
section
variable {α:Type} {B p:Nat} {w0:World} {o:Bool} {S:TS} {R:Ending->World->Prop} {enc:α->Value}
theorem ref_gt (l:Int)(o:Bool)(S:TS):Ref (gt l) o S (S.got l) o S:=by
 cases o with
 | true=>exact .over _ _
 | false=>exact .done rfl
theorem ref_st (i v:Int)(S:TS):Ref (st i v) false S () false (S.upd i v):=.done rfl
theorem ROwes.get {l:Int}{g:Int->Prog α}(h:ROwes R enc B p w0 ((gt l).bind g) o S):ROwes R enc B p w0 (g (S.got l)) o S:=h.then (ref_gt l o S)
theorem ROwes.get1 {enc:Int->Value}{l:Int}(h:ROwes R enc B p w0 (gt l) o S):ROwes R enc B p w0 (.ret (S.got l)) o S:=by
 rw [<- Prog.bind_id (gt l)] at h
 exact h.then (ref_gt l o S)
end
theorem read_r (B p:Nat)(o:Bool)(S:TS)(c:Int)(w:World)(h:RAt B w p o S):Calls Tryz.prog 134 #[.pointer (some ⟨p,0,none⟩),V Z c] w (RPost encI B p w (rd c) o S):=by
 generalize hR:RPost encI B p w (rd c) o S=R
 have hO:ROwes R encI B p w (rd c) o S:=hR▸rowes _ _ _ _ _ _ _
 clear hR
 cases o with
 | true =>
   go_enter Tryz.func134,Tryz.ntmps134
   go_wp2_with fail
   refine (access_o B p S 1 c 0 _ h).mono ?_
   rintro e w' ⟨rfl,h1,h2⟩
   go_wp2_with fail
   refine hO _ _ ⟨0,true,S,rfl,.over _ _,h1,h2⟩
 | false =>
   cases hx:S.next with
   | some x =>
     go_enter Tryz.func134,Tryz.ntmps134
     go_wp2_with fail
     refine (access_p B p S 1 c 0 x _ h hx).mono ?_
     rintro e w' ⟨rfl,h1,h2⟩
     go_wp2_with fail
     refine hO _ _ ⟨x,false,_,rfl,.done (by simp [rd,Prog.run,hx]),h1,h2⟩
   | none =>
     go_enter Tryz.func134,Tryz.ntmps134
     go_wp2_with fail
     refine (access_s B p S 1 c 0 _ h hx).mono ?_
     rintro e w' ⟨rfl,h1,h2⟩
     go_wp2_with fail
     refine hO _ _ ⟨0,true,_,rfl,.stop _ (by simp [rd,Prog.run,hx]),h1,h2⟩
theorem write_r (B p:Nat)(o:Bool)(S:TS)(c v:Int)(w:World)(h:RAt B w p o S):Calls Tryz.prog 135 #[.pointer (some ⟨p,0,none⟩),V Z c,V Z v] w (RPost encU B p w (wr c v) o S):=by
 generalize hR:RPost encU B p w (wr c v) o S=R
 have hO:ROwes R encU B p w (wr c v) o S:=hR▸rowes _ _ _ _ _ _ _
 clear hR
 cases o with
 | true =>
   go_enter Tryz.func135,Tryz.ntmps135
   go_wp2_with fail
   refine (access_o B p S 2 c v _ h).mono ?_
   rintro e w' ⟨rfl,h1,h2⟩
   go_wp2_with fail
   first | go_end0 | refine bodyPost_ret (results_none rfl _ _ _) rfl ?_
   refine hO _ _ ⟨(),true,S,rfl,.over _ _,h1,h2⟩
 | false =>
   cases hx:S.next with
   | some x =>
     go_enter Tryz.func135,Tryz.ntmps135
     go_wp2_with fail
     refine (access_p B p S 2 c v x _ h hx).mono ?_
     rintro e w' ⟨rfl,h1,h2⟩
     go_wp2_with fail
     first | go_end0 | refine bodyPost_ret (results_none rfl _ _ _) rfl ?_
     refine hO _ _ ⟨(),false,_,rfl,.done (by simp [wr,Prog.run,hx]),h1,h2⟩
   | none =>
     go_enter Tryz.func135,Tryz.ntmps135
     go_wp2_with fail
     refine (access_s B p S 2 c v _ h hx).mono ?_
     rintro e w' ⟨rfl,h1,h2⟩
     go_wp2_with fail
     first | go_end0 | refine bodyPost_ret (results_none rfl _ _ _) rfl ?_
     refine hO _ _ ⟨(),true,_,rfl,.stop _ (by simp [wr,Prog.run,hx]),h1,h2⟩
def lenAt (w:World) (p:Nat):Nat:=match w.cell? ⟨p,5,none⟩ with
 | some (.slice _ n _)=>n
 | _=>0
theorem lenAt_of {w:World}{p n c:Nat}{A:Option Addr}(h:w.cell? ⟨p,5,none⟩=some (.slice A n c)):lenAt w p=n:=by unfold lenAt;rw [h]
theorem ref_st_out {i:Int}(h:i<0∨32768<=i)(v:Int)(o:Bool)(S:TS):Ref (st i v) o S () o S:=by
 cases o with
 | true=>exact .over _ _
 | false=>exact .done (by show (some (),S.upd i v)=_;rw [TS.upd_out h])
theorem RMem.slice {B p:Nat}{w:World}{S:TS}{n:Nat}{o:Bool}{vA vC vN vL:Value}{L:List Int}(h:RMem B w p S n o vA vC vN vL L):∃ A c,vL=.slice A L.length c/\L.length<=c/\c<=9223372036854775807:=by
 obtain⟨A,c,rfl,h1,h2⟩:=(IntRow.ints h.rowL).slice
 exact⟨A,c,rfl,h1,h2⟩
theorem append_int_at {ops:Array Oper}{rest:List Oper}{o:Oper}{a:Act}{Q:Exit->Act->World->Prop}{w:World}(hgd:o.guard=none)(s x:Operand)
  (ho:o.op=.call { callee:=.builtin .append,args:=#[s,x],argTypes:=#[25,25] })
  (base:Nat)(v:Value)(l:List Int)(y:Int)(hown:w.ownsRow base 3 1 v l.length (l.map (V Z)))(hs:a.eval s=v)(hx:a.eval x=.slice (some ⟨w.heap.size,0,none⟩) 1 1)
  (hlen:l.length<1000000000000)(hbase:base<=w.heap.size)
  (h:∀ g cap w',w'.ownsRow base 3 1 (.slice (some ⟨g,0,none⟩) (l.length+1) cap) (l.length+1) (l.map (V Z)++[V Z y])->w.grownBy w' v.ownBlock->(v.ownBlock=some g∨w.heap.size<=g)->wpList Tryz.prog ops Q rest (a.put o.dst (.slice (some ⟨g,0,none⟩) (l.length+1) cap)) w') :
  wpList Tryz.prog ops Q (o :: rest) a (w.alloc (.cells #[V Z y] 3)):=by
 obtain⟨i0,hi,hz0,hz1,hz2⟩:=info_parts info_int
 refine wpList_append_own_at _ hgd s x 25 ho base 3 i0 (V Z 0) 1 8 Tryz.underlying25 hi hz0 hz1 hz2 rfl (by decide) v l.length _ hs (World.ownsRow.alloc hown _) ⟨w.heap.size,0,none⟩ 1 1 [V Z y] hx rfl (cell_one_new _ _ _) (by simp [Value.oneCell']) (by unfold maxLen;omega) (by omega) (by simp;omega) fun v' w' h1 h2 _ h4=>?_
 rcases h1.2 with⟨rfl,e⟩ | ⟨g,cap,cur,rfl,_⟩
 · omega
 · refine h g cap w' h1 (World.grownBy.trans (World.grownBy_alloc w _ _) h2) ?_
   rcases h4 with e | e
   · exact .inl e.symm
   · simp only [Value.ownBlock,Option.some.injEq,World.size_alloc] at e
     exact .inr (by omega)
set_option maxRecDepth 100000 in
theorem set_r (B p:Nat)(o:Bool)(S:TS)(i v:Int)(w:World)(h:RAt B w p o S) :
  Calls Tryz.prog 136 #[.pointer (some ⟨p,0,none⟩),V Z i,V Z v] w (RPost encU B p w (st i v) o S):=by
 generalize hR:RPost encU B p w (st i v) o S=R
 have hO:ROwes R encU B p w (st i v) o S:=hR▸rowes _ _ _ _ _ _ _
 clear hR
 cases o with
 | true =>
   have h':=Hd h
   obtain⟨vA,n,vC,vN,vL,hc⟩:=h.cell
   clear h
   go_enter Tryz.func136,Tryz.ntmps136
   go_wp2_with fail
   first | go_end0 | refine bodyPost_ret (results_none rfl _ _ _) rfl ?_
   exact hO.over () h'.out (Keep.refl _ _ _ _)
 | false =>
   by_cases h0:i<0∨32768<=i
   · have hf:R (.returned (encU ())) w:=hO _ _ ⟨(),false,S,rfl,ref_st_out h0 v false S,h,Keep.refl _ _ _ _⟩
     obtain⟨vA,n,vC,vN,vL,hc⟩:=h.cell
     clear h hO
     rcases h0 with h0 | h0
     · go_enter Tryz.func136,Tryz.ntmps136
       go_wp2_with fail
       first | go_end0 | refine bodyPost_ret (results_none rfl _ _ _) rfl ?_
       exact hf
     · go_enter Tryz.func136,Tryz.ntmps136
       go_wp2_with fail
       first | go_end0 | refine bodyPost_ret (results_none rfl _ _ _) rfl ?_
       exact hf
   · obtain⟨i,rfl⟩:∃ n:Nat,i=(n:Int):=⟨i.toNat,by omega⟩
     have hi:i<32768:=by omega
     clear h0
     obtain⟨n,vA,vC,vN,vL,L,h,hn,ho⟩:=h
     have hn':=Hd hn
     have ho':=Hd ho
     have hp:=h.lt;have hge:=h.ge;clear hn ho
     have hc:=cell_of_heap h.heap
     obtain⟨i0,hi0,hz0,hz1,hz2⟩:=info_parts info_int
     go_enter Tryz.func136,Tryz.ntmps136
     go_wp2_with fail
     go_loopw [] (fun wr=>∃ (vL:Value) (L:List Int),RMem B wr p S n false vA vC vN vL L/\KeepR B p w wr) (fun wr=>i+1-lenAt wr p)
     case atStart=>exact⟨vL,L,h,Keep.refl _ _ _ _⟩
     case round =>
      clear h hc vL L
      obtain⟨vL,L,h,hK⟩:=hrel
      obtain⟨A,c,rfl,hc1,hc2⟩:=h.slice
      have hc:=cell_of_heap h.heap
      have hLn:=h.locN
      have hLe:=lenAt_of (hc 5)
      by_cases hin:L.length<=i
      · have hL:=Hd h
        have hKh:=Hd hK
        have hM:=Hd hLe
        clear h hK hLe
        go_wp2_with (at_builtin;refine append_int_at rfl _ _ rfl B _ L 0 hL.out.rowL rfl rfl (by omega) (by have:=hL.out.lt;omega) ?_)
        intro g cap w1 hown hgrow hat
        have hp1:=grown_heap hL.out.heap hL.out.cNe.1 hgrow
        have hq1:=cell_of_heap hp1
        have hf1:=frozen_of_heap hp1
        obtain⟨HM,HK⟩:=hL.out.grewL hgrow hat hown (by omega)
        have hM1:=lenAt_of (cell_of_heap HM.heap 5)
        have HMh:=Hd HM
        have HKh:=Hd (hKh.out.trans HK)
        have hM2:=Hd hM1
        clear HM HK hM1 hgrow hat hown hp1;go_wp2_with fail
        go_roundw
        case rel=>exact⟨_,_,HMh.out,HKh.out⟩
        case measure =>
         rw [hM.out,hM2.out]
         omega
      · obtain⟨g,rfl⟩:∃ g,A=some ⟨g,0,none⟩:=by
         rcases h.rowL.2 with⟨e,h0⟩ | ⟨g,cap,cur,e,_⟩
         · omega
         · injection e with e1 e2 e3
           exact⟨g,e1⟩
        obtain⟨HM,HK⟩:=h.stored i (by omega) v
        have HP:RAt B _ p false (S.upd i v):=⟨_,_,_,_,_,_,HM,by rw [TS.upd_acc,TS.upd_ans];exact hn'.out,by rw [TS.upd_acc,TS.upd_ans];exact ho'.out⟩
        have hf:=hO _ _ ⟨(),false,_,rfl,ref_st i v S,HP,hK.trans HK⟩
        obtain⟨b,off,he,hb,hcell⟩:=(IntRow.ints h.rowL).at_ (show i<L.length by omega)
        injection he with he
        injection he with e1 e2
        subst e1 e2;rw [Nat.zero_add] at hcell
        have hfz:=h.rowL.frozenAt i
        clear h hK hO HM HK HP hLe;go_wp2_with fail
        first | go_end0 | refine bodyPost_ret (results_none rfl _ _ _) rfl ?_
        exact hf
end Go.Proofs.YtbaajjkopdjbgaaGreat
namespace Kv
open Go Go.RowKit
structure Reg where
 kind:Int
 base:Int
 loc:Int
 n:Int
 wr:Int
 rd:Int
 top:Int
def bitM (v:Int):Int:=if v=0 then 0 else 1
def otherM (v:Int):Int:=if v=0 then 1 else 0
def trompW (b l v:Int):Prog Unit :=
 (gt l).bind fun x=>if x=bitM v then .ret () else
   (wr b (bitM v)).bind fun _=>(st l (bitM v)).bind fun _=>(gt (l+1)).bind fun w=>(rd (b+2)).bind fun y =>
     if y=w then (wr (b+1) (wrap64 (1-w))).bind fun _=>st (l+1) (wrap64 (1-w)) else .ret ()
def trompR3 (b l x:Int):Prog Int :=
 (rd b).bind fun y=>(st (l+3) y).bind fun _=>(rd (b+1)).bind fun y=>(gt (l+2)).bind fun g =>
   if y=g then gt (l+3) else (rd b).bind fun y=>(st (l+3) y).bind fun _=>.ret x
def trompR2 (b l x:Int):Prog Int :=
 (rd (b+1)).bind fun y=>(gt (l+2)).bind fun g=>if y=g then trompR3 b l x else
   (gt (l+2)).bind fun t=>(wr (b+2) (wrap64 (1-t))).bind fun _=>(st (l+2) (wrap64 (1-t))).bind fun _=>trompR3 b l x
def trompR (b l:Int):Prog Int :=
 (rd (b+1)).bind fun y=>(gt (l+2)).bind fun g=>if y=g then gt (l+3) else (rd b).bind fun x=>trompR2 b l x
def slotsW (b l v:Int):Prog Unit :=
 (trompR (b+13) (l+14)).bind fun y=>(gt (l+otherM y)).bind fun z=>(wr (b+(2*otherM y+otherM z)) v).bind fun _ =>
   (st (l+otherM y) (otherM z)).bind fun _=>(trompW (b+(4+3*otherM y)) (l+(2+4*otherM y)) (otherM z)).bind fun _=>trompW (b+10) (l+10) (otherM y)
def slotsR (b l:Int):Prog Int :=
 (trompR (b+10) (l+10)).bind fun y=>(trompW (b+13) (l+14) (bitM y)).bind fun _ =>
   (trompR (b+(4+3*bitM y)) (l+(2+4*bitM y))).bind fun z=>rd (b+(2*bitM y+bitM z))
def forP {σ:Type} (T:Int->σ->Prog σ):List Int->σ->Prog σ
 | [],x=>.ret x
 | a :: l,x=>(T a x).bind fun y=>forP T l y
def ranksFrom (but:Int):Nat->Int->List Int
 | 0,_=>[]
 | n+1,i=>if i=but then ranksFrom but n (i+1) else i :: ranksFrom but n (i+1)
def tableW (b l n wr top me v:Int):Prog Unit :=
 if me≠wr then .ret () else (gt l).bind fun s=>(st l (wrap64 (s+1))).bind fun _ =>
  (forP (fun a _=>slotsW (b+16*a) (l+(2+18*a)) (packI (wrap64 (s+1)) v (clamp top 1048576))) (ranksFrom (-1) (n-1).toNat 0) ()).bind fun _=>st (l+1) (clamp v (clamp top 1048576))
def tellsM (k a b:Int):Int:=k+a*(k-1)+(if b > a then b-1 else b)
def rankM (w me:Int):Int:=if me > w then me-1 else me
def tableR (b l n wr top me:Int):Prog Int :=
 if me=wr then gt (l+1) else
  (slotsR (b+16*rankM wr me) (l+(2+18*rankM wr me))).bind fun x =>
    (forP (fun i x=>(slotsR (b+16*tellsM (n-1) i (rankM wr me)) (l+(2+18*tellsM (n-1) i (rankM wr me)))).bind fun y=>.ret (max x y)) (ranksFrom (rankM wr me) (n-1).toNat 0) x).bind fun x =>
    (forP (fun i _=>slotsW (b+16*tellsM (n-1) (rankM wr me) i) (l+(2+18*tellsM (n-1) (rankM wr me) i)) x) (ranksFrom (rankM wr me) (n-1).toNat 0) ()).bind fun _=>.ret (unLo x (clamp top 1048576))
def manyTop (top:Int):Int:=packI 4095 (clamp top 255) (clamp top 255)
def manyB (b n j:Int):Int:=b+16*j*(n-1)*(n-1)
def manyL (l n j:Int):Int:=l+j*(2+18*(n-1)*(n-1))
def manyRs (b l n top me:Int):Nat->Int->Int->Int->Prog (Int × Int)
 | 0,_,s,v=>.ret (s,v)
 | k+1,j,s,v=>(tableR (manyB b n j) (manyL l n j) n j (manyTop top) me).bind fun y =>
    if s<=unHi y (clamp top 255) then manyRs b l n top me k (j+1) (unHi y (clamp top 255)) (unLo y (clamp top 255)) else manyRs b l n top me k (j+1) s v
def manyR (b l n top me:Int):Prog Int:=(manyRs b l n top me n.toNat 0 0 0).bind fun p=>.ret p.2
def manyW (b l n top me v:Int):Prog Unit :=
 (manyRs b l n top me n.toNat 0 0 0).bind fun p=>tableW (manyB b n me) (manyL l n me) n me (manyTop top) me (packI (min (p.1+1) 4095) (clamp v (clamp top 255)) (clamp top 255))
def regW (r:Reg) (me v:Int):Prog Unit:=if r.kind=1 then wr r.base v else if r.kind=6 then tableW r.base r.loc r.n r.wr r.top me v else manyW r.base r.loc r.n r.top me v
def regR (r:Reg) (me:Int):Prog Int:=if r.kind=1 then rd r.base else if r.kind=6 then tableR r.base r.loc r.n r.wr r.top me else manyR r.base r.loc r.n r.top me
structure Reg.ok (r:Reg):Prop where
 kind:r.kind=1∨r.kind=6∨r.kind=7
 base:0<=r.base/\r.base<=32768
 loc:0<=r.loc/\r.loc<=32768
 n:1<=r.n/\r.n<=8
 wr:r.kind=6->0<=r.wr/\r.wr<r.n
end Kv
namespace Go.Proofs.YtbaajjkopdjbgaaGreat
open Go.RowKit Kv
def encR (r:Reg):Value:=.agg #[V Z r.kind,V Z r.base,V Z r.loc,V Z r.n,V Z r.wr,V Z r.rd,V Z r.top]
theorem tromp_write_p (B p:Nat)(S:TS)(r:Reg)(v:Int)(w:World)(h:Plays B w p S)(hb1:0<=r.base)(hb2:r.base<=60000)(hl1:0<=r.loc)(hl2:r.loc<=60000) :
  Calls Tryz.prog 283 #[.pointer (some ⟨p,0,none⟩),encR r,V Z v] w (Post encU B p w ((trompW r.base r.loc v).run S)):=by
 generalize hR:Post encU B p w ((trompW r.base r.loc v).run S)=R
 have hO:Owes R encU B p w ((trompW r.base r.loc v).run S):=hR▸owes _ _ _ _ _
 clear hR
 obtain⟨kind,base,loc,n,wr,rd,top⟩:=r
 simp only at hb1 hb2 hl1 hl2 hO
 unfold encR
 obtain⟨b1,hK,hP⟩:=h.entry (.cells #[V Z kind,V Z base,V Z loc,V Z n,V Z wr,V Z rd,V Z top] 67)
 have c_b1:=b1.cells;clear h
 have hv:bitM v=0∨bitM v=1:=by unfold bitM;split <;> simp
 have hvb:(v != 0)=decide (bitM v=1):=by unfold bitM;by_cases hv:v=0 <;> simp [hv]
 unfold trompW at hO
 generalize bitM v=b at *
 rcases hv with rfl | rfl
 · go_enter Tryz.func283,Tryz.ntmps283
   go_wp2_with fail
   refine (get_p B p S (loc) _ hP).mono ?_
   rintro e w' ⟨rfl,rfl⟩;rw [run_gt] at hO
   generalize S.got (loc)=x at hO ⊢
   by_cases hx:x=0
   · rw [if_pos hx] at hO
     subst hx;go_wp2_with fail
     first | go_end0 | refine bodyPost_ret (results_none rfl _ _ _) rfl ?_
     exact hO.done hP hK
   · rw [if_neg hx] at hO
     have hx2:(x==0)=false:=by rw [beq_eq_false_iff_ne];exact hx
     go_wp2_with fail
     refine tstep hO hK (write_p B p S _ _ _ hP) (fun _ h=>⟨rfl,h⟩) ?_
     clear hO hK hP c_b1;intro u S w1 hr hP hk hK hO;replace b1:=b1.keep hk;have c_b1:=b1.cells;clear hk hr;go_wp2_with fail
     refine tstep hO hK (setO hP) (fun _ h=>⟨rfl,h⟩) ?_
     clear hO hK hP c_b1;intro u S w1 hr hP hk hK hO;replace b1:=b1.keep hk;have c_b1:=b1.cells;clear hk hr;go_wp2_with fail
     refine (get_p B p S (loc+1) _ hP).mono ?_
     rintro e w' ⟨rfl,rfl⟩;rw [run_gt] at hO
     generalize S.got (loc+1)=z at hO ⊢
     go_wp2_with fail
     refine tstep hO hK (read_p B p S _ _ hP) (fun _ h=>⟨rfl,h⟩) ?_
     clear hO hK hP c_b1;intro y S w1 hr hP hk hK hO;replace b1:=b1.keep hk;have c_b1:=b1.cells;clear hk hr
     by_cases hy:y=z
     · rw [if_pos hy] at hO
       subst hy;go_wp2_with fail
       refine tstep hO hK (write_p B p S _ _ _ hP) (fun _ h=>⟨rfl,h⟩) ?_
       clear hO hK hP c_b1;intro u S w1 hr hP hk hK hO;replace b1:=b1.keep hk;have c_b1:=b1.cells;clear hk hr;go_wp2_with fail
       refine tlast hO hK (setO hP) (fun _ h=>⟨rfl,h⟩) ?_
       clear hO hK hP c_b1;intro u S w1 hr hP hk hK hO;replace b1:=b1.keep hk;have c_b1:=b1.cells;clear hk hr;go_wp2_with fail
       first | go_end0 | refine bodyPost_ret (results_none rfl _ _ _) rfl ?_
       exact hO.done hP hK
     · rw [if_neg hy] at hO
       have hy2:(y==z)=false:=by rw [beq_eq_false_iff_ne];exact hy
       go_wp2_with fail
       first | go_end0 | refine bodyPost_ret (results_none rfl _ _ _) rfl ?_
       exact hO.done hP hK
 · go_enter Tryz.func283,Tryz.ntmps283
   go_wp2_with fail
   refine (get_p B p S (loc) _ hP).mono ?_
   rintro e w' ⟨rfl,rfl⟩;rw [run_gt] at hO
   generalize S.got (loc)=x at hO ⊢
   by_cases hx:x=1
   · rw [if_pos hx] at hO
     subst hx;go_wp2_with fail
     first | go_end0 | refine bodyPost_ret (results_none rfl _ _ _) rfl ?_
     exact hO.done hP hK
   · rw [if_neg hx] at hO
     have hx2:(x==1)=false:=by rw [beq_eq_false_iff_ne];exact hx
     go_wp2_with fail
     refine tstep hO hK (write_p B p S _ _ _ hP) (fun _ h=>⟨rfl,h⟩) ?_
     clear hO hK hP c_b1;intro u S w1 hr hP hk hK hO;replace b1:=b1.keep hk;have c_b1:=b1.cells;clear hk hr;go_wp2_with fail
     refine tstep hO hK (setO hP) (fun _ h=>⟨rfl,h⟩) ?_
     clear hO hK hP c_b1;intro u S w1 hr hP hk hK hO;replace b1:=b1.keep hk;have c_b1:=b1.cells;clear hk hr;go_wp2_with fail
     refine (get_p B p S (loc+1) _ hP).mono ?_
     rintro e w' ⟨rfl,rfl⟩;rw [run_gt] at hO
     generalize S.got (loc+1)=z at hO ⊢
     go_wp2_with fail
     refine tstep hO hK (read_p B p S _ _ hP) (fun _ h=>⟨rfl,h⟩) ?_
     clear hO hK hP c_b1;intro y S w1 hr hP hk hK hO;replace b1:=b1.keep hk;have c_b1:=b1.cells;clear hk hr
     by_cases hy:y=z
     · rw [if_pos hy] at hO
       subst hy;go_wp2_with fail
       refine tstep hO hK (write_p B p S _ _ _ hP) (fun _ h=>⟨rfl,h⟩) ?_
       clear hO hK hP c_b1;intro u S w1 hr hP hk hK hO;replace b1:=b1.keep hk;have c_b1:=b1.cells;clear hk hr;go_wp2_with fail
       refine tlast hO hK (setO hP) (fun _ h=>⟨rfl,h⟩) ?_
       clear hO hK hP c_b1;intro u S w1 hr hP hk hK hO;replace b1:=b1.keep hk;have c_b1:=b1.cells;clear hk hr;go_wp2_with fail
       first | go_end0 | refine bodyPost_ret (results_none rfl _ _ _) rfl ?_
       exact hO.done hP hK
     · rw [if_neg hy] at hO
       have hy2:(y==z)=false:=by rw [beq_eq_false_iff_ne];exact hy
       go_wp2_with fail
       first | go_end0 | refine bodyPost_ret (results_none rfl _ _ _) rfl ?_
       exact hO.done hP hK
theorem bit_r (v:Int)(w:World):Calls Tryz.prog 203 #[V Z v] w fun e w'=>e=.returned (V Z (bitM v))/\w=w':=by
 unfold bitM
 by_cases hv:v=0
 · subst hv
   go_enter Tryz.func203,Tryz.ntmps203
   go_wp2_with fail
   go_ret
   exact⟨rfl,rfl⟩
 · rw [if_neg hv]
   have hv2:(v==0)=false:=by rw [beq_eq_false_iff_ne];exact hv
   go_enter Tryz.func203,Tryz.ntmps203
   go_wp2_with fail
   go_ret
   exact⟨rfl,rfl⟩
theorem tromp_write_r (B p:Nat)(o:Bool)(S:TS)(r:Reg)(v:Int)(w:World)(h:RAt B w p o S)(hb1:0<=r.base)(hb2:r.base<=60000)(hl1:0<=r.loc)(hl2:r.loc<=60000) :
  Calls Tryz.prog 253 #[.pointer (some ⟨p,0,none⟩),encR r,V Z v] w (RPost encU B p w (trompW r.base r.loc v) o S):=by
 generalize hR:RPost encU B p w (trompW r.base r.loc v) o S=R
 have hO:ROwes R encU B p w (trompW r.base r.loc v) o S:=hR▸rowes _ _ _ _ _ _ _
 clear hR
 obtain⟨kind,base,loc,n,wr,rd,top⟩:=r
 simp only at hb1 hb2 hl1 hl2 hO
 unfold encR
 obtain⟨b1,hK,hP⟩:=h.entry (.cells #[V Z kind,V Z base,V Z loc,V Z n,V Z wr,V Z rd,V Z top] 67)
 have c_b1:=b1.cells;clear h;unfold trompW at hO
 go_enter Tryz.func253,Tryz.ntmps253
 go_wp2_with fail
 refine (bit_r v _).mono ?_
 rintro e w' ⟨rfl,rfl⟩
 generalize bitM v=b at *
 go_wp2_with fail
 refine (get_r B p o S (loc) _ hP).mono ?_
 rintro e w' ⟨rfl,rfl⟩;replace hO:=hO.get
 generalize S.got (loc)=x at hO ⊢
 by_cases hx:x=b
 · rw [if_pos hx] at hO
   subst hx;go_wp2_with fail
   first | go_end0 | refine bodyPost_ret (results_none rfl _ _ _) rfl ?_
   exact hO.ret hP hK
 · rw [if_neg hx] at hO
   have hx2:(x==b)=false:=by rw [beq_eq_false_iff_ne];exact hx
   go_wp2_with fail
   refine rstep hO hK (write_r B p o S _ _ _ hP) ?_
   clear hO hK hP c_b1;intro u o S w1 hP hk hK hO;replace b1:=b1.keep hk;have c_b1:=b1.cells;clear hk;go_wp2_with fail
   refine rstep hO hK (set_r B p o S _ _ _ hP) ?_
   clear hO hK hP c_b1;intro u o S w1 hP hk hK hO;replace b1:=b1.keep hk;have c_b1:=b1.cells;clear hk;go_wp2_with fail
   refine (get_r B p o S (loc+1) _ hP).mono ?_
   rintro e w' ⟨rfl,rfl⟩;replace hO:=hO.get
   generalize S.got (loc+1)=z at hO ⊢
   go_wp2_with fail
   refine rstep hO hK (read_r B p o S _ _ hP) ?_
   clear hO hK hP c_b1;intro y o S w1 hP hk hK hO;replace b1:=b1.keep hk;have c_b1:=b1.cells;clear hk
   by_cases hy:y=z
   · rw [if_pos hy] at hO
     subst hy
     obtain⟨_,_,_,_,_,hcc⟩:=hP.cell
     cases o with
     | true =>
       go_wp2_with fail
       first | go_end0 | refine bodyPost_ret (results_none rfl _ _ _) rfl ?_
       exact hO.over () hP hK
     | false =>
       go_wp2_with fail
       clear hcc
       refine rstep hO hK (write_r B p false S _ _ _ hP) ?_
       clear hO hK hP c_b1;intro u o S w1 hP hk hK hO;replace b1:=b1.keep hk;have c_b1:=b1.cells;clear hk;go_wp2_with fail
       refine rlast hO hK (set_r B p o S _ _ _ hP) ?_
       clear hO hK hP c_b1;intro u o S w1 hP hk hK hO;replace b1:=b1.keep hk;have c_b1:=b1.cells;clear hk;go_wp2_with fail
       first | go_end0 | refine bodyPost_ret (results_none rfl _ _ _) rfl ?_
       exact hO.ret hP hK
   · rw [if_neg hy] at hO
     have hy2:(y==z)=false:=by rw [beq_eq_false_iff_ne];exact hy
     go_wp2_with fail
     first | go_end0 | refine bodyPost_ret (results_none rfl _ _ _) rfl ?_
     exact hO.ret hP hK
set_option maxHeartbeats 2000000 in
theorem tromp_read_r (B p:Nat)(o:Bool)(S:TS)(r:Reg)(w:World)(h:RAt B w p o S)(hb1:0<=r.base)(hb2:r.base<=60000)(hl1:0<=r.loc)(hl2:r.loc<=60000) :
  Calls Tryz.prog 259 #[.pointer (some ⟨p,0,none⟩),encR r] w (RPost encI B p w (trompR r.base r.loc) o S):=by
 generalize hR:RPost encI B p w (trompR r.base r.loc) o S=R
 have hO:ROwes R encI B p w (trompR r.base r.loc) o S:=hR▸rowes _ _ _ _ _ _ _
 clear hR
 obtain⟨kind,base,loc,n,wr,rd,top⟩:=r
 simp only at hb1 hb2 hl1 hl2 hO
 unfold encR
 obtain⟨b1,hK,hP⟩:=h.entry (.cells #[V Z kind,V Z base,V Z loc,V Z n,V Z wr,V Z rd,V Z top] 67)
 have c_b1:=b1.cells;clear h;unfold trompR at hO
 go_enter Tryz.func259,Tryz.ntmps259
 go_wp2_with fail
 have hwb:=IntWalk.i64_in (base+1) (by omega)
 have hwv:=IntWalk.i64_in (loc+3) (by omega)
 have hw0:=IntWalk.i64_in base (by omega)
 have hwl:=IntWalk.i64_in (loc+2) (by omega)
 replace hP:=hP.drew;replace hK:=hK.drew;replace b1:=b1.drew
 go_region_held2 (fun w'=>w'.cell? ⟨w.heap.size,1,none⟩=some (V Z base)/\w'.cell? ⟨w.heap.size,2,none⟩=some (V Z loc)) (first | go_keep | exact⟨c_b1 1,c_b1 2⟩)
  (first
    | (go_at_call 134
       refine rstep hO hK (read_r B p o S _ _ hP) ?_
       clear hO hK hP c_b1;intro y o S w1 hP hk hK hO;replace b1:=b1.keep hk;have c_b1:=b1.cells
       clear hk)
    | (go_at_call 133
       refine (get_r B p o S (loc+2) _ hP).mono ?_
       rintro e w' ⟨rfl,rfl⟩;replace hO:=hO.get
       generalize S.got (loc+2)=g at hO ⊢))
 by_cases hy:y=g
 · rw [if_pos hy] at hO
   subst hy;go_wp2_with fail
   refine (get_r B p o S (loc+3) _ hP).mono ?_
   rintro e w' ⟨rfl,rfl⟩;replace hO:=hO.get1
   generalize S.got (loc+3)=z at hO ⊢
   go_wp2_with fail
   exact hO.ret hP hK
 · rw [if_neg hy] at hO
   have hy2:(y==g)=false:=by rw [beq_eq_false_iff_ne];exact hy
   have hy3:(y != g)=true:=by rw [bne_iff_ne];exact hy
   go_wp2_with fail
   refine rstep hO hK (read_r B p o S _ _ hP) ?_
   clear hO hK hP c_b1;intro x o S w1 hP hk hK hO;replace b1:=b1.keep hk;have c_b1:=b1.cells;clear hk;unfold trompR2 at hO;clear hy2 hy3 hy;go_wp2_with fail
   replace hP:=hP.drew;replace hK:=hK.drew;replace b1:=b1.drew
   go_region_held2 (fun w'=>w'.cell? ⟨w.heap.size,1,none⟩=some (V Z base)/\w'.cell? ⟨w.heap.size,2,none⟩=some (V Z loc)) (first | go_keep | exact⟨c_b1 1,c_b1 2⟩)
    (first
      | (go_at_call 134
         refine rstep hO hK (read_r B p o S _ _ hP) ?_
         clear hO hK hP c_b1;intro y o S w1 hP hk hK hO;replace b1:=b1.keep hk;have c_b1:=b1.cells
         clear hk)
      | (go_at_call 133
         refine (get_r B p o S (loc+2) _ hP).mono ?_
         rintro e w' ⟨rfl,rfl⟩;replace hO:=hO.get
         generalize S.got (loc+2)=g at hO ⊢))
   by_cases hy:y=g
   · rw [if_pos hy] at hO
     subst hy
     have hy:y=y:=rfl
     clear hy;go_wp2_with fail
     unfold trompR3 at hO;replace hP:=hP.drew;replace hK:=hK.drew;replace b1:=b1.drew
     go_region_held2 (fun w'=>w'.cell? ⟨w.heap.size,1,none⟩=some (V Z base)/\w'.cell? ⟨w.heap.size,2,none⟩=some (V Z loc)) (first | go_keep | exact⟨c_b1 1,c_b1 2⟩)
      (first
        | (go_at_call 134
           refine rstep hO hK (read_r B p o S _ _ hP) ?_
           clear hO hK hP c_b1;intro y o S w1 hP hk hK hO;replace b1:=b1.keep hk;have c_b1:=b1.cells
           clear hk)
        | (go_at_call 136
           refine rstep hO hK (set_r B p o S _ _ _ hP) ?_
           clear hO hK hP c_b1;intro u o S w1 hP hk hK hO;replace b1:=b1.keep hk;have c_b1:=b1.cells
           clear hk))
     go_wp2_with fail
     replace hP:=hP.drew;replace hK:=hK.drew;replace b1:=b1.drew
     go_region_held2 (fun w'=>w'.cell? ⟨w.heap.size,1,none⟩=some (V Z base)/\w'.cell? ⟨w.heap.size,2,none⟩=some (V Z loc)) (first | go_keep | exact⟨c_b1 1,c_b1 2⟩)
      (first
        | (go_at_call 134
           refine rstep hO hK (read_r B p o S _ _ hP) ?_
           clear hO hK hP c_b1;intro y o S w1 hP hk hK hO;replace b1:=b1.keep hk;have c_b1:=b1.cells
           clear hk)
        | (go_at_call 133
           refine (get_r B p o S (loc+2) _ hP).mono ?_
           rintro e w' ⟨rfl,rfl⟩;replace hO:=hO.get
           generalize S.got (loc+2)=g at hO ⊢))
     by_cases hy:y=g
     · rw [if_pos hy] at hO
       subst hy;go_wp2_with fail
       refine (get_r B p o S (loc+3) _ hP).mono ?_
       rintro e w' ⟨rfl,rfl⟩;replace hO:=hO.get1
       generalize S.got (loc+3)=z at hO ⊢
       go_wp2_with fail
       exact hO.ret hP hK
     · rw [if_neg hy] at hO
       have hy2:(y==g)=false:=by rw [beq_eq_false_iff_ne];exact hy
       have hy3:(y != g)=true:=by rw [bne_iff_ne];exact hy
       go_wp2_with fail
       replace hP:=hP.drew;replace hK:=hK.drew;replace b1:=b1.drew
       go_region_held2 (fun w'=>w'.cell? ⟨w.heap.size,1,none⟩=some (V Z base)/\w'.cell? ⟨w.heap.size,2,none⟩=some (V Z loc)) (first | go_keep | exact⟨c_b1 1,c_b1 2⟩)
        (first
          | (go_at_call 134
             refine rstep hO hK (read_r B p o S _ _ hP) ?_
             clear hO hK hP c_b1;intro y o S w1 hP hk hK hO;replace b1:=b1.keep hk;have c_b1:=b1.cells
             clear hk)
          | (go_at_call 136
             refine rstep hO hK (set_r B p o S _ _ _ hP) ?_
             clear hO hK hP c_b1;intro u o S w1 hP hk hK hO;replace b1:=b1.keep hk;have c_b1:=b1.cells
             clear hk))
       go_wp2_with fail
       exact hO.ret hP hK
   · rw [if_neg hy] at hO
     have hy2:(y==g)=false:=by rw [beq_eq_false_iff_ne];exact hy
     have hy3:(y != g)=true:=by rw [bne_iff_ne];exact hy
     go_wp2_with fail
     refine (get_r B p o S (loc+2) _ hP).mono ?_
     rintro e w' ⟨rfl,rfl⟩;replace hO:=hO.get
     generalize S.got (loc+2)=t at hO ⊢
     go_wp2_with fail
     refine rstep hO hK (write_r B p o S _ _ _ hP) ?_
     clear hO hK hP c_b1;intro u o S w1 hP hk hK hO;replace b1:=b1.keep hk;have c_b1:=b1.cells;clear hk;go_wp2_with fail
     refine rstep hO hK (set_r B p o S _ _ _ hP) ?_
     clear hO hK hP c_b1;intro u o S w1 hP hk hK hO;replace b1:=b1.keep hk;have c_b1:=b1.cells;clear hk;clear hy2 hy3;clear hy;go_wp2_with fail
     unfold trompR3 at hO;replace hP:=hP.drew;replace hK:=hK.drew;replace b1:=b1.drew
     go_region_held2 (fun w'=>w'.cell? ⟨w.heap.size,1,none⟩=some (V Z base)/\w'.cell? ⟨w.heap.size,2,none⟩=some (V Z loc)) (first | go_keep | exact⟨c_b1 1,c_b1 2⟩)
      (first
        | (go_at_call 134
           refine rstep hO hK (read_r B p o S _ _ hP) ?_
           clear hO hK hP c_b1;intro y o S w1 hP hk hK hO;replace b1:=b1.keep hk;have c_b1:=b1.cells
           clear hk)
        | (go_at_call 136
           refine rstep hO hK (set_r B p o S _ _ _ hP) ?_
           clear hO hK hP c_b1;intro u o S w1 hP hk hK hO;replace b1:=b1.keep hk;have c_b1:=b1.cells
           clear hk))
     go_wp2_with fail
     replace hP:=hP.drew;replace hK:=hK.drew;replace b1:=b1.drew
     go_region_held2 (fun w'=>w'.cell? ⟨w.heap.size,1,none⟩=some (V Z base)/\w'.cell? ⟨w.heap.size,2,none⟩=some (V Z loc)) (first | go_keep | exact⟨c_b1 1,c_b1 2⟩)
      (first
        | (go_at_call 134
           refine rstep hO hK (read_r B p o S _ _ hP) ?_
           clear hO hK hP c_b1;intro y o S w1 hP hk hK hO;replace b1:=b1.keep hk;have c_b1:=b1.cells
           clear hk)
        | (go_at_call 133
           refine (get_r B p o S (loc+2) _ hP).mono ?_
           rintro e w' ⟨rfl,rfl⟩;replace hO:=hO.get
           generalize S.got (loc+2)=g at hO ⊢))
     by_cases hy:y=g
     · rw [if_pos hy] at hO
       subst hy;go_wp2_with fail
       refine (get_r B p o S (loc+3) _ hP).mono ?_
       rintro e w' ⟨rfl,rfl⟩;replace hO:=hO.get1
       generalize S.got (loc+3)=z at hO ⊢
       go_wp2_with fail
       exact hO.ret hP hK
     · rw [if_neg hy] at hO
       have hy2:(y==g)=false:=by rw [beq_eq_false_iff_ne];exact hy
       have hy3:(y != g)=true:=by rw [bne_iff_ne];exact hy
       go_wp2_with fail
       replace hP:=hP.drew;replace hK:=hK.drew;replace b1:=b1.drew
       go_region_held2 (fun w'=>w'.cell? ⟨w.heap.size,1,none⟩=some (V Z base)/\w'.cell? ⟨w.heap.size,2,none⟩=some (V Z loc)) (first | go_keep | exact⟨c_b1 1,c_b1 2⟩)
        (first
          | (go_at_call 134
             refine rstep hO hK (read_r B p o S _ _ hP) ?_
             clear hO hK hP c_b1;intro y o S w1 hP hk hK hO;replace b1:=b1.keep hk;have c_b1:=b1.cells
             clear hk)
          | (go_at_call 136
             refine rstep hO hK (set_r B p o S _ _ _ hP) ?_
             clear hO hK hP c_b1;intro u o S w1 hP hk hK hO;replace b1:=b1.keep hk;have c_b1:=b1.cells
             clear hk))
       go_wp2_with fail
       exact hO.ret hP hK
set_option maxHeartbeats 2000000 in
theorem tromp_read_p (B p:Nat)(S:TS)(r:Reg)(w:World)(h:Plays B w p S)(hb1:0<=r.base)(hb2:r.base<=60000)(hl1:0<=r.loc)(hl2:r.loc<=60000) :
  Calls Tryz.prog 289 #[.pointer (some ⟨p,0,none⟩),encR r] w (Post encI B p w ((trompR r.base r.loc).run S)):=by
 generalize hR:Post encI B p w ((trompR r.base r.loc).run S)=R
 have hO:Owes R encI B p w ((trompR r.base r.loc).run S):=hR▸owes _ _ _ _ _
 clear hR
 obtain⟨kind,base,loc,n,wr,rd,top⟩:=r
 simp only at hb1 hb2 hl1 hl2 hO
 unfold encR
 obtain⟨b1,hK,hP⟩:=h.entry (.cells #[V Z kind,V Z base,V Z loc,V Z n,V Z wr,V Z rd,V Z top] 67)
 have c_b1:=b1.cells;clear h;unfold trompR at hO
 go_enter Tryz.func289,Tryz.ntmps289
 go_wp2_with fail
 refine wp_scope_fwd 0 rfl ?_
 go_wp2_with fail
 have hwb:=IntWalk.i64_in (base+1) (by omega)
 have hwv:=IntWalk.i64_in (loc+3) (by omega)
 have hw0:=IntWalk.i64_in base (by omega)
 have hwl:=IntWalk.i64_in (loc+2) (by omega)
 replace hP:=hP.drew;replace hK:=hK.drew;replace b1:=b1.drew
 go_region_held2 (fun w'=>w'.cell? ⟨w.heap.size,1,none⟩=some (V Z base)/\w'.cell? ⟨w.heap.size,2,none⟩=some (V Z loc)) (first | go_keep | exact⟨c_b1 1,c_b1 2⟩)
  (first
    | (go_at_call 146
       refine tstep hO hK (read_p B p S _ _ hP) (fun _ h=>⟨rfl,h⟩) ?_
       clear hO hK hP c_b1;intro y S w1 hr hP hk hK hO;replace b1:=b1.keep hk;have c_b1:=b1.cells
       clear hk hr)
    | (go_at_call 95
       refine (get_p B p S (loc+2) _ hP).mono ?_
       rintro e w' ⟨rfl,rfl⟩;rw [run_gt] at hO
       generalize S.got (loc+2)=g at hO ⊢))
 by_cases hy:y=g
 · rw [if_pos hy] at hO
   subst hy;go_wp2_with fail
   refine (get_p B p S (loc+3) _ hP).mono ?_
   rintro e w' ⟨rfl,rfl⟩;rw [run_gt1] at hO
   generalize S.got (loc+3)=z at hO ⊢
   go_wp2_with fail
   apply wp_goto
   refine⟨rfl,?_⟩
   go_wp2_with fail
   exact hO.done hP hK
 · rw [if_neg hy] at hO
   have hy2:(y==g)=false:=by rw [beq_eq_false_iff_ne];exact hy
   go_wp2_with fail
   refine tstep hO hK (read_p B p S _ _ hP) (fun _ h=>⟨rfl,h⟩) ?_
   clear hO hK hP c_b1;intro x S w1 hr hP hk hK hO;replace b1:=b1.keep hk;have c_b1:=b1.cells;clear hk hr;unfold trompR2 at hO;clear hy2 hy;go_wp2_with fail
   replace hP:=hP.drew;replace hK:=hK.drew;replace b1:=b1.drew
   go_region_held2 (fun w'=>w'.cell? ⟨w.heap.size,1,none⟩=some (V Z base)/\w'.cell? ⟨w.heap.size,2,none⟩=some (V Z loc)) (first | go_keep | exact⟨c_b1 1,c_b1 2⟩)
    (first
      | (go_at_call 146
         refine tstep hO hK (read_p B p S _ _ hP) (fun _ h=>⟨rfl,h⟩) ?_
         clear hO hK hP c_b1;intro y S w1 hr hP hk hK hO;replace b1:=b1.keep hk;have c_b1:=b1.cells
         clear hk hr)
      | (go_at_call 95
         refine (get_p B p S (loc+2) _ hP).mono ?_
         rintro e w' ⟨rfl,rfl⟩;rw [run_gt] at hO
         generalize S.got (loc+2)=g at hO ⊢))
   by_cases hy:y=g
   · rw [if_pos hy] at hO
     subst hy;go_wp2_with fail
     unfold trompR3 at hO;replace hP:=hP.drew;replace hK:=hK.drew;replace b1:=b1.drew
     go_region_held2 (fun w'=>w'.cell? ⟨w.heap.size,1,none⟩=some (V Z base)/\w'.cell? ⟨w.heap.size,2,none⟩=some (V Z loc)) (first | go_keep | exact⟨c_b1 1,c_b1 2⟩)
      (first
        | (go_at_call 146
           refine tstep hO hK (read_p B p S _ _ hP) (fun _ h=>⟨rfl,h⟩) ?_
           clear hO hK hP c_b1;intro y S w1 hr hP hk hK hO;replace b1:=b1.keep hk;have c_b1:=b1.cells
           clear hk hr)
        | (go_at_call 132
           refine tstep hO hK (setO hP) (fun _ h=>⟨rfl,h⟩) ?_
           clear hO hK hP c_b1;intro u S w1 hr hP hk hK hO;replace b1:=b1.keep hk;have c_b1:=b1.cells
           clear hk hr))
     go_wp2_with fail
     replace hP:=hP.drew;replace hK:=hK.drew;replace b1:=b1.drew
     go_region_held2 (fun w'=>w'.cell? ⟨w.heap.size,1,none⟩=some (V Z base)/\w'.cell? ⟨w.heap.size,2,none⟩=some (V Z loc)) (first | go_keep | exact⟨c_b1 1,c_b1 2⟩)
      (first
        | (go_at_call 146
           refine tstep hO hK (read_p B p S _ _ hP) (fun _ h=>⟨rfl,h⟩) ?_
           clear hO hK hP c_b1;intro y S w1 hr hP hk hK hO;replace b1:=b1.keep hk;have c_b1:=b1.cells
           clear hk hr)
        | (go_at_call 95
           refine (get_p B p S (loc+2) _ hP).mono ?_
           rintro e w' ⟨rfl,rfl⟩;rw [run_gt] at hO
           generalize S.got (loc+2)=g at hO ⊢))
     by_cases hy:y=g
     · rw [if_pos hy] at hO
       subst hy;go_wp2_with fail
       refine (get_p B p S (loc+3) _ hP).mono ?_
       rintro e w' ⟨rfl,rfl⟩;rw [run_gt1] at hO
       generalize S.got (loc+3)=z at hO ⊢
       go_wp2_with fail
       apply wp_goto
       refine⟨rfl,?_⟩
       go_wp2_with fail
       exact hO.done hP hK
     · rw [if_neg hy] at hO
       have hy2:(y==g)=false:=by rw [beq_eq_false_iff_ne];exact hy
       go_wp2_with fail
       replace hP:=hP.drew;replace hK:=hK.drew;replace b1:=b1.drew
       go_region_held2 (fun w'=>w'.cell? ⟨w.heap.size,1,none⟩=some (V Z base)/\w'.cell? ⟨w.heap.size,2,none⟩=some (V Z loc)) (first | go_keep | exact⟨c_b1 1,c_b1 2⟩)
        (first
          | (go_at_call 146
             refine tstep hO hK (read_p B p S _ _ hP) (fun _ h=>⟨rfl,h⟩) ?_
             clear hO hK hP c_b1;intro y S w1 hr hP hk hK hO;replace b1:=b1.keep hk;have c_b1:=b1.cells
             clear hk hr)
          | (go_at_call 132
             refine tstep hO hK (setO hP) (fun _ h=>⟨rfl,h⟩) ?_
             clear hO hK hP c_b1;intro u S w1 hr hP hk hK hO;replace b1:=b1.keep hk;have c_b1:=b1.cells
             clear hk hr))
       go_wp2_with fail
       apply wp_goto
       refine⟨rfl,?_⟩
       go_wp2_with fail
       exact hO.done hP hK
   · rw [if_neg hy] at hO
     have hy2:(y==g)=false:=by rw [beq_eq_false_iff_ne];exact hy
     go_wp2_with fail
     refine (get_p B p S (loc+2) _ hP).mono ?_
     rintro e w' ⟨rfl,rfl⟩;rw [run_gt] at hO
     generalize S.got (loc+2)=t at hO ⊢
     go_wp2_with fail
     refine tstep hO hK (write_p B p S _ _ _ hP) (fun _ h=>⟨rfl,h⟩) ?_
     clear hO hK hP c_b1;intro u S w1 hr hP hk hK hO;replace b1:=b1.keep hk;have c_b1:=b1.cells;clear hk hr;go_wp2_with fail
     refine tstep hO hK (setO hP) (fun _ h=>⟨rfl,h⟩) ?_
     clear hO hK hP c_b1;intro u S w1 hr hP hk hK hO;replace b1:=b1.keep hk;have c_b1:=b1.cells;clear hk hr;clear hy2 hy;go_wp2_with fail
     unfold trompR3 at hO;replace hP:=hP.drew;replace hK:=hK.drew;replace b1:=b1.drew
     go_region_held2 (fun w'=>w'.cell? ⟨w.heap.size,1,none⟩=some (V Z base)/\w'.cell? ⟨w.heap.size,2,none⟩=some (V Z loc)) (first | go_keep | exact⟨c_b1 1,c_b1 2⟩)
      (first
        | (go_at_call 146
           refine tstep hO hK (read_p B p S _ _ hP) (fun _ h=>⟨rfl,h⟩) ?_
           clear hO hK hP c_b1;intro y S w1 hr hP hk hK hO;replace b1:=b1.keep hk;have c_b1:=b1.cells
           clear hk hr)
        | (go_at_call 132
           refine tstep hO hK (setO hP) (fun _ h=>⟨rfl,h⟩) ?_
           clear hO hK hP c_b1;intro u S w1 hr hP hk hK hO;replace b1:=b1.keep hk;have c_b1:=b1.cells
           clear hk hr))
     go_wp2_with fail
     replace hP:=hP.drew;replace hK:=hK.drew;replace b1:=b1.drew
     go_region_held2 (fun w'=>w'.cell? ⟨w.heap.size,1,none⟩=some (V Z base)/\w'.cell? ⟨w.heap.size,2,none⟩=some (V Z loc)) (first | go_keep | exact⟨c_b1 1,c_b1 2⟩)
      (first
        | (go_at_call 146
           refine tstep hO hK (read_p B p S _ _ hP) (fun _ h=>⟨rfl,h⟩) ?_
           clear hO hK hP c_b1;intro y S w1 hr hP hk hK hO;replace b1:=b1.keep hk;have c_b1:=b1.cells
           clear hk hr)
        | (go_at_call 95
           refine (get_p B p S (loc+2) _ hP).mono ?_
           rintro e w' ⟨rfl,rfl⟩;rw [run_gt] at hO
           generalize S.got (loc+2)=g at hO ⊢))
     by_cases hy:y=g
     · rw [if_pos hy] at hO
       subst hy;go_wp2_with fail
       refine (get_p B p S (loc+3) _ hP).mono ?_
       rintro e w' ⟨rfl,rfl⟩;rw [run_gt1] at hO
       generalize S.got (loc+3)=z at hO ⊢
       go_wp2_with fail
       apply wp_goto
       refine⟨rfl,?_⟩
       go_wp2_with fail
       exact hO.done hP hK
     · rw [if_neg hy] at hO
       have hy2:(y==g)=false:=by rw [beq_eq_false_iff_ne];exact hy
       go_wp2_with fail
       replace hP:=hP.drew;replace hK:=hK.drew;replace b1:=b1.drew
       go_region_held2 (fun w'=>w'.cell? ⟨w.heap.size,1,none⟩=some (V Z base)/\w'.cell? ⟨w.heap.size,2,none⟩=some (V Z loc)) (first | go_keep | exact⟨c_b1 1,c_b1 2⟩)
        (first
          | (go_at_call 146
             refine tstep hO hK (read_p B p S _ _ hP) (fun _ h=>⟨rfl,h⟩) ?_
             clear hO hK hP c_b1;intro y S w1 hr hP hk hK hO;replace b1:=b1.keep hk;have c_b1:=b1.cells
             clear hk hr)
          | (go_at_call 132
             refine tstep hO hK (setO hP) (fun _ h=>⟨rfl,h⟩) ?_
             clear hO hK hP c_b1;intro u S w1 hr hP hk hK hO;replace b1:=b1.keep hk;have c_b1:=b1.cells
             clear hk hr))
       go_wp2_with fail
       apply wp_goto
       refine⟨rfl,?_⟩
       go_wp2_with fail
       exact hO.done hP hK
theorem other_p (b:Int)(w:World):Calls Tryz.prog 322 #[V Z b] w fun e w'=>e=.returned (V Z (otherM b))/\w=w':=by
 unfold otherM
 by_cases hb:b=0
 · subst hb
   go_enter Tryz.func322,Tryz.ntmps322
   go_wp2_with fail
   go_ret
   exact⟨rfl,rfl⟩
 · have hb2:(b==0)=false:=by rw [beq_eq_false_iff_ne];exact hb
   rw [if_neg hb]
   go_enter Tryz.func322,Tryz.ntmps322
   go_wp2_with fail
   go_ret
   exact⟨rfl,rfl⟩
theorem same_p (b:Int)(w:World):Calls Tryz.prog 334 #[V Z b] w fun e w'=>e=.returned (V Z (bitM b))/\w=w':=by
 have h:=other_p b
 unfold otherM at h
 unfold bitM
 by_cases hb:b=0
 · subst hb
   rw [if_pos rfl] at h
   rw [if_pos rfl]
   go_enter Tryz.func334,Tryz.ntmps334
   go_wp2_with fail
   refine (h _).mono ?_
   rintro e w' ⟨rfl,rfl⟩;go_wp2_with fail
   go_ret
   exact⟨rfl,rfl⟩
 · rw [if_neg hb] at h
   rw [if_neg hb]
   go_enter Tryz.func334,Tryz.ntmps334
   go_wp2_with fail
   refine (h _).mono ?_
   rintro e w' ⟨rfl,rfl⟩;go_wp2_with fail
   go_ret
   exact⟨rfl,rfl⟩
theorem index2_0 (w:World):(Instr.index 117 (.agg #[V Z 0,V Z 1]) (V Z 0)).run Tryz.prog w=.ok (V Z 0) w:=by kernel_rfl
theorem index2_1 (w:World):(Instr.index 117 (.agg #[V Z 0,V Z 1]) (V Z 1)).run Tryz.prog w=.ok (V Z 1) w:=by kernel_rfl
set_option maxRecDepth 100000 in
theorem slot_p (q:Int)(w:World)(h:q=0∨q=1):Calls Tryz.prog 325 #[V Z q] w fun e w'=>e=.returned (V Z q)/\Ext w w':=by
 have h0:=index2_0;have h1:=index2_1
 rcases h with rfl | rfl
 all_goals
  go_enter Tryz.func325,Tryz.ntmps325
  go_wp2_with fail
  go_ret
  exact⟨rfl,Ext.refl _⟩
theorem sbit_p (r:Reg)(n:Int)(w:World)(hn:0<=n/\n<=3)(hb1:0<=r.base)(hb2:r.base<=60000)(hl1:0<=r.loc)(hl2:r.loc<=60000) :
  Calls Tryz.prog 323 #[encR r,V Z n] w fun e w'=>e=.returned (encR { r with kind:=4,base:=r.base+(4+3*n),loc:=r.loc+(2+4*n),top:=1 })/\Ext w w':=by
 obtain⟨kind,base,loc,nn,wr,rd,top⟩:=r
 simp only at hb1 hb2 hl1 hl2
 unfold encR
 go_enter Tryz.func323,Tryz.ntmps323
 go_wp2_with fail
 refine bodyPost_ret (v:=.agg #[V Z 4,V Z (base+(4+3*n)),V Z (loc+(2+4*n)),V Z nn,V Z wr,V Z rd,V Z 1]) (by simp [results,Tryz.results323,go_sem]) rfl ?_
 exact⟨rfl,((Ext.refl _).alloc _).alloc _⟩
theorem scell_p (r:Reg)(q i:Int)(w:World)(hq:q=0∨q=1)(hi:i=0∨i=1)(hb1:0<=r.base)(hb2:r.base<=60000) :
  Calls Tryz.prog 324 #[encR r,V Z q,V Z i] w fun e w'=>e=.returned (V Z (r.base+(2*q+i)))/\Ext w w':=by
 obtain⟨kind,base,loc,nn,wr,rd,top⟩:=r
 simp only at hb1 hb2
 unfold encR
 rcases hq with rfl | rfl <;> rcases hi with rfl | rfl
 all_goals
  go_enter Tryz.func324,Tryz.ntmps324
  go_wp2_with fail
  go_quiet (fail)
  go_wp2_with fail
  go_ret
  exact⟨ret_int (by show _=_;omega),(((Ext.refl _).alloc _).alloc _).drewN _⟩
theorem other_01 (y:Int):otherM y=0∨otherM y=1:=by unfold otherM;split <;> simp
theorem bit_01 (y:Int):bitM y=0∨bitM y=1:=by unfold bitM;split <;> simp
set_option maxHeartbeats 2000000 in
theorem slots_write_p (B p:Nat)(S:TS)(r:Reg)(v:Int)(w:World)(h:Plays B w p S)(hb1:0<=r.base)(hb2:r.base<=59000)(hl1:0<=r.loc)(hl2:r.loc<=59000) :
  Calls Tryz.prog 284 #[.pointer (some ⟨p,0,none⟩),encR r,V Z v] w (Post encU B p w ((slotsW r.base r.loc v).run S)):=by
 generalize hR:Post encU B p w ((slotsW r.base r.loc v).run S)=R
 have hO:Owes R encU B p w ((slotsW r.base r.loc v).run S):=hR▸owes _ _ _ _ _
 clear hR
 obtain⟨kind,base,loc,n,wr,rd,top⟩:=r
 simp only at hb1 hb2 hl1 hl2 hO
 unfold encR
 obtain⟨b1,hK,hP⟩:=h.entry (.cells #[V Z kind,V Z base,V Z loc,V Z n,V Z wr,V Z rd,V Z top] 67)
 have c_b1:=b1.cells;clear h;unfold slotsW at hO
 go_enter Tryz.func284,Tryz.ntmps284
 go_wp2_with fail
 refine (sbit_p ⟨kind,base,loc,n,wr,rd,top⟩ 3 _ (by omega) hb1 (by simp only;omega) hl1 (by simp only;omega)).mono ?_
 rintro e w2 ⟨rfl,hx⟩
 clear c_b1;replace hK:=hK.trans (Keep.of_ext hx hP.lt hP.le);replace b1:=b1.ext hx hP.lt;have c_b1:=b1.cells;replace hP:=hP.ext hx;clear hx;go_wp2_with fail
 refine tstep hO hK (tromp_read_p B p S ⟨4,base+13,loc+14,n,wr,rd,1⟩ _ hP (by simp only;omega) (by simp only;omega) (by simp only;omega) (by simp only;omega)) (fun _ h=>⟨rfl,h⟩) ?_
 clear hO hK hP c_b1;intro y S w1 hr hP hk hK hO;replace b1:=b1.keep hk;have c_b1:=b1.cells;clear hk hr;go_wp2_with fail
 refine (other_p y _).mono ?_
 rintro e w' ⟨rfl,rfl⟩
 have hq:=other_01 y
 generalize otherM y=q at *
 have hq0:0<=q/\q<=1:=by omega
 go_wp2_with fail
 refine (get_p B p S (loc+q) _ hP).mono ?_
 rintro e w' ⟨rfl,rfl⟩;rw [run_gt] at hO
 generalize S.got (loc+q)=z at hO ⊢
 go_wp2_with fail
 refine (other_p z _).mono ?_
 rintro e w' ⟨rfl,rfl⟩
 have hi:=other_01 z
 generalize otherM z=i at *
 have hi0:0<=i/\i<=1:=by omega
 go_wp2_with fail
 refine (scell_p ⟨kind,base,loc,n,wr,rd,top⟩ q i _ hq hi hb1 (by simp only;omega)).mono ?_
 rintro e w2 ⟨rfl,hx⟩
 clear c_b1;replace hK:=hK.trans (Keep.of_ext hx hP.lt hP.le);replace b1:=b1.ext hx hP.lt;have c_b1:=b1.cells;replace hP:=hP.ext hx;clear hx;go_wp2_with fail
 refine tstep hO hK (write_p B p S _ _ _ hP) (fun _ h=>⟨rfl,h⟩) ?_
 clear hO hK hP c_b1;intro u S w1 hr hP hk hK hO;replace b1:=b1.keep hk;have c_b1:=b1.cells;clear hk hr;go_wp2_with fail
 refine tstep hO hK (setO hP) (fun _ h=>⟨rfl,h⟩) ?_
 clear hO hK hP c_b1;intro u S w1 hr hP hk hK hO;replace b1:=b1.keep hk;have c_b1:=b1.cells;clear hk hr;go_wp2_with fail
 replace hP:=hP.drew;replace hK:=hK.drew;replace b1:=b1.drew
 go_region_held2 (fun w'=>∀ i:Nat,w'.cell? ⟨w.heap.size,i,none⟩=(#[V Z kind,V Z base,V Z loc,V Z n,V Z wr,V Z rd,V Z top]:Array Value)[i]?) (first | go_keep | exact c_b1)
  (first
    | (go_at_call 325
       refine (slot_p q _ hq).mono ?_
       rintro e w2 ⟨rfl,hx⟩
       clear c_b1;replace hK:=hK.trans (Keep.of_ext hx hP.lt hP.le);replace b1:=b1.ext hx hP.lt;have c_b1:=b1.cells;replace hP:=hP.ext hx
       clear hx)
    | (go_at_call 323
       refine (sbit_p ⟨kind,base,loc,n,wr,rd,top⟩ q _ (by omega) hb1 (by simp only;omega) hl1 (by simp only;omega)).mono ?_
       rintro e w2 ⟨rfl,hx⟩
       clear c_b1;replace hK:=hK.trans (Keep.of_ext hx hP.lt hP.le);replace b1:=b1.ext hx hP.lt;have c_b1:=b1.cells;replace hP:=hP.ext hx
       clear hx)
    | (go_at_call 283
       refine tstep hO hK (tromp_write_p B p S ⟨4,base+(4+3*q),loc+(2+4*q),n,wr,rd,1⟩ i _ hP (by simp only;omega) (by simp only;omega) (by simp only;omega) (by simp only;omega)) (fun _ h=>⟨rfl,h⟩) ?_
       clear hO hK hP c_b1;intro u S w1 hr hP hk hK hO;replace b1:=b1.keep hk;have c_b1:=b1.cells
       clear hk hr))
 go_wp2_with fail
 refine (sbit_p ⟨kind,base,loc,n,wr,rd,top⟩ 2 _ (by omega) hb1 (by simp only;omega) hl1 (by simp only;omega)).mono ?_
 rintro e w2 ⟨rfl,hx⟩
 clear c_b1;replace hK:=hK.trans (Keep.of_ext hx hP.lt hP.le);replace b1:=b1.ext hx hP.lt;have c_b1:=b1.cells;replace hP:=hP.ext hx;clear hx;go_wp2_with fail
 refine tlast hO hK (tromp_write_p B p S ⟨4,base+10,loc+10,n,wr,rd,1⟩ q _ hP (by simp only;omega) (by simp only;omega) (by simp only;omega) (by simp only;omega)) (fun _ h=>⟨rfl,h⟩) ?_
 clear hO hK hP c_b1;intro u S w1 hr hP hk hK hO;replace b1:=b1.keep hk;have c_b1:=b1.cells;clear hk hr;go_wp2_with fail
 first | go_end0 | refine bodyPost_ret (results_none rfl _ _ _) rfl ?_
 exact hO.done hP hK
set_option maxHeartbeats 2000000 in
theorem slots_read_p (B p:Nat)(S:TS)(r:Reg)(w:World)(h:Plays B w p S)(hb1:0<=r.base)(hb2:r.base<=59000)(hl1:0<=r.loc)(hl2:r.loc<=59000) :
  Calls Tryz.prog 290 #[.pointer (some ⟨p,0,none⟩),encR r] w (Post encI B p w ((slotsR r.base r.loc).run S)):=by
 generalize hR:Post encI B p w ((slotsR r.base r.loc).run S)=R
 have hO:Owes R encI B p w ((slotsR r.base r.loc).run S):=hR▸owes _ _ _ _ _
 clear hR
 obtain⟨kind,base,loc,n,wr,rd,top⟩:=r
 simp only at hb1 hb2 hl1 hl2 hO
 unfold encR
 obtain⟨b1,hK,hP⟩:=h.entry (.cells #[V Z kind,V Z base,V Z loc,V Z n,V Z wr,V Z rd,V Z top] 67)
 have c_b1:=b1.cells;clear h;unfold slotsR at hO
 go_enter Tryz.func290,Tryz.ntmps290
 go_wp2_with fail
 refine (sbit_p ⟨kind,base,loc,n,wr,rd,top⟩ 2 _ (by omega) hb1 (by simp only;omega) hl1 (by simp only;omega)).mono ?_
 rintro e w2 ⟨rfl,hx⟩
 clear c_b1;replace hK:=hK.trans (Keep.of_ext hx hP.lt hP.le);replace b1:=b1.ext hx hP.lt;have c_b1:=b1.cells;replace hP:=hP.ext hx;clear hx;go_wp2_with fail
 refine tstep hO hK (tromp_read_p B p S ⟨4,base+10,loc+10,n,wr,rd,1⟩ _ hP (by simp only;omega) (by simp only;omega) (by simp only;omega) (by simp only;omega)) (fun _ h=>⟨rfl,h⟩) ?_
 clear hO hK hP c_b1;intro y S w1 hr hP hk hK hO;replace b1:=b1.keep hk;have c_b1:=b1.cells;clear hk hr;go_wp2_with fail
 refine (same_p y _).mono ?_
 rintro e w' ⟨rfl,rfl⟩
 have hq:=bit_01 y
 generalize bitM y=q at *
 have hq0:0<=q/\q<=1:=by omega
 go_wp2_with fail
 refine (sbit_p ⟨kind,base,loc,n,wr,rd,top⟩ 3 _ (by omega) hb1 (by simp only;omega) hl1 (by simp only;omega)).mono ?_
 rintro e w2 ⟨rfl,hx⟩
 clear c_b1;replace hK:=hK.trans (Keep.of_ext hx hP.lt hP.le);replace b1:=b1.ext hx hP.lt;have c_b1:=b1.cells;replace hP:=hP.ext hx;clear hx;go_wp2_with fail
 refine tstep hO hK (tromp_write_p B p S ⟨4,base+13,loc+14,n,wr,rd,1⟩ q _ hP (by simp only;omega) (by simp only;omega) (by simp only;omega) (by simp only;omega)) (fun _ h=>⟨rfl,h⟩) ?_
 clear hO hK hP c_b1;intro u S w1 hr hP hk hK hO;replace b1:=b1.keep hk;have c_b1:=b1.cells;clear hk hr;go_wp2_with fail
 replace hP:=hP.drew;replace hK:=hK.drew;replace b1:=b1.drew
 go_region_held2 (fun w'=>∀ i:Nat,w'.cell? ⟨w.heap.size,i,none⟩=(#[V Z kind,V Z base,V Z loc,V Z n,V Z wr,V Z rd,V Z top]:Array Value)[i]?) (first | go_keep | exact c_b1)
  (first
    | (go_at_call 325
       refine (slot_p q _ hq).mono ?_
       rintro e w2 ⟨rfl,hx⟩
       clear c_b1;replace hK:=hK.trans (Keep.of_ext hx hP.lt hP.le);replace b1:=b1.ext hx hP.lt;have c_b1:=b1.cells;replace hP:=hP.ext hx
       clear hx)
    | (go_at_call 323
       refine (sbit_p ⟨kind,base,loc,n,wr,rd,top⟩ q _ (by omega) hb1 (by simp only;omega) hl1 (by simp only;omega)).mono ?_
       rintro e w2 ⟨rfl,hx⟩
       clear c_b1;replace hK:=hK.trans (Keep.of_ext hx hP.lt hP.le);replace b1:=b1.ext hx hP.lt;have c_b1:=b1.cells;replace hP:=hP.ext hx
       clear hx)
    | (go_at_call 289
       refine tstep hO hK (tromp_read_p B p S ⟨4,base+(4+3*q),loc+(2+4*q),n,wr,rd,1⟩ _ hP (by simp only;omega) (by simp only;omega) (by simp only;omega) (by simp only;omega)) (fun _ h=>⟨rfl,h⟩) ?_
       clear hO hK hP c_b1;intro z S w1 hr hP hk hK hO;replace b1:=b1.keep hk;have c_b1:=b1.cells
       clear hk hr)
    | (go_at_call 334
       refine (same_p z _).mono ?_
       rintro e w' ⟨rfl,rfl⟩))
 have hi:=bit_01 z
 generalize bitM z=i at *
 have hi0:0<=i/\i<=1:=by omega
 go_wp2_with fail
 refine (scell_p ⟨kind,base,loc,n,wr,rd,top⟩ q i _ hq hi hb1 (by simp only;omega)).mono ?_
 rintro e w2 ⟨rfl,hx⟩
 clear c_b1;replace hK:=hK.trans (Keep.of_ext hx hP.lt hP.le);replace b1:=b1.ext hx hP.lt;have c_b1:=b1.cells;replace hP:=hP.ext hx;clear hx;go_wp2_with fail
 refine tlast hO hK (read_p B p S _ _ hP) (fun _ h=>⟨rfl,h⟩) ?_
 clear hO hK hP c_b1;intro x S w1 hr hP hk hK hO;replace b1:=b1.keep hk;have c_b1:=b1.cells;clear hk hr;go_wp2_with fail
 exact hO.done hP hK
theorem rbit_r (r:Reg)(n:Int)(w:World)(hn:0<=n/\n<=3)(hb1:0<=r.base)(hb2:r.base<=60000)(hl1:0<=r.loc)(hl2:r.loc<=60000) :
  Calls Tryz.prog 299 #[encR r,V Z n] w fun e w'=>e=.returned (encR ⟨0,r.base+(4+3*n),r.loc+(2+4*n),0,0,0,0⟩)/\Ext w w':=by
 obtain⟨kind,base,loc,nn,wr,rd,top⟩:=r
 simp only at hb1 hb2 hl1 hl2
 unfold encR
 simp only [<- Int.add_assoc]
 go_enter Tryz.func299,Tryz.ntmps299
 go_wp2_with fail
 refine bodyPost_ret (v:=.agg #[V Z 0,V Z (base+4+3*n),V Z (loc+2+4*n),V Z 0,V Z 0,V Z 0,V Z 0]) (by simp [results,Tryz.results299,go_sem]) rfl ?_
 exact⟨rfl,((Ext.refl _).alloc _).alloc _⟩
theorem other_bit (y:Int):otherM y=1-bitM y:=by unfold otherM bitM;split <;> rfl
set_option maxHeartbeats 2000000 in
theorem slots_write_r (B p:Nat)(o:Bool)(S:TS)(r:Reg)(v:Int)(w:World)(h:RAt B w p o S)(hb1:0<=r.base)(hb2:r.base<=59000)(hl1:0<=r.loc)(hl2:r.loc<=59000) :
  Calls Tryz.prog 254 #[.pointer (some ⟨p,0,none⟩),encR r,V Z v] w (RPost encU B p w (slotsW r.base r.loc v) o S):=by
 generalize hR:RPost encU B p w (slotsW r.base r.loc v) o S=R
 have hO:ROwes R encU B p w (slotsW r.base r.loc v) o S:=hR▸rowes _ _ _ _ _ _ _
 clear hR
 obtain⟨kind,base,loc,n,wr,rd,top⟩:=r
 simp only at hb1 hb2 hl1 hl2 hO
 unfold encR
 obtain⟨b1,hK,hP⟩:=h.entry (.cells #[V Z kind,V Z base,V Z loc,V Z n,V Z wr,V Z rd,V Z top] 67)
 have c_b1:=b1.cells;clear h;unfold slotsW at hO
 go_enter Tryz.func254,Tryz.ntmps254
 go_wp2_with fail
 refine (rbit_r ⟨kind,base,loc,n,wr,rd,top⟩ 3 _ (by omega) hb1 (by simp only;omega) hl1 (by simp only;omega)).mono ?_
 rintro e w2 ⟨rfl,hx⟩
 clear c_b1;replace hK:=hK.trans (Keep.of_ext hx hP.lt hP.le);replace b1:=b1.ext hx hP.lt;have c_b1:=b1.cells;replace hP:=hP.ext hx;clear hx;go_wp2_with fail
 refine rstep hO hK (tromp_read_r B p o S ⟨0,base+13,loc+14,0,0,0,0⟩ _ hP (by simp only;omega) (by simp only;omega) (by simp only;omega) (by simp only;omega)) ?_
 clear hO hK hP c_b1;intro y o S w1 hP hk hK hO;replace b1:=b1.keep hk;have c_b1:=b1.cells;clear hk
 simp only [other_bit] at hO
 have hq:=bit_01 y
 go_wp2_with fail
 refine (bit_r y _).mono ?_
 rintro e w' ⟨rfl,rfl⟩
 generalize bitM y=q' at *
 have hw:=IntWalk.i64_in (1-q') (by omega)
 go_wp2_with fail
 generalize hq2:1-q'=q at *
 have hq:0<=q/\q<=1:=by omega
 clear hq2
 refine (get_r B p o S (loc+q) _ hP).mono ?_
 rintro e w' ⟨rfl,rfl⟩;replace hO:=hO.get
 generalize S.got (loc+q)=z at hO ⊢
 go_wp2_with fail
 have hi:=bit_01 z
 refine (bit_r z _).mono ?_
 rintro e w' ⟨rfl,rfl⟩
 generalize bitM z=i' at *
 have hw2:=IntWalk.i64_in (1-i') (by omega)
 go_wp2_with fail
 generalize hi2:1-i'=i at *
 have hi:0<=i/\i<=1:=by omega
 clear hi2
 rw [show base+(2*q+i)=base+2*q+i from by omega] at hO
 go_wp2_with fail
 refine rstep hO hK (write_r B p o S _ _ _ hP) ?_
 clear hO hK hP c_b1;intro u o S w1 hP hk hK hO;replace b1:=b1.keep hk;have c_b1:=b1.cells;clear hk;go_wp2_with fail
 refine rstep hO hK (set_r B p o S _ _ _ hP) ?_
 clear hO hK hP c_b1;intro u o S w1 hP hk hK hO;replace b1:=b1.keep hk;have c_b1:=b1.cells;clear hk;go_wp2_with fail
 refine (rbit_r ⟨kind,base,loc,n,wr,rd,top⟩ q _ (by omega) hb1 (by simp only;omega) hl1 (by simp only;omega)).mono ?_
 rintro e w2 ⟨rfl,hx⟩
 clear c_b1;replace hK:=hK.trans (Keep.of_ext hx hP.lt hP.le);replace b1:=b1.ext hx hP.lt;have c_b1:=b1.cells;replace hP:=hP.ext hx;clear hx;go_wp2_with fail
 refine rstep hO hK (tromp_write_r B p o S ⟨0,base+(4+3*q),loc+(2+4*q),0,0,0,0⟩ i _ hP (by simp only;omega) (by simp only;omega) (by simp only;omega) (by simp only;omega)) ?_
 clear hO hK hP c_b1;intro u o S w1 hP hk hK hO;replace b1:=b1.keep hk;have c_b1:=b1.cells;clear hk;go_wp2_with fail
 refine (rbit_r ⟨kind,base,loc,n,wr,rd,top⟩ 2 _ (by omega) hb1 (by simp only;omega) hl1 (by simp only;omega)).mono ?_
 rintro e w2 ⟨rfl,hx⟩
 clear c_b1;replace hK:=hK.trans (Keep.of_ext hx hP.lt hP.le);replace b1:=b1.ext hx hP.lt;have c_b1:=b1.cells;replace hP:=hP.ext hx;clear hx;go_wp2_with fail
 refine rlast hO hK (tromp_write_r B p o S ⟨0,base+10,loc+10,0,0,0,0⟩ q _ hP (by simp only;omega) (by simp only;omega) (by simp only;omega) (by simp only;omega)) ?_
 clear hO hK hP c_b1;intro u o S w1 hP hk hK hO;replace b1:=b1.keep hk;have c_b1:=b1.cells;clear hk;go_wp2_with fail
 first | go_end0 | refine bodyPost_ret (results_none rfl _ _ _) rfl ?_
 exact hO.ret hP hK
set_option maxHeartbeats 2000000 in
theorem slots_read_r (B p:Nat)(o:Bool)(S:TS)(r:Reg)(w:World)(h:RAt B w p o S)(hb1:0<=r.base)(hb2:r.base<=59000)(hl1:0<=r.loc)(hl2:r.loc<=59000) :
  Calls Tryz.prog 260 #[.pointer (some ⟨p,0,none⟩),encR r] w (RPost encI B p w (slotsR r.base r.loc) o S):=by
 generalize hR:RPost encI B p w (slotsR r.base r.loc) o S=R
 have hO:ROwes R encI B p w (slotsR r.base r.loc) o S:=hR▸rowes _ _ _ _ _ _ _
 clear hR
 obtain⟨kind,base,loc,n,wr,rd,top⟩:=r
 simp only at hb1 hb2 hl1 hl2 hO
 unfold encR
 obtain⟨b1,hK,hP⟩:=h.entry (.cells #[V Z kind,V Z base,V Z loc,V Z n,V Z wr,V Z rd,V Z top] 67)
 have c_b1:=b1.cells;clear h;unfold slotsR at hO
 go_enter Tryz.func260,Tryz.ntmps260
 go_wp2_with fail
 refine (rbit_r ⟨kind,base,loc,n,wr,rd,top⟩ 2 _ (by omega) hb1 (by simp only;omega) hl1 (by simp only;omega)).mono ?_
 rintro e w2 ⟨rfl,hx⟩
 clear c_b1;replace hK:=hK.trans (Keep.of_ext hx hP.lt hP.le);replace b1:=b1.ext hx hP.lt;have c_b1:=b1.cells;replace hP:=hP.ext hx;clear hx;go_wp2_with fail
 refine rstep hO hK (tromp_read_r B p o S ⟨0,base+10,loc+10,0,0,0,0⟩ _ hP (by simp only;omega) (by simp only;omega) (by simp only;omega) (by simp only;omega)) ?_
 clear hO hK hP c_b1;intro y o S w1 hP hk hK hO;replace b1:=b1.keep hk;have c_b1:=b1.cells;clear hk
 have hq:=bit_01 y
 go_wp2_with fail
 refine (bit_r y _).mono ?_
 rintro e w' ⟨rfl,rfl⟩
 generalize bitM y=q at *
 go_wp2_with fail
 refine (rbit_r ⟨kind,base,loc,n,wr,rd,top⟩ 3 _ (by omega) hb1 (by simp only;omega) hl1 (by simp only;omega)).mono ?_
 rintro e w2 ⟨rfl,hx⟩
 clear c_b1;replace hK:=hK.trans (Keep.of_ext hx hP.lt hP.le);replace b1:=b1.ext hx hP.lt;have c_b1:=b1.cells;replace hP:=hP.ext hx;clear hx;go_wp2_with fail
 refine rstep hO hK (tromp_write_r B p o S ⟨0,base+13,loc+14,0,0,0,0⟩ q _ hP (by simp only;omega) (by simp only;omega) (by simp only;omega) (by simp only;omega)) ?_
 clear hO hK hP c_b1;intro u o S w1 hP hk hK hO;replace b1:=b1.keep hk;have c_b1:=b1.cells;clear hk;go_wp2_with fail
 refine (rbit_r ⟨kind,base,loc,n,wr,rd,top⟩ q _ (by omega) hb1 (by simp only;omega) hl1 (by simp only;omega)).mono ?_
 rintro e w2 ⟨rfl,hx⟩
 clear c_b1;replace hK:=hK.trans (Keep.of_ext hx hP.lt hP.le);replace b1:=b1.ext hx hP.lt;have c_b1:=b1.cells;replace hP:=hP.ext hx;clear hx;go_wp2_with fail
 refine rstep hO hK (tromp_read_r B p o S ⟨0,base+(4+3*q),loc+(2+4*q),0,0,0,0⟩ _ hP (by simp only;omega) (by simp only;omega) (by simp only;omega) (by simp only;omega)) ?_
 clear hO hK hP c_b1;intro z o S w1 hP hk hK hO;replace b1:=b1.keep hk;have c_b1:=b1.cells;clear hk
 have hi:=bit_01 z
 go_wp2_with fail
 refine (bit_r z _).mono ?_
 rintro e w' ⟨rfl,rfl⟩
 generalize bitM z=i at *
 rw [show base+(2*q+i)=base+2*q+i from by omega] at hO
 have hq0:0<=q/\q<=1:=by omega
 have hi0:0<=i/\i<=1:=by omega
 go_wp2_with fail
 refine rlast hO hK (read_r B p o S _ _ hP) ?_
 clear hO hK hP c_b1;intro x o S w1 hP hk hK hO;replace b1:=b1.keep hk;have c_b1:=b1.cells;clear hk;go_wp2_with fail
 exact hO.ret hP hK
end Go.Proofs.YtbaajjkopdjbgaaGreat
namespace Kv
def rdrs (wr:Int):Nat->List Int
 | 0=>[]
 | j+1=>if (j:Int)=wr then rdrs wr j else rdrs wr j++[(j:Int)]
theorem rdrs_len (wr:Nat):∀ j:Nat,(rdrs wr j).length=if wr<j then j-1 else j
 | 0=>by simp [rdrs]
 | j+1=>by
   have h:=rdrs_len wr j
   unfold rdrs
   by_cases e:j=wr
   · rw [if_pos (by omega),h,if_neg (by omega),if_pos (by omega)];omega
   · rw [if_neg (by omega),List.length_append,h]
     simp only [List.length_singleton]
     by_cases e2:wr<j
     · rw [if_pos e2,if_pos (by omega)];omega
     · rw [if_neg e2,if_neg (by omega)]
theorem rdrs_at (wr:Nat):∀ j i:Nat,i<(rdrs wr j).length->(rdrs wr j).getD i 0=if i<wr then (i:Int) else i+1
 | 0,i,h=>by simp [rdrs] at h
 | j+1,i,h=>by
   have hl:=rdrs_len wr j
   unfold rdrs at h ⊢
   by_cases e:j=wr
   · rw [if_pos (by omega)] at h ⊢
     exact rdrs_at wr j i h
   · rw [if_neg (by omega)] at h ⊢
     rw [List.length_append,List.length_singleton] at h
     by_cases e2:i<(rdrs wr j).length
     · rw [<- rdrs_at wr j i e2]
       simp [List.getD,List.getElem?_append,e2]
     · obtain rfl:i=(rdrs wr j).length:=by omega
       simp only [List.getD_eq_getElem?_getD,List.getElem?_append,Nat.lt_irrefl,if_false,Nat.sub_self]
       show (j:Int)=_
       rw [hl]
       by_cases e3:wr<j
       · rw [if_pos e3,if_neg (by omega)];omega
       · rw [if_neg e3,if_pos (by omega)]
end Kv
namespace Go.Proofs.YtbaajjkopdjbgaaGreat
open Go.RowKit Kv
def Blk (w:World) (b:Nat) (o:Obj):Prop:=w.heap[b]?=some o
theorem Blk.lt {w:World}{b:Nat}{o:Obj}(h:Blk w b o):b<w.heap.size:=(Array.getElem?_eq_some_iff.1 h).1
theorem Blk.new (w:World)(o:Obj):Blk (w.alloc o) w.heap.size o:=heap_alloc_new w o
theorem Blk.ext {w w':World}{b:Nat}{o:Obj}(h:Blk w b o)(hx:Ext w w'):Blk w' b o:=(Below.block hx b (Array.getElem?_eq_some_iff.1 h).1).trans h
theorem Blk.alloc {w:World}{b:Nat}{o:Obj}(h:Blk w b o)(o':Obj):Blk (w.alloc o') b o:=h.ext ((Ext.refl w).alloc o')
theorem Blk.drew {w:World}{b:Nat}{o:Obj}(h:Blk w b o):Blk w.drew b o:=h
theorem Blk.cells {w:World}{b:Nat}{cs:Array Value}{t:TypeId}{fz:Nat × Nat}(h:Blk w b (.cells cs t fz))(i:Nat):w.cell? ⟨b,i,none⟩=cs[i]?:=cell_of_heap h i
theorem rn_r (r:Reg)(w:World)(h1:1<=r.n)(h2:r.n<=8):Calls Tryz.prog 184 #[encR r] w fun e w'=>e=.returned (V Z r.n)/\Ext w w':=by
 obtain⟨kind,base,loc,n,wr,rd,top⟩:=r
 simp only at h1 h2
 have hc:clamp n 8=n:=by unfold clamp within;omega
 have hx:=Hd ((Ext.refl w).alloc (.cells #[V Z kind,V Z base,V Z loc,V Z n,V Z wr,V Z rd,V Z top] 67))
 unfold encR
 go_enter Tryz.func184,Tryz.ntmps184
 go_wp2_with fail
 refine (clamp_r _ _ _).mono ?_
 rintro e w' ⟨rfl,rfl⟩
 rw [hc]
 go_wp2_with fail
 go_ret
 exact⟨rfl,hx.out⟩
theorem rwriter_r (r:Reg)(w:World)(h1:1<=r.n)(h2:r.n<=8)(h3:0<=r.wr)(h4:r.wr<r.n):Calls Tryz.prog 300 #[encR r] w fun e w'=>e=.returned (V Z r.wr)/\Ext w w':=by
 obtain⟨kind,base,loc,n,wr,rd,top⟩:=r
 simp only at h1 h2 h3 h4
 unfold encR
 have hX:=Ext.refl w
 have b1:=Blk.new w (.cells #[V Z kind,V Z base,V Z loc,V Z n,V Z wr,V Z rd,V Z top] 67)
 replace hX:=hX.alloc (.cells #[V Z kind,V Z base,V Z loc,V Z n,V Z wr,V Z rd,V Z top] 67)
 have c_b1:=b1.cells
 go_enter Tryz.func300,Tryz.ntmps300
 go_wp2_with fail
 replace hX:=hX.drew;replace b1:=b1.drew
 go_region_held2 (fun w'=>∀ i:Nat,w'.cell? ⟨w.heap.size,i,none⟩=(#[V Z kind,V Z base,V Z loc,V Z n,V Z wr,V Z rd,V Z top]:Array Value)[i]?) (first | exact c_b1 | go_keep)
  (first
    | (go_at_call 184
       refine (rn_r ⟨kind,base,loc,n,wr,rd,top⟩ _ h1 h2).mono ?_
       rintro e w2 ⟨rfl,hx⟩
       clear c_b1;replace b1:=b1.ext hx;have c_b1:=b1.cells;replace hX:=hX.trans hx
       clear hx))
 go_wp2_with fail
 go_ret
 exact⟨rfl,hX⟩
theorem rnumber_r (r:Reg)(k:Int)(w:World)(h1:0<=k/\k<=60)(hb1:0<=r.base)(hb2:r.base<=56000)(hl1:0<=r.loc)(hl2:r.loc<=56000) :
  Calls Tryz.prog 303 #[encR r,V Z k] w fun e w'=>e=.returned (encR ⟨0,r.base+16*k,r.loc+(2+18*k),0,0,0,0⟩)/\Ext w w':=by
 obtain⟨kind,base,loc,n,wr,rd,top⟩:=r
 simp only at hb1 hb2 hl1 hl2
 unfold encR
 simp only [<- Int.add_assoc]
 go_enter Tryz.func303,Tryz.ntmps303
 go_wp2_with fail
 refine bodyPost_ret (v:=.agg #[V Z 0,V Z (base+16*k),V Z (loc+2+18*k),V Z 0,V Z 0,V Z 0,V Z 0]) (by simp [results,Tryz.results303,go_sem]) rfl ?_
 exact⟨rfl,((Ext.refl _).alloc _).alloc _⟩
theorem readers_r (r:Reg)(w:World)(h1:1<=r.n)(h2:r.n<=8)(h3:0<=r.wr)(h4:r.wr<r.n) :
  Calls Tryz.prog 302 #[encR r] w fun e w'=>∃ A c,e=.returned (.slice A (rdrs r.wr r.n.toNat).length c)/\Ints w' (.slice A (rdrs r.wr r.n.toNat).length c) (rdrs r.wr r.n.toNat)/\Ext w w':=by
 obtain⟨kind,base,loc,n,wr,rd,top⟩:=r
 simp only at h1 h2 h3 h4 ⊢
 obtain⟨N,rfl⟩:∃ N:Nat,n=(N:Int):=⟨n.toNat,by omega⟩
 obtain⟨W,rfl⟩:∃ N:Nat,wr=(N:Int):=⟨wr.toNat,by omega⟩
 rw [Int.toNat_natCast]
 unfold encR
 have hX:=Ext.refl w
 have b1:=Blk.new w (.cells #[V Z kind,V Z base,V Z loc,V Z (N:Int),V Z (W:Int),V Z rd,V Z top] 67)
 replace hX:=hX.alloc (.cells #[V Z kind,V Z base,V Z loc,V Z (N:Int),V Z (W:Int),V Z rd,V Z top] 67)
 have c_b1:=b1.cells
 go_enter Tryz.func302,Tryz.ntmps302
 go_wp2_with fail
 generalize w.alloc _=w0 at *
 have hb0:=b1.lt
 go_loopw [3,4] (fun v i wr=>∃ j:Nat,j<=N/\i=V Z j/\IntRow wr w0.heap.size v (rdrs W j)/\Ext w0 wr) (fun _ i _=>N-(intOf i).toNat)
 case atStart=>exact⟨0,by omega,rfl,IntRow.nil _ _,Ext.refl _⟩
 case round =>
  clear c_b1
  obtain⟨j,hj,rfl,hown,hE⟩:=hrel
  replace b1:=b1.ext hE;have c_b1:=b1.cells
  have hl:=rdrs_len W j
  by_cases hlt:j<N
  · go_wp2_with fail
    refine (rn_r ⟨kind,base,loc,(N:Int),(W:Int),rd,top⟩ _ h1 h2).mono ?_
    rintro e w2 ⟨rfl,hx⟩
    clear c_b1;replace b1:=b1.ext hx;have c_b1:=b1.cells
    replace hown:IntRow _ _ _ _:=row_ext hown hx
    replace hE:=hE.trans hx;clear hx;go_wp2_with fail
    refine (rwriter_r ⟨kind,base,loc,(N:Int),(W:Int),rd,top⟩ _ h1 h2 h3 h4).mono ?_
    rintro e w2 ⟨rfl,hx⟩
    clear c_b1;replace b1:=b1.ext hx;have c_b1:=b1.cells
    replace hown:IntRow _ _ _ _:=row_ext hown hx
    replace hE:=hE.trans hx;clear hx;have hsz:=hE.size
    by_cases hjw:j=W
    · have hs:rdrs (W:Int) (j+1)=rdrs (W:Int) j:=by
       show (if (j:Int)=W then _ else _)=_
       rw [if_pos (by omega)]
      rw [<- hs] at hown
      subst hjw;clear hs hl;go_wp2_with fail
      go_roundw
      case rel=>exact⟨j+1,by omega,by go_num,hown,hE⟩
      case measure=>simp [intOf];omega
    · have hs:rdrs (W:Int) (j+1)=rdrs (W:Int) j++[(j:Int)]:=by
       show (if (j:Int)=W then _ else _)=_
       rw [if_neg (by omega)]
      have hjb:((j:Int) != (W:Int))=true:=by rw [bne_iff_ne];omega
      have H1:=Hd hs
      have hl2:(rdrs (W:Int) j).length<1000:=by rw [hl];split <;> omega
      clear hs hjw hl
      go_wp2_with (at_builtin;refine append_int rfl _ _ rfl w0.heap.size _ (rdrs W j) (j:Int) hown rfl rfl (by omega) hsz ?_)
      intro v' w1 hown' hgrow
      have hE':=hE.appended hown hgrow
      rw [<- H1.out] at hown'
      clear hown hgrow;go_wp2_with fail
      go_roundw
      case rel=>exact⟨j+1,by omega,by go_num,hown',hE'⟩
      case measure=>simp [intOf];omega
  · obtain rfl:j=N:=by omega
    go_wp2_with fail
    refine (rn_r ⟨kind,base,loc,(j:Int),(W:Int),rd,top⟩ _ h1 h2).mono ?_
    rintro e w2 ⟨rfl,hx⟩
    clear c_b1
    replace hown:IntRow _ _ _ _:=row_ext hown hx
    replace hE:=hE.trans hx
    obtain⟨A,c,rfl,hc1,hc2⟩:=hown.ints.slice
    have hf:=hown.ints
    have hX2:=Hd (hX.trans hE)
    clear hx hE hX hown hl;go_wp2_with fail
    go_ret
    exact⟨A,c,rfl,hf,hX2.out⟩
theorem tellsD_bd (k a _b:Int)(hk:1<=k/\k<=7)(ha:0<=a/\a<k):0<=a*(k-1)/\a*(k-1)<=36:=by
 have h1:0<=a*(k-1):=Int.mul_nonneg (by omega) (by omega)
 have h2:a*(k-1)<=6*6:=Int.mul_le_mul (by omega) (by omega) (by omega) (by omega)
 omega
def stepD (i j:Int):Int:=if j > i then j-1 else j
theorem tells_eq (k a b:Int):tellsM k a b=k+a*(k-1)+stepD a b:=rfl
theorem stepD_0 (i:Nat):stepD i 0=0:=by unfold stepD;rw [if_neg (by omega)]
theorem stepD_same (i:Nat):stepD i ((i:Int)+1)=stepD i i:=by unfold stepD;rw [if_pos (by omega),if_neg (by omega)];omega
theorem stepD_next (i j:Nat)(h:i≠j):stepD i ((j:Int)+1)=stepD i j+1:=by unfold stepD;split <;> split <;> omega
theorem stepD_end (i k:Nat)(h:i<k):stepD i k=(k:Int)-1:=by unfold stepD;rw [if_pos (by omega)]
theorem stepD_bd (i j:Nat):0<=stepD i j/\stepD i j<=j:=by unfold stepD;split <;> omega
set_option maxHeartbeats 2000000 in
theorem tells_r (r:Reg)(a b:Int)(w:World)(h1:1<=r.n)(h2:r.n<=8)(h3:0<=r.wr)(h4:r.wr<r.n)(ha:0<=a/\a<r.n-1)(hb:0<=b/\b<r.n-1)(hab:a≠b)(hb1:0<=r.base)(hb2:r.base<=56000)(hl1:0<=r.loc)(hl2:r.loc<=56000) :
  Calls Tryz.prog 308 #[encR r,V Z a,V Z b] w fun e w'=>e=.returned (encR ⟨0,r.base+16*tellsM (r.n-1) a b,r.loc+(2+18*tellsM (r.n-1) a b),0,0,0,0⟩)/\Ext w w':=by
 obtain⟨kind,base,loc,n,wr,rd,top⟩:=r
 simp only at h1 h2 h3 h4 ha hb hb1 hb2 hl1 hl2 ⊢
 obtain⟨k,rfl⟩:∃ k:Nat,n=(k:Int)+1:=⟨(n-1).toNat,by omega⟩
 obtain⟨a,rfl⟩:∃ k:Nat,a=(k:Int):=⟨a.toNat,by omega⟩
 obtain⟨b,rfl⟩:∃ k:Nat,b=(k:Int):=⟨b.toNat,by omega⟩
 have hlen:(rdrs wr ((k:Int)+1).toNat).length=k:=by
  obtain⟨W,rfl⟩:∃ N:Nat,wr=(N:Int):=⟨wr.toNat,by omega⟩
  rw [rdrs_len,if_pos (by omega)]
  omega
 rw [show (k:Int)+1-1=(k:Int) from by omega]
 unfold encR
 have hX:=Ext.refl w
 have b1:=Blk.new w (.cells #[V Z kind,V Z base,V Z loc,V Z ((k:Int)+1),V Z wr,V Z rd,V Z top] 67)
 replace hX:=hX.alloc (.cells #[V Z kind,V Z base,V Z loc,V Z ((k:Int)+1),V Z wr,V Z rd,V Z top] 67)
 have b2:=Blk.new (w.alloc (.cells #[V Z kind,V Z base,V Z loc,V Z ((k:Int)+1),V Z wr,V Z rd,V Z top] 67)) (.cells #[V Z 0,V Z 0,V Z 0,V Z 0,V Z 0,V Z 0,V Z 0] 67)
 simp only [World.size_alloc] at b2
 replace b1:=b1.alloc (.cells #[V Z 0,V Z 0,V Z 0,V Z 0,V Z 0,V Z 0,V Z 0] 67)
 replace hX:=hX.alloc (.cells #[V Z 0,V Z 0,V Z 0,V Z 0,V Z 0,V Z 0,V Z 0] 67)
 have c_b1:=b1.cells;have c_b2:=b2.cells
 go_enter Tryz.func308,Tryz.ntmps308
 go_wp2_with fail
 refine (readers_r ⟨kind,base,loc,(k:Int)+1,wr,rd,top⟩ _ h1 h2 h3 h4).mono ?_
 rintro e w2 ⟨A,c,rfl,hI,hx⟩
 rw [hlen]
 clear hI c_b1 c_b2;replace b1:=b1.ext hx;have c_b1:=b1.cells;replace b2:=b2.ext hx;have c_b2:=b2.cells;replace hX:=hX.trans hx;clear hx;go_wp2_with fail
 have hk:1<=(k:Int)/\(k:Int)<=7:=by omega
 have hab2:a≠b:=by omega
 clear hab
 go_loopw [8,9] (fun n x wr=>∃ i:Nat,i<=a/\x=V Z i/\n=V Z ((k:Int)+(i:Int)*((k:Int)-1))/\w2=wr) (fun _ x _=>a-(intOf x).toNat)
 case atStart=>exact⟨0,by omega,rfl,by simp,rfl⟩
 case round =>
  obtain⟨i,hi,rfl,rfl,rfl⟩:=hrel
  have hm:=tellsD_bd k i 0 hk (by omega)
  have hms:((i+1:Nat):Int)*((k:Int)-1)=(i:Int)*((k:Int)-1)+((k:Int)-1):=by rw [Int.natCast_add,Int.add_mul];simp
  have hmh:=Hd hms
  have hma:=Hd (show i=a->(i:Int)*((k:Int)-1)=(a:Int)*((k:Int)-1) from fun e=>by rw [e])
  clear hms
  generalize (i:Int)*((k:Int)-1)=M at *
  have hik:(i:Int)<k:=by omega
  go_wp2_with fail
  go_loopw [8,10] (fun n y wr=>∃ j:Nat,j<=k/\(i=a->j<=b)/\y=V Z j/\n=V Z ((k:Int)+M+stepD i j)/\w2=wr) (fun _ y _=>k-(intOf y).toNat)
  case atStart=>exact⟨0,by omega,by omega,rfl,by rw [show ((0:Nat):Int)=0 from rfl,stepD_0];simp,rfl⟩
  case round =>
   obtain⟨j,hj,hjb,rfl,rfl,rfl⟩:=hrel
   have hD:=stepD_bd i j
   by_cases hjk:j<k
   · by_cases hia:i=a
     · have hia2:((i:Int)==(a:Int))=true:=by simp [hia]
       have hiah:=Hd hia
       by_cases hjb2:j=b
       · have hjb3:((j:Int)==(b:Int))=true:=by simp [hjb2]
         have hmt:=Hd (show tellsM (k:Int) a b=(k:Int)+M+stepD i j from by rw [tells_eq,<- hma.out hia,hia,hjb2])
         clear hia hjb2 hjb
         generalize stepD i j=D at *
         go_wp2_with fail
         refine (rnumber_r ⟨kind,base,loc,(k:Int)+1,wr,rd,top⟩ ((k:Int)+M+D) _ (by omega) hb1 hb2 hl1 hl2).mono ?_
         rintro e w3 ⟨rfl,hx⟩
         clear c_b1 c_b2;replace b2:=b2.ext hx;replace hX:=hX.trans hx;have c_b2:=b2.cells
         have f_b2:=frozen_of_heap b2
         clear hx
         unfold encR
         go_wp2_with fail
         refine bodyPost_ret (v:=.agg #[V Z 0,V Z (base+16*((k:Int)+M+D)),V Z (loc+(2+18*((k:Int)+M+D))),V Z 0,V Z 0,V Z 0,V Z 0]) (by simp [results,Tryz.results308,go_sem,c_b2]) rfl ?_
         rw [hmt.out]
         refine⟨rfl,?_⟩
         have hb:w.heap.size<=w.heap.size+1:=Nat.le_succ _
         exact ((((((hX.setCell hb _).setCell hb _).setCell hb _).setCell hb _).setCell hb _).setCell hb _).setCell hb _
       · have hjb3:((j:Int)==(b:Int))=false:=by rw [beq_eq_false_iff_ne];omega
         have hjb4:j<b:=by have:=hjb hia;omega
         clear hia hjb2 hjb
         by_cases hij:i=j
         · have hij2:((i:Int) != (j:Int))=false:=by simp [hij]
           have hs:stepD i ((j:Int)+1)=stepD i j:=by rw [<- hij];exact stepD_same i
           have hsh:=Hd hs
           have hijh:=Hd hij
           clear hs hij
           generalize stepD i j=D at *
           go_wp2_with fail
           refine⟨⟨j+1,by omega,(fun _=>by omega),by go_num,?_,by trivial⟩,by simp [intOf];omega⟩
           rw [show ((j+1:Nat):Int)=(j:Int)+1 from rfl,hsh.out]
         · have hij2:((i:Int) != (j:Int))=true:=by rw [bne_iff_ne];omega
           have hsh:=Hd (stepD_next i j hij)
           clear hij
           generalize stepD i j=D at *
           go_wp2_with fail
           refine⟨⟨j+1,by omega,(fun _=>by omega),by go_num,?_,by trivial⟩,by simp [intOf];omega⟩
           rw [show ((j+1:Nat):Int)=(j:Int)+1 from rfl,hsh.out]
           go_num
     · have hia2:((i:Int)==(a:Int))=false:=by rw [beq_eq_false_iff_ne];omega
       have hiah:=Hd hia
       clear hia hjb
       by_cases hij:i=j
       · have hij2:((i:Int) != (j:Int))=false:=by simp [hij]
         have hs:stepD i ((j:Int)+1)=stepD i j:=by rw [<- hij];exact stepD_same i
         have hsh:=Hd hs
         have hijh:=Hd hij
         clear hs hij
         generalize stepD i j=D at *
         go_wp2_with fail
         refine⟨⟨j+1,by omega,(fun e=>absurd e hiah.out),by go_num,?_,by trivial⟩,by simp [intOf];omega⟩
         rw [show ((j+1:Nat):Int)=(j:Int)+1 from rfl,hsh.out]
       · have hij2:((i:Int) != (j:Int))=true:=by rw [bne_iff_ne];omega
         have hsh:=Hd (stepD_next i j hij)
         clear hij
         generalize stepD i j=D at *
         go_wp2_with fail
         refine⟨⟨j+1,by omega,(fun e=>absurd e hiah.out),by go_num,?_,by trivial⟩,by simp [intOf];omega⟩
         rw [show ((j+1:Nat):Int)=(j:Int)+1 from rfl,hsh.out]
         go_num
   · obtain rfl:j=k:=by omega
     have hia:i<a:=by
      rcases Nat.lt_or_ge i a with h | h
      · exact h
      · have:=hjb (by omega);omega
     rw [stepD_end i j (by omega)]
     go_wp2_with fail
     refine⟨⟨i+1,by omega,by go_num,?_,by trivial⟩,by simp [intOf];omega⟩
     rw [hmh.out]
     go_num
theorem ranks_next (k a:Nat):ranksFrom (-1) (k+1) a=(a:Int) :: ranksFrom (-1) k ((a+1:Nat):Int):=by
 show (if (a:Int)=-1 then _ else _)=_
 rw [if_neg (by omega)]
 rfl
theorem forP_cons {σ:Type}(T:Int->σ->Prog σ)(a:Int)(l:List Int)(x:σ):forP T (a :: l) x=(T a x).bind fun y=>forP T l y:=rfl
set_option maxRecDepth 100000 in
set_option maxHeartbeats 2000000 in
theorem table_write_r (B p:Nat)(o:Bool)(S:TS)(r:Reg)(me v:Int)(w:World)(h:RAt B w p o S)(hn1:1<=r.n)(hn2:r.n<=8)(hw1:0<=r.wr)(hw2:r.wr<r.n)(hb1:0<=r.base)(hb2:r.base<=56000)(hl1:0<=r.loc)(hl2:r.loc<=56000) :
  Calls Tryz.prog 255 #[.pointer (some ⟨p,0,none⟩),encR r,V Z me,V Z v] w (RPost encU B p w (tableW r.base r.loc r.n r.wr r.top me v) o S):=by
 generalize hR:RPost encU B p w (tableW r.base r.loc r.n r.wr r.top me v) o S=R
 have hO:ROwes R encU B p w (tableW r.base r.loc r.n r.wr r.top me v) o S:=hR▸rowes _ _ _ _ _ _ _
 clear hR
 obtain⟨kind,base,loc,n,wr,rd,top⟩:=r
 simp only at hn1 hn2 hw1 hw2 hb1 hb2 hl1 hl2 hO
 obtain⟨K,rfl⟩:∃ k:Nat,n=(k:Int)+1:=⟨(n-1).toNat,by omega⟩
 have hlen:(rdrs wr ((K:Int)+1).toNat).length=K:=by
  obtain⟨W,rfl⟩:∃ N:Nat,wr=(N:Int):=⟨wr.toNat,by omega⟩
  rw [rdrs_len,if_pos (by omega)]
  omega
 unfold encR
 obtain⟨b1,hK,hP⟩:=h.entry (.cells #[V Z kind,V Z base,V Z loc,V Z ((K:Int)+1),V Z wr,V Z rd,V Z top] 67)
 have c_b1:=b1.cells;clear h;unfold tableW at hO
 go_enter Tryz.func255,Tryz.ntmps255
 go_wp2_with fail
 refine (rwriter_r ⟨kind,base,loc,(K:Int)+1,wr,rd,top⟩ _ hn1 hn2 hw1 hw2).mono ?_
 rintro e w2 ⟨rfl,hx⟩
 clear c_b1;replace hK:=hK.trans (Keep.of_ext hx hP.lt hP.le);replace b1:=b1.ext hx hP.lt;have c_b1:=b1.cells;replace hP:=hP.ext hx;clear hx
 by_cases hme:me=wr
 · subst hme
   rw [if_neg (by simp)] at hO
   go_wp2_with fail
   refine (get_r B p o S (loc) _ hP).mono ?_
   rintro e w' ⟨rfl,rfl⟩;replace hO:=hO.get
   generalize S.got (loc)=s at hO ⊢
   go_wp2_with fail
   refine rstep hO hK (set_r B p o S _ _ _ hP) ?_
   clear hO hK hP c_b1;intro u o S w1 hP hk hK hO;replace b1:=b1.keep hk;have c_b1:=b1.cells;clear hk;go_wp2_with fail
   refine (clamp_r _ _ _).mono ?_
   rintro e w' ⟨rfl,rfl⟩
   generalize hT:clamp top 1048576=T at *
   clear hT;go_wp2_with fail
   refine (pack_r _ _ _ _).mono ?_
   rintro e w' ⟨rfl,rfl⟩
   generalize packI (wrap64 (s+1)) v T=X at *
   have hK2:K<8:=by omega
   rw [show ((K:Int)+1-1).toNat=K from by omega] at hO
   have hwl:=IntWalk.i64_in (loc+1) (by omega)
   go_wp2_with fail
   go_loopw [11] (fun z wr'=>∃ (a:Nat) (o:Bool) (S:TS),z=V Z a/\a<=K/\HeldR wr' p w.heap.size (.cells #[V Z kind,V Z base,V Z loc,V Z ((K:Int)+1),V Z me,V Z rd,V Z top] 67)/\RAt B wr' p o S/\KeepR B p w wr'/\ROwes R encU B p w ((forP (fun a _=>slotsW (base+16*a) (loc+(2+18*a)) X) (ranksFrom (-1) (K-a) a) ()).bind fun _=>st (loc+1) (clamp v T)) o S) (fun z _=>K-(intOf z).toNat)
   case atStart=>exact⟨0,o,S,rfl,by omega,b1,hP,hK,hO⟩
   case round =>
    clear b1 c_b1 hO hP hK o S
    obtain⟨a,o,S,rfl,ha,b1,hP,hK,hO⟩:=hrel
    have c_b1:=b1.cells;go_wp2_with fail
    refine (readers_r ⟨kind,base,loc,(K:Int)+1,me,rd,top⟩ _ hn1 hn2 hw1 hw2).mono ?_
    rintro e w2 ⟨A,c,rfl,hI,hx⟩
    rw [hlen]
    clear hI c_b1;replace hK:=hK.trans (Keep.of_ext hx hP.lt hP.le);replace b1:=b1.ext hx hP.lt;have c_b1:=b1.cells;replace hP:=hP.ext hx;clear hx
    obtain⟨_,_,_,_,_,hcc⟩:=hP.cell
    by_cases hak:a<K
    · cases o with
      | true =>
        replace hO:=hO.any (st (loc+1) (clamp v T))
        go_wp2_with fail
        clear hcc;replace hP:=hP.drew;replace hK:=hK.drew;replace b1:=b1.drew
        go_region_held2 (fun w'=>∀ i:Nat,w'.cell? ⟨w.heap.size,i,none⟩=(#[V Z kind,V Z base,V Z loc,V Z ((K:Int)+1),V Z me,V Z rd,V Z top]:Array Value)[i]?) (first | exact c_b1 | go_keep)
         (first
           | (go_at_call 148
              refine (clamp_r _ _ _).mono ?_
              rintro e w' ⟨rfl,rfl⟩)
           | (go_at_call 136
              refine rlast hO hK (set_r B p _ S _ _ _ hP) ?_
              clear hO hK hP c_b1;intro u o S w1 hP hk hK hO;replace b1:=b1.keep hk;have c_b1:=b1.cells
              clear hk))
        go_wp2_with fail
        first | go_end0 | refine bodyPost_ret (results_none rfl _ _ _) rfl ?_
        exact hO.ret hP hK
      | false =>
        obtain⟨k,hk⟩:∃ k,K-a=k+1:=⟨K-a-1,by omega⟩
        have hkh:=Hd hk
        rw [hk,ranks_next,forP_cons,Prog.bind_assoc] at hO;clear hk;go_wp2_with fail
        clear hcc
        refine (rnumber_r ⟨kind,base,loc,(K:Int)+1,me,rd,top⟩ a _ (by omega) hb1 hb2 hl1 hl2).mono ?_
        rintro e w2 ⟨rfl,hx⟩
        clear c_b1;replace hK:=hK.trans (Keep.of_ext hx hP.lt hP.le);replace b1:=b1.ext hx hP.lt;have c_b1:=b1.cells;replace hP:=hP.ext hx;clear hx;go_wp2_with fail
        refine rstep hO hK (slots_write_r B p false S ⟨0,base+16*a,loc+(2+18*a),0,0,0,0⟩ X _ hP (by simp only;omega) (by simp only;omega) (by simp only;omega) (by simp only;omega)) ?_
        clear hO hK hP c_b1;intro u o S w1 hP hk hK hO;replace b1:=b1.keep hk;have c_b1:=b1.cells;clear hk
        have hPh:=Hd hP
        have hKh:=Hd hK
        have hOh:=Hd hO;clear hP hK hO c_b1;go_wp2_with fail
        refine⟨⟨a+1,o,S,by go_num,by omega,b1,hPh.out,hKh.out,?_⟩,by simp [intOf];omega⟩
        rw [show K-(a+1)=k from by have:=hkh.out;omega]
        exact hOh.out
    · obtain rfl:a=K:=by omega
      rw [Nat.sub_self] at hO
      replace hO:ROwes R encU B p w (st (loc+1) (clamp v T)) o S:=hO
      go_wp2_with fail
      clear hcc;replace hP:=hP.drew;replace hK:=hK.drew;replace b1:=b1.drew
      go_region_held2 (fun w'=>∀ i:Nat,w'.cell? ⟨w.heap.size,i,none⟩=(#[V Z kind,V Z base,V Z loc,V Z ((a:Int)+1),V Z me,V Z rd,V Z top]:Array Value)[i]?) (first | exact c_b1 | go_keep)
       (first
         | (go_at_call 148
            refine (clamp_r _ _ _).mono ?_
            rintro e w' ⟨rfl,rfl⟩)
         | (go_at_call 136
            refine rlast hO hK (set_r B p _ S _ _ _ hP) ?_
            clear hO hK hP c_b1;intro u o S w1 hP hk hK hO;replace b1:=b1.keep hk;have c_b1:=b1.cells
            clear hk))
      go_wp2_with fail
      first | go_end0 | refine bodyPost_ret (results_none rfl _ _ _) rfl ?_
      exact hO.ret hP hK
 · rw [if_pos hme] at hO
   have hme2:(me != wr)=true:=by rw [bne_iff_ne];exact hme
   go_wp2_with fail
   first | go_end0 | refine bodyPost_ret (results_none rfl _ _ _) rfl ?_
   exact hO.ret hP hK
theorem ranks_but (q k a:Nat)(h:a=q):ranksFrom q (k+1) a=ranksFrom q k ((a+1:Nat):Int):=by
 show (if (a:Int)=q then _ else _)=_
 rw [if_pos (by omega)]
 rfl
theorem ranks_not (q k a:Nat)(h:a≠q):ranksFrom q (k+1) a=(a:Int) :: ranksFrom q k ((a+1:Nat):Int):=by
 show (if (a:Int)=q then _ else _)=_
 rw [if_neg (by omega)]
 rfl
theorem tells_le (k a b:Nat)(hk:1<=k/\k<=7)(ha:a<k)(hb:b<k):0<=tellsM k a b/\tellsM k a b<=60:=by
 have h1:=tellsD_bd k a b (by omega) (by omega)
 have h2:=stepD_bd a b
 rw [tells_eq]
 omega
theorem unpack_rx (x top:Int)(w:World) :
  Calls Tryz.prog 305 #[V Z x,V Z top] w fun e w'=>e=.returned (.tuple #[V Z (unHi x top),V Z (unLo x top)])/\Ext w w':=(unpack_r x top w).mono fun _ _ h=>⟨h.1,h.2.ext⟩
set_option maxRecDepth 100000 in
set_option maxHeartbeats 4000000 in
theorem table_read_r (B p:Nat)(o:Bool)(S:TS)(r:Reg)(me:Int)(w:World)(h:RAt B w p o S)(hn1:1<=r.n)(hn2:r.n<=8)(hw1:0<=r.wr)(hw2:r.wr<r.n)(hm:0<=me/\me<r.n)(hb1:0<=r.base)(hb2:r.base<=56000)(hl1:0<=r.loc)(hl2:r.loc<=56000) :
  Calls Tryz.prog 261 #[.pointer (some ⟨p,0,none⟩),encR r,V Z me] w (RPost encI B p w (tableR r.base r.loc r.n r.wr r.top me) o S):=by
 generalize hR:RPost encI B p w (tableR r.base r.loc r.n r.wr r.top me) o S=R
 have hO:ROwes R encI B p w (tableR r.base r.loc r.n r.wr r.top me) o S:=hR▸rowes _ _ _ _ _ _ _
 clear hR
 obtain⟨kind,base,loc,n,wr,rd,top⟩:=r
 simp only at hn1 hn2 hw1 hw2 hm hb1 hb2 hl1 hl2 hO
 obtain⟨K,rfl⟩:∃ k:Nat,n=(k:Int)+1:=⟨(n-1).toNat,by omega⟩
 obtain⟨W,rfl⟩:∃ N:Nat,wr=(N:Int):=⟨wr.toNat,by omega⟩
 have hlen:(rdrs W ((K:Int)+1).toNat).length=K:=by
  rw [rdrs_len,if_pos (by omega)]
  omega
 unfold encR
 obtain⟨b1,hK,hP⟩:=h.entry (.cells #[V Z kind,V Z base,V Z loc,V Z ((K:Int)+1),V Z (W:Int),V Z rd,V Z top] 67)
 have c_b1:=b1.cells;clear h;unfold tableR at hO
 go_enter Tryz.func261,Tryz.ntmps261
 go_wp2_with fail
 refine (rwriter_r ⟨kind,base,loc,(K:Int)+1,(W:Int),rd,top⟩ _ hn1 hn2 hw1 hw2).mono ?_
 rintro e w2 ⟨rfl,hx⟩
 clear c_b1;replace hK:=hK.trans (Keep.of_ext hx hP.lt hP.le);replace b1:=b1.ext hx hP.lt;have c_b1:=b1.cells;replace hP:=hP.ext hx;clear hx
 by_cases hme:me=W
 · subst hme
   rw [if_pos rfl] at hO;go_wp2_with fail
   refine (get_r B p o S (loc+1) _ hP).mono ?_
   rintro e w' ⟨rfl,rfl⟩;replace hO:=hO.get1
   generalize S.got (loc+1)=z at hO ⊢
   go_wp2_with fail
   exact hO.ret hP hK
 · rw [if_neg hme] at hO
   have hme2:(me==(W:Int))=false:=by rw [beq_eq_false_iff_ne];exact hme
   obtain⟨q,hq,hqK,hqi⟩:∃ q:Nat,rankM W me=(q:Int)/\q<K/\∀ j:Nat,((if j<W then (j:Int) else j+1)=me↔j=q):=by
    unfold rankM
    by_cases hw:me > W
    · exact⟨(me-1).toNat,by rw [if_pos hw];omega,by omega,fun j=>by split <;> omega⟩
    · exact⟨me.toNat,by rw [if_neg hw];omega,by omega,fun j=>by split <;> omega⟩
   have hKk:1<=K/\K<=7:=by omega
   rw [hq,show ((K:Int)+1-1)=(K:Int) from by omega,Int.toNat_natCast] at hO
   clear hq hme hm;go_wp2_with fail
   refine (readers_r ⟨kind,base,loc,(K:Int)+1,(W:Int),rd,top⟩ _ hn1 hn2 hw1 hw2).mono ?_
   rintro e w2 ⟨A,c,rfl,hI,hx⟩
   have hat:=fun (i:Nat) (hi:i<K)=>rdrs_at W ((K:Int)+1).toNat i (by rw [hlen];exact hi)
   simp only [hlen] at hI
   rw [hlen]
   generalize hl:rdrs W ((K:Int)+1).toNat=l at *
   clear hl c_b1;replace hK:=hK.trans (Keep.of_ext hx hP.lt hP.le);replace b1:=b1.ext hx hP.lt;have c_b1:=b1.cells;replace hP:=hP.ext hx;clear hx
   have hPh:=Hd hP
   have hKh:=Hd hK
   have hOh:=Hd hO;clear hP hK hO;go_wp2_with fail
   go_loopw [8,9] (fun x z wr=>∃ j:Nat,z=V Z j/\j<=K/\x=V Z (if q<j then (q:Int) else -1)/\w2=wr) (fun _ z _=>K-(intOf z).toNat)
   case atStart=>exact⟨0,rfl,by omega,by rw [if_neg (by omega)],rfl⟩
   case round =>
    obtain⟨j,rfl,hj,rfl,rfl⟩:=hrel
    by_cases hjk:j<K
    · obtain⟨bk,off,rfl,hbk,hcell⟩:=hI.at_ hjk
      rw [hat j hjk] at hcell
      have hqj:=hqi j
      by_cases hjq:j=q
      · have e:=hqj.2 hjq
        rw [e] at hcell
        generalize hv:(if q<j then (q:Int) else -1)=X at *
        have hjqh:=Hd hjq
        clear hv hqj e hjq;go_wp2_with fail
        refine⟨⟨j+1,by go_num,by omega,?_,by trivial⟩,by simp [intOf];omega⟩
        have hjq:=hjqh.out
        rw [if_pos (by omega),hjq]
      · have e:((if j<W then (j:Int) else j+1)==me)=false:=by rw [beq_eq_false_iff_ne];exact fun e=>hjq (hqj.1 e)
        generalize (if j<W then (j:Int) else j+1)=Y at *
        generalize hv:(if q<j then (q:Int) else -1)=X at *
        clear hqj;go_wp2_with fail
        refine⟨⟨j+1,by go_num,by omega,?_,by trivial⟩,by simp [intOf];omega⟩
        rw [<- hv]
        by_cases h1:q<j
        · rw [if_pos h1,if_pos (by omega)]
        · rw [if_neg h1,if_neg (by omega)]
    · obtain rfl:K=j:=by omega
      rw [if_pos hqK]
      have hP:=hPh.out;have hK:=hKh.out;have hO:=hOh.out;clear hPh hKh hOh hI hat hqi;go_wp2_with fail
      refine (rnumber_r ⟨kind,base,loc,(K:Int)+1,(W:Int),rd,top⟩ q _ (by omega) hb1 hb2 hl1 hl2).mono ?_
      rintro e w2 ⟨rfl,hx⟩
      clear c_b1;replace hK:=hK.trans (Keep.of_ext hx hP.lt hP.le);replace b1:=b1.ext hx hP.lt;have c_b1:=b1.cells;replace hP:=hP.ext hx;clear hx;go_wp2_with fail
      refine rstep hO hK (slots_read_r B p o S ⟨0,base+16*q,loc+(2+18*q),0,0,0,0⟩ _ hP (by simp only;omega) (by simp only;omega) (by simp only;omega) (by simp only;omega)) ?_
      clear hO hK hP c_b1;intro x o S w1 hP hk hK hO;replace b1:=b1.keep hk;have c_b1:=b1.cells;clear hk;go_wp2_with fail
      go_loopw [10,11] (fun y z wr'=>∃ (x:Int) (b:Nat) (o:Bool) (S:TS),y=V Z x/\z=V Z b/\b<=K/\HeldR wr' p w.heap.size (.cells #[V Z kind,V Z base,V Z loc,V Z ((K:Int)+1),V Z (W:Int),V Z rd,V Z top] 67)/\RAt B wr' p o S/\KeepR B p w wr'/\ROwes R encI B p w ((forP (fun i x=>(slotsR (base+16*tellsM K i q) (loc+(2+18*tellsM K i q))).bind fun y=>.ret (max x y)) (ranksFrom q (K-b) b) x).bind (fun x=>(forP (fun i _=>slotsW (base+16*tellsM K q i) (loc+(2+18*tellsM K q i)) x) (ranksFrom q K 0) ()).bind fun _=>.ret (unLo x (clamp top 1048576)))) o S) (fun _ z _=>K-(intOf z).toNat)
      case atStart=>exact⟨x,0,o,S,rfl,rfl,by omega,b1,hP,hK,hO⟩
      case round =>
       clear b1 c_b1 hO hP hK o S
       obtain⟨x,b,o,S,rfl,rfl,hb,b1,hP,hK,hO⟩:=hrel
       have c_b1:=b1.cells
       by_cases hbk:b<K
       · obtain⟨k,hk⟩:∃ k,K-b=k+1:=⟨K-b-1,by omega⟩
         have hkh:=Hd hk
         by_cases hbq:b=q
         · rw [hk,ranks_but q k b hbq] at hO
           have e:((b:Int) != (q:Int))=false:=by simp [hbq]
           have hPh:=Hd hP
           have hKh:=Hd hK
           have hOh:=Hd hO;clear hP hK hO c_b1 hk hbq;go_wp2_with fail
           refine⟨⟨x,b+1,o,S,rfl,by go_num,by omega,b1,hPh.out,hKh.out,?_⟩,by simp [intOf];omega⟩
           rw [show K-(b+1)=k from by have:=hkh.out;omega]
           exact hOh.out
         · rw [hk,ranks_not q k b hbq,forP_cons,Prog.bind_assoc,Prog.bind_assoc] at hO
           have e:((b:Int) != (q:Int))=true:=by rw [bne_iff_ne];omega
           have hT:=tells_le K b q hKk hbk hqK
           clear hk;go_wp2_with fail
           refine (tells_r ⟨kind,base,loc,(K:Int)+1,(W:Int),rd,top⟩ b q _ hn1 hn2 hw1 hw2 (by simp only;omega) (by simp only;omega) (by omega) hb1 hb2 hl1 hl2).mono ?_
           rintro e w2 ⟨rfl,hx⟩
           clear c_b1;replace hK:=hK.trans (Keep.of_ext hx hP.lt hP.le);replace b1:=b1.ext hx hP.lt;have c_b1:=b1.cells;replace hP:=hP.ext hx;clear hx
           simp only [show ((K:Int)+1-1)=(K:Int) from by omega]
           go_wp2_with fail
           refine rstep hO hK (slots_read_r B p o S ⟨0,base+16*tellsM K b q,loc+(2+18*tellsM K b q),0,0,0,0⟩ _ hP (by simp only;omega) (by simp only;omega) (by simp only;omega) (by simp only;omega)) ?_
           clear hO hK hP c_b1;intro y o S w1 hP hk hK hO;replace b1:=b1.keep hk;have c_b1:=b1.cells;clear hk
           have hPh:=Hd hP
           have hKh:=Hd hK
           have hOh:=Hd hO;clear hP hK hO c_b1 hT
           by_cases hxy:x<y
           · go_wp2_with fail
             refine⟨⟨y,b+1,o,S,rfl,by go_num,by omega,b1,hPh.out,hKh.out,?_⟩,by simp [intOf];omega⟩
             rw [show K-(b+1)=k from by have:=hkh.out;omega]
             have h:=hOh.out
             simp only [Prog.bind_ret,Int.max_eq_right (Int.le_of_lt hxy)] at h
             exact h
           · go_wp2_with fail
             refine⟨⟨x,b+1,o,S,rfl,by go_num,by omega,b1,hPh.out,hKh.out,?_⟩,by simp [intOf];omega⟩
             rw [show K-(b+1)=k from by have:=hkh.out;omega]
             have h:=hOh.out
             simp only [Prog.bind_ret,Int.max_eq_left (show y<=x by omega)] at h
             exact h
       · obtain rfl:K=b:=by omega
         rw [Nat.sub_self] at hO
         replace hO:ROwes R encI B p w ((forP (fun i _=>slotsW (base+16*tellsM K q i) (loc+(2+18*tellsM K q i)) x) (ranksFrom q K 0) ()).bind fun _=>.ret (unLo x (clamp top 1048576))) o S:=hO
         go_wp2_with fail
         go_loopw [13] (fun z wr'=>∃ (b:Nat) (o:Bool) (S:TS),z=V Z b/\b<=K/\HeldR wr' p w.heap.size (.cells #[V Z kind,V Z base,V Z loc,V Z ((K:Int)+1),V Z (W:Int),V Z rd,V Z top] 67)/\RAt B wr' p o S/\KeepR B p w wr'/\ROwes R encI B p w ((forP (fun i _=>slotsW (base+16*tellsM K q i) (loc+(2+18*tellsM K q i)) x) (ranksFrom q (K-b) b) ()).bind fun _=>.ret (unLo x (clamp top 1048576))) o S) (fun z _=>K-(intOf z).toNat)
         case atStart=>exact⟨0,o,S,rfl,by omega,b1,hP,hK,hO⟩
         case round =>
          clear b1 c_b1 hO hP hK o S
          obtain⟨b,o,S,rfl,hb,b1,hP,hK,hO⟩:=hrel
          have c_b1:=b1.cells
          obtain⟨_,_,_,_,_,hcc⟩:=hP.cell
          by_cases hbk:b<K
          · cases o with
            | true =>
              have hf:∀ w',RAt B w' p true S->KeepR B p w w'->R (.returned (encI (unLo x (clamp top 1048576)))) w':=fun w' h1 h2=>hO.over _ h1 h2
              go_wp2_with fail
              clear hcc
              refine (clamp_r _ _ _).mono ?_
              rintro e w' ⟨rfl,rfl⟩
              generalize clamp top 1048576=T at *
              go_wp2_with fail
              refine (unpack_rx _ _ _).mono ?_
              rintro e w2 ⟨rfl,hx⟩
              clear c_b1;replace hK:=hK.trans (Keep.of_ext hx hP.lt hP.le);replace b1:=b1.ext hx hP.lt;have c_b1:=b1.cells;replace hP:=hP.ext hx;clear hx;go_wp2_with fail
              exact hf _ hP hK
            | false =>
              obtain⟨k,hk⟩:∃ k,K-b=k+1:=⟨K-b-1,by omega⟩
              have hkh:=Hd hk
              by_cases hbq:b=q
              · rw [hk,ranks_but q k b hbq] at hO
                have e:((b:Int) != (q:Int))=false:=by simp [hbq]
                have hPh:=Hd hP
                have hKh:=Hd hK
                have hOh:=Hd hO;clear hP hK hO c_b1 hk hbq;go_wp2_with fail
                refine⟨⟨b+1,false,S,by go_num,by omega,b1,hPh.out,hKh.out,?_⟩,by simp [intOf];omega⟩
                rw [show K-(b+1)=k from by have:=hkh.out;omega]
                exact hOh.out
              · rw [hk,ranks_not q k b hbq,forP_cons,Prog.bind_assoc] at hO
                have e:((b:Int) != (q:Int))=true:=by rw [bne_iff_ne];omega
                have hT:=tells_le K q b hKk hqK hbk
                clear hk;go_wp2_with fail
                clear hcc
                refine (tells_r ⟨kind,base,loc,(K:Int)+1,(W:Int),rd,top⟩ q b _ hn1 hn2 hw1 hw2 (by simp only;omega) (by simp only;omega) (by omega) hb1 hb2 hl1 hl2).mono ?_
                rintro e w2 ⟨rfl,hx⟩
                clear c_b1;replace hK:=hK.trans (Keep.of_ext hx hP.lt hP.le);replace b1:=b1.ext hx hP.lt;have c_b1:=b1.cells;replace hP:=hP.ext hx;clear hx
                simp only [show ((K:Int)+1-1)=(K:Int) from by omega]
                go_wp2_with fail
                refine rstep hO hK (slots_write_r B p false S ⟨0,base+16*tellsM K q b,loc+(2+18*tellsM K q b),0,0,0,0⟩ x _ hP (by simp only;omega) (by simp only;omega) (by simp only;omega) (by simp only;omega)) ?_
                clear hO hK hP c_b1;intro u o S w1 hP hk hK hO;replace b1:=b1.keep hk;have c_b1:=b1.cells;clear hk
                have hPh:=Hd hP
                have hKh:=Hd hK
                have hOh:=Hd hO;clear hP hK hO c_b1 hT;go_wp2_with fail
                refine⟨⟨b+1,o,S,by go_num,by omega,b1,hPh.out,hKh.out,?_⟩,by simp [intOf];omega⟩
                rw [show K-(b+1)=k from by have:=hkh.out;omega]
                exact hOh.out
          · obtain rfl:K=b:=by omega
            rw [Nat.sub_self] at hO
            replace hO:ROwes R encI B p w (.ret (unLo x (clamp top 1048576))) o S:=hO
            have hf:∀ w',RAt B w' p o S->KeepR B p w w'->R (.returned (encI (unLo x (clamp top 1048576)))) w':=fun w' h1 h2=>hO.ret h1 h2
            go_wp2_with fail
            clear hcc
            refine (clamp_r _ _ _).mono ?_
            rintro e w' ⟨rfl,rfl⟩
            generalize clamp top 1048576=T at *
            go_wp2_with fail
            refine (unpack_rx _ _ _).mono ?_
            rintro e w2 ⟨rfl,hx⟩
            clear c_b1;replace hK:=hK.trans (Keep.of_ext hx hP.lt hP.le);replace b1:=b1.ext hx hP.lt;have c_b1:=b1.cells;replace hP:=hP.ext hx;clear hx;go_wp2_with fail
            exact hf _ hP hK
end Go.Proofs.YtbaajjkopdjbgaaGreat
namespace Go.Proofs.YtbaajjkopdjbgaaGreat
theorem put_pack:(∀ (a:Act) (d:Nat) (v:Value),a.put (some d) v={ a with tmps:=a.tmps.setIfInBounds d v })/\(∀ (a:Act) (v:Value),a.put none v=a)/\(∀ (l:List Value) (i:Nat) (v:Value),l.toArray.setIfInBounds i v=(l.set i v).toArray) /\
  (∀ (l:List Value) (x v:Value),(x :: l).set 0 v=v :: l)/\(∀ (l:List Value) (i:Nat) (x v:Value),(x :: l).set (i+1) v=x :: l.set i v) :=
 ⟨fun _ _ _=>rfl,fun _ _=>rfl,fun _ _ _=>List.setIfInBounds_toArray ..,fun _ _ _=>rfl,fun _ _ _ _=>rfl⟩
end Go.Proofs.YtbaajjkopdjbgaaGreat
