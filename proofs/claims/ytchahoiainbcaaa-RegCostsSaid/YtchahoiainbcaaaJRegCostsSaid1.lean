/-
  RegCostsSaid: part 1 of its proof.
-/
import Derived.Test.YtchahoiainbcaaaJRegCostsSaid0
import Derived.OrdersIn
import Derived.Deep.RegionHeld2
import Derived.Shelf.Abstract
import Derived.Deep.QuietTactic
import Derived.BigQuiet
import Derived.Maps.AppendAt
import Derived.Laws.StructEq
namespace Go.Proofs.Ytchahoiainbcaaa
open Go.RowKit Kv
structure KeepX (X:Nat->Prop) (ix:List Nat) (B p:Nat) (w w':World):Prop where
 below:Below B w w'
 rest:∀ b,b<w.heap.size->¬ ownR ix w p b->¬ X b->w'.heap[b]?=w.heap[b]?/\¬ ownR ix w' p b
section
variable {X:Nat->Prop} {ix:List Nat} {B p:Nat} {w w' w'':World}
theorem Keep.x (h:Keep ix B p w w')(X:Nat->Prop):KeepX X ix B p w w':=⟨h.below,fun b h1 h2 _=>h.rest b h1 h2⟩
theorem KeepX.trans (h:KeepX X ix B p w w')(k:KeepX X ix B p w' w''):KeepX X ix B p w w'' :=
 ⟨h.below.trans k.below,fun b hb ho hx=>by
  obtain⟨h1,h2⟩:=h.rest b hb ho hx
  obtain⟨h3,h4⟩:=k.rest b (Nat.lt_of_lt_of_le hb h.below.size) h2 hx
  exact⟨h3.trans h1,h4⟩⟩
theorem KeepX.after (h:Keep ix B p w w')(k:KeepX X ix B p w' w'')(hX:∀ b,X b->w.heap.size<=b):Keep ix B p w w'' :=
 ⟨h.below.trans k.below,fun b hb ho=>by
  obtain⟨h1,h2⟩:=h.rest b hb ho
  obtain⟨h3,h4⟩:=k.rest b (Nat.lt_of_lt_of_le hb h.size) h2 (fun hx=>by have:=hX b hx;omega)
  exact⟨h3.trans h1,h4⟩⟩
theorem KeepX.held {b:Nat}{o:Obj}(h:Held ix w p b o)(k:KeepX X ix B p w w')(hx:¬ X b):Held ix w' p b o:=by
 obtain⟨h1,h2⟩:=k.rest b h.lt h.2 hx
 exact⟨h1.trans h.1,h2⟩
theorem KeepX.put {l:Nat}{o:Obj}(h:KeepX X ix B p w w')(hl:w.heap.size<=l)(hn:¬ ownR ix w' p l)(hB:B<=w.heap.size):KeepX X ix B p w (w'.putObj l o):=by
 have hp:(w'.putObj l o).heap[p]?=w'.heap[p]?:=World.putObj_heap_other (fun e=>hn (.inl e.symm))
 refine⟨⟨h.below.os,h.below.tape,h.below.output,by have:=h.below.size;simpa using this,fun k hk=>(World.putObj_heap_other (by omega)).trans (h.below.block k hk)⟩,fun b hb ho hx=>?_⟩
 obtain⟨h1,h2⟩:=h.rest b hb ho hx
 exact⟨(World.putObj_heap_other (by omega)).trans h1,fun h'=>h2 ((ownR_same hp b).1 h')⟩
theorem Keep.put {l:Nat}{o:Obj}(h:Keep ix B p w w')(hl:w.heap.size<=l)(hn:¬ ownR ix w' p l)(hB:B<=w.heap.size):Keep ix B p w (w'.putObj l o):=by
 have hp:(w'.putObj l o).heap[p]?=w'.heap[p]?:=World.putObj_heap_other (fun e=>hn (.inl e.symm))
 refine⟨⟨h.below.os,h.below.tape,h.below.output,by have:=h.below.size;simpa using this,fun k hk=>(World.putObj_heap_other (by omega)).trans (h.below.block k hk)⟩,fun b hb ho=>?_⟩
 obtain⟨h1,h2⟩:=h.rest b hb ho
 exact⟨(World.putObj_heap_other (by omega)).trans h1,fun h'=>h2 ((ownR_same hp b).1 h')⟩
theorem Held.put {b l:Nat}{o o':Obj}(h:Held ix w p b o)(hb:b≠l)(hn:¬ ownR ix w p l):Held ix (w.putObj l o') p b o :=
 ⟨(World.putObj_heap_other hb).trans h.1,fun h'=>h.2 ((ownR_same (World.putObj_heap_other (fun e=>hn (.inl e.symm))) b).1 h')⟩
theorem Held.put_same {l:Nat}{o o':Obj}(h:Held ix w p l o):Held ix (w.putObj l o') p l o' :=
 ⟨World.putObj_heap_same h.lt,fun h'=>h.2 ((ownR_same (World.putObj_heap_other (fun e=>h.2 (.inl e.symm))) l).1 h')⟩
end
theorem row_put {w:World}{B e s n l:Nat}{v:Value}{xs:List Value}{o:Obj}(h:w.ownsRow B e s v n xs)(hl:v.ownBlock≠some l):(w.putObj l o).ownsRow B e s v n xs:=by
 refine⟨h.1,?_⟩
 rcases h.2 with h2 | ⟨g,cap,cur,rfl,hb,hg,r⟩
 · exact .inl h2
 · exact .inr ⟨g,cap,cur,rfl,hb,(World.putObj_heap_other (fun e=>hl (by rw [<- e];rfl))).trans hg,r⟩
section
variable {B p:Nat} {w:World} {S:TS}
theorem PMem.put {st:Int}{vA vL vC vN:Value}{L:List Int}{l:Nat}(h:PMem B w p S st vA vL vC vN L)(o:Obj)(hn:¬ ownR [2,3,4] w p l)(hB:B<=l):PMem B (w.putObj l o) p S st vA vL vC vN L :=
 { h with
  heap:=(World.putObj_heap_other (fun e=>hn (.inl e.symm))).trans h.heap
  ans:=by
   obtain⟨A,c,rfl,h1,h2,h3⟩:=h.ans
   refine⟨A,c,rfl,h1,h2,fun hl=>?_⟩
   obtain⟨b,off,rfl,hb,hc⟩:=h3 hl
   have hbB:=h.ansB b rfl
   refine⟨b,off,rfl,by simpa using hb,fun i x hi=>?_⟩
   rw [<- hc i x hi]
   exact World.cell?_of_block (w:=w) (World.putObj_heap_other (show b≠l by omega))
  rowL:=row_put h.rowL (fun e=>hn (ownR_at h.heap (by simp) (i:=2) rfl e))
  rowC:=row_put h.rowC (fun e=>hn (ownR_at h.heap (by simp) (i:=3) rfl e))
  rowN:=row_put h.rowN (fun e=>hn (ownR_at h.heap (by simp) (i:=4) rfl e)) }
theorem Plays.put {l:Nat}(h:Plays B w p S)(o:Obj)(hn:¬ ownR [2,3,4] w p l)(hB:B<=l):Plays B (w.putObj l o) p S:=by
 obtain⟨h0,vA,vL,vC,vN,L,h⟩:=h
 exact⟨h0,vA,vL,vC,vN,L,h.put o hn hB⟩
theorem Stops.put {l:Nat}(h:Stops B w p S)(o:Obj)(hn:¬ ownR [2,3,4] w p l)(hB:B<=l):Stops B (w.putObj l o) p S:=by
 obtain⟨vA,vL,vC,vN,L,h⟩:=h
 exact⟨vA,vL,vC,vN,L,h.put o hn hB⟩
def Shut (D:Nat) (R:Ending->World->Prop) (e:Ending) (W:World):Prop:=W.heap[D]?=some (.deferred (some []))/\R e (W.putObj D (.deferred none))
theorem owes_shut {α:Type}{R:Ending->World->Prop}{enc:α->Value}{w0 W1:World}{r:Option α × TS}{D:Nat}(hO:Owes R enc B p w0 r)(hK:KeepP B p w0 W1)(hD:HeldP W1 p D (.deferred (some [])))(hD0:w0.heap.size<=D)(hB:B<=w0.heap.size) :
  Owes (Shut D R) enc B p W1 r:=by
 intro e W' h
 unfold Post at h
 obtain⟨o,S1⟩:=r
 cases o with
 | some v =>
   obtain⟨rfl,h1,h2⟩:=h
   have hD':=hD.keep h2
   exact⟨hD'.1,hO _ _ ⟨rfl,h1.put _ hD'.2 (by omega),(hK.trans h2).put hD0 hD'.2 hB⟩⟩
 | none =>
   obtain⟨rfl,h1,h2⟩:=h
   have hD':=hD.keep h2
   exact⟨hD'.1,hO _ _ ⟨rfl,h1.put _ hD'.2 (by omega),(hK.trans h2).put hD0 hD'.2 hB⟩⟩
end
def roundQ {σ:Type} (X:Nat->Prop) (B p:Nat) (Js:σ->World->Prop) (r:Option σ × TS) (W:World):Exit->Act->World->Prop
 | .normal,_,W'=>∃ x S,r=(some x,S)/\Plays B W' p S/\KeepX X [2,3,4] B p W W'/\Js x W'
 | .panic c,a,W'=>a.defers=[]/\stopE p=.panicked c/\∃ S,r=(none,S)/\Stops B W' p S/\KeepX X [2,3,4] B p W W'
 | _,_,_=>False
theorem tape_range {σ α:Type}{P:Program}{f gf:FuncId}{fn:Func}{lb:Array Value}{g:Operand}{ps:Array Tmp}{assign body:Code}{Q:Exit->Act->World->Prop}{tmps:Array Value}{w:World}
  {B p:Nat}{w0:World}{S:TS}{R:Ending->World->Prop}{enc:α->Value}{T:Int->σ->Prog σ}{fin:σ->Prog α}{xs:List Int}{x:σ}{Ok:World->Prop}{ds:List Deferred}
  (hf:P.funcs[f]?=some fn)(hg:({ tmps:=tmps,defers:=ds }:Act).eval g=.func (.func gf) #[] lb)(eg:∀ args w,(callFunc gf args).run P w=.ok (.enter gf args) w)(hps:ps.size=1)(hG:Gives P gf lb xs Ok)
  (X:Nat->Prop)(Js:σ->World->Prop)(hX:∀ b,X b->w.heap.size > b/\w0.heap.size<=b)(hB:B<=w.heap.size)
  (hOk:∀ W,KeepX X [2,3,4] B p w W->Ok W)(hJa:∀ x W o,p<W.heap.size->Js x W->Js x (W.alloc o))(hJp:∀ x W l o,w.heap.size<=l->¬ ownR [2,3,4] W p l->Js x W->Js x (W.putObj l o))
  (hO:Owes R enc B p w0 (((forP T xs x).bind fin).run S))(_hK:KeepP B p w0 w)(hP:Plays B w p S)(hJ:Js x w)
  (a₁:Int->Act)
  (hassign:∀ (l:Nat) (y:Int) (W:World) (K:Act->World->Prop),K (a₁ y) W->assign.wpIn (Fence.wide.inRound l) 0 P (Exit.then K (fun _ _ _=>False)) { tmps:=(ps.zip #[.int .i64 y]).foldl (fun t (p,v)=>t.setIfInBounds p v) tmps,defers:=[] } W)
  (hbody:∀ (l:Nat) (y:Int) (x:σ) (S:TS) (W:World),y∈xs->Plays B W p S->KeepX X [2,3,4] B p w W->Js x W->body.wpIn (Fence.wide.inRound l) 0 P (roundQ X B p Js ((T y x).run S) W) (a₁ y) W)
  (hdone:∀ x S W,Owes R enc B p w0 ((fin x).run S)->KeepX X [2,3,4] B p w W->Plays B W p S->Js x W->HeldP W p w.heap.size (.deferred (some []))->Q .normal { tmps:=tmps,defers:={ target:=.collected w.heap.size,args:=#[] } :: ds } W)
  (hpan:∀ S W c,stopE p=.panicked c->Owes R enc B p w0 (none,S)->KeepX X [2,3,4] B p w W->Stops B W p S->HeldP W p w.heap.size (.deferred (some []))->Q (.panic c) { tmps:=tmps,defers:={ target:=.collected w.heap.size,args:=#[] } :: ds } W) :
  WpF P f (Code.rangeFunc g ps assign body) Q { tmps:=tmps,defers:=ds } w:=by
 obtain⟨rec,hrec⟩:∃ rec:LoopState->Loop,rec=fun st=>{ state:=st,pending:=none,fn:=f,tmps:=tmps,params:=ps,assign,body,defers:=w.heap.size }:=⟨_,rfl⟩
 obtain⟨W1,hW1⟩:∃ W1,(w.alloc (.deferred (some []))).alloc (.loop (rec .ready))=W1:=⟨_,rfl⟩
 have hlt:=hP.lt
 have hP1:Plays B W1 p S:=by rw [<- hW1];exact (hP.alloc _).alloc _
 have hD1:HeldP W1 p w.heap.size (.deferred (some [])):=by
  rw [<- hW1];exact Held.alloc (hP.held _) _ (hP.alloc _).lt
 have hL1:HeldP W1 p (w.heap.size+1) (.loop (rec .ready)):=by
  rw [<- hW1];have:=(hP.alloc (.deferred (some []))).held (.loop (rec .ready));rwa [World.size_alloc] at this
 have hJ1:Js x W1:=by rw [<- hW1];exact hJa _ _ _ (hP.alloc _).lt (hJa _ _ _ hlt hJ)
 have hX1:KeepX X [2,3,4] B p w W1:=by
  rw [<- hW1];exact (Keep.trans (Keep.alloc _ hlt hB) (Keep.alloc _ (hP.alloc _).lt (hP.alloc _).le)).x X
 refine wpF_range ⟨w.heap.size+1,[{ target:=.collected w.heap.size,args:=#[] }],W1,{ target:=.fn (.func gf) lb,args:=#[.func (.yield (w.heap.size+1)) #[] #[]] },W1,gf,
  #[.func (.yield (w.heap.size+1)) #[] #[]]++lb,W1,?_,?_,?_,?_⟩
 · rw [<- hW1,hrec];exact run_enterLoop_outer _ _ _ _ _
 · simp only [resolve,hg]
   simp [go_sem]
 · simp [invoke,go_sem,eg]
 · refine (hG (w.heap.size+1)
    (fun ys W=>(∀ y∈ys,y∈xs)/\HeldP W p (w.heap.size+1) (.loop (rec .ready))/\HeldP W p w.heap.size (.deferred (some []))/\KeepX X [2,3,4] B p w W/\∃ x S,Owes R enc B p w0 (((forP T ys x).bind fin).run S)/\Plays B W p S/\Js x W)
    (fun c W=>stopE p=.panicked c/\HeldP W p w.heap.size (.deferred (some []))/\KeepX X [2,3,4] B p w W/\∃ S,Owes R enc B p w0 (none,S)/\Stops B W p S)
    W1 (fun ys W h=>hOk W h.2.2.2.1) ?_ ⟨fun _ h=>h,hL1,hD1,hX1,x,S,hO,hP1,hJ1⟩).mono ?_
   · rintro y ys W ⟨hys,hl,hd,hk,x,S,ho,hpl,hj⟩
     have hy:=run_yield (P:=P) (args:=#[.int .i64 y]) hl.1 (by rw [hrec];exact hps.symm)
     rw [hrec] at hy
     refine⟨f,_,assign,body,hy,roundIn_p hf (hassign _ y W _ ⟨_,run_beginRound hl.1 (by rw [hrec]),?_⟩)⟩
     have hBl:B<=w.heap.size+1:=by omega
     have hl2:HeldP (W.putObj (w.heap.size+1) (.loop { rec .ready with state:=.busy })) p (w.heap.size+1) (.loop { rec .ready with state:=.busy }):=hl.put_same
     have hd2:HeldP (W.putObj (w.heap.size+1) (.loop { rec .ready with state:=.busy })) p w.heap.size (.deferred (some [])):=hd.put (by omega) hl.2
     have hk2:=hk.put (o:=.loop { rec .ready with state:=.busy }) (Nat.le_succ w.heap.size) hl.2 hB
     have hpl2:=hpl.put (.loop { rec .ready with state:=.busy }) hl.2 hBl
     have hj2:=hJp x W (w.heap.size+1) (.loop { rec .ready with state:=.busy }) (Nat.le_succ _) hl.2 hj
     generalize W.putObj (w.heap.size+1) (.loop { rec .ready with state:=.busy })=W2 at *
     have hnX:∀ b,w.heap.size<=b->¬ X b:=fun b hb hx=>by have:=(hX b hx).1;omega
     refine wpIn_mono (hbody _ y x S W2 (hys y (by simp)) hpl2 hk2 hj2) ?_
     rintro e a3 W3 hq
     cases e with
     | normal =>
       obtain⟨x',S',hr,hp3,hk3,hj3⟩:=hq
       have hl3:=KeepX.held hl2 hk3 (hnX _ (Nat.le_succ _))
       have hd3:=KeepX.held hd2 hk3 (hnX _ (Nat.le_refl _))
       have hend:=run_endRound (P:=P) none hl3.1
       refine⟨_,_,hend,.inl ⟨rfl,fun z hz=>hys z (by simp [hz]),?_,?_,?_,x',S',?_,?_,?_⟩⟩
       · have:=hl3.put_same (o':=.loop (rec .ready))
         rw [hrec] at this ⊢
         exact this
       · exact hd3.put (by omega) hl3.2
       · exact (hk2.trans hk3).put (Nat.le_succ _) hl3.2 hB
       · have e:((forP T (y :: ys) x).bind fin)=(T y x).bind fun z=>(forP T ys z).bind fin:=by
          simp only [forP];rw [Prog.bind_assoc]
         rw [e,Prog.run_bind_some hr] at ho
         exact ho
       · exact hp3.put _ hl3.2 hBl
       · exact hJp _ _ _ _ (Nat.le_succ _) hl3.2 hj3
     | panic c =>
       obtain⟨hdf,hc,S',hr,hp3,hk3⟩:=hq
       refine⟨hdf,.inr ⟨c,rfl,hc,KeepX.held hd2 hk3 (hnX _ (Nat.le_refl _)),hk2.trans hk3,S',?_,hp3⟩⟩
       have e:((forP T (y :: ys) x).bind fin)=(T y x).bind fun z=>(forP T ys z).bind fin:=by
        simp only [forP];rw [Prog.bind_assoc]
       rw [e,Prog.run_bind_none hr] at ho
       exact ho
     | exit id=>exact hq.elim
     | goto t=>exact hq.elim
     | ret=>exact hq.elim
     | outgrown=>exact hq.elim
   · rintro e W2 (⟨v,rfl,_,hl,hd,hk,x,S,ho,hpl,hj⟩ | ⟨c,rfl,hc,hd,hk,S,ho,hst⟩)
     · have hend:=run_endLoop (P:=P) hl.1 (by rw [hrec];simp)
       refine⟨_,by rw [hrec] at hend;exact hend,?_⟩
       refine hdone x S _ ho ?_ ?_ ?_ ?_
       · rw [hrec] at hl;exact hk.put (Nat.le_succ _) hl.2 hB
       · exact hpl.put _ hl.2 (by omega)
       · exact hJp _ _ _ _ (Nat.le_succ _) hl.2 hj
       · exact hd.put (by omega) hl.2
     · exact hpan S W2 c hc ho hk hst hd
def noDefers (ops:Array Oper):Bool:=ops.all fun o=>match o.op with | .defer _=>false | _=>true
section
variable {P:Program} {ops:Array Oper} {Q:Exit->Act->World->Prop} {md:Region.Mode} {l n:Nat}
theorem noDefers_spec (h:noDefers ops=true){i:Nat}{o:Oper}(hi:ops[i]?=some o):∀ c,o.op≠.defer c:=by
 intro c hc
 unfold noDefers at h
 rw [Array.all_eq_true] at h
 obtain⟨hlt,he⟩:=Array.getElem?_eq_some_iff.1 hi
 have:=h i hlt
 rw [he,hc] at this
 cases this
theorem wpOpIn_of_wpOp (hd:noDefers ops=true)(hQ:∀ a w,¬ Q .outgrown a w){i:Nat}{K K':Act->World->Prop}(hK:∀ a w,K a w->K' a w){a:Act}{w:World}(h:wpOp P ops Q i K a w) :
  wpOpIn (Fence.wide.inRound l) n P ops Q i K' a w:=by
 have hL:¬ LetsOut Q:=fun ⟨a0,w0,hq⟩=>hQ a0 w0 hq
 unfold wpOp at h
 unfold wpOpIn
 cases ho:ops[i]? with
 | none=>rw [ho] at h;exact hK _ _ h
 | some o =>
   rw [ho] at h
   simp only at h ⊢
   split
   · rename_i hw
     rw [if_pos hw] at h
     rcases h with h | ⟨_,h⟩
     · refine⟨fun _ _=>trivial,?_⟩
       rw [Oper.semAt_eq _ _ _ (noDefers_spec hd ho)]
       unfold Oper.wp at h
       generalize (execOp a.eval o).run P w=r at h
       cases r with
       | ok v w' =>
         cases v <;> simp only [Oper.upon,Oper.uponIn] at h ⊢
         case value v=>exact hK _ _ h
         case skip=>exact hK _ _ h
         case defer d=>exact hK _ _ h
         case enter f args =>
          refine⟨fun hx=>(by cases hx),(callsIn_wide.2 (Calls.mono h fun e w2 he=>?_):CallsIn Fence.wide (n-1) P f args w' _)⟩
          cases e with
          | returned v=>exact hK _ _ he
          | panicked c=>exact he
          | outgrown=>exact he
         case row row args =>
          refine⟨fun hx=>(by cases hx),fun c cs _=>?_⟩
          obtain⟨v,w2,hr,hs⟩:=h c cs
          exact⟨v,w2,hK _ _ hr,stepsIn_wide.2 hs⟩
       | halt x w'=>cases x <;> simp only [Oper.upon,Oper.uponIn] at h ⊢;exact h
     · exact absurd h hL
   · rename_i hw
     rw [if_neg hw] at h
     exact⟨fun _ _=>trivial,hK _ _ h⟩
theorem wpAnyIn_of_wpAny (hd:noDefers ops=true)(hQ:∀ a w,¬ Q .outgrown a w):∀ (fuel:Nat) (listed:Array Bool) (a:Act) (w:World),wpAny P md ops Q fuel listed a w->wpAnyIn (Fence.wide.inRound l) n P md ops Q fuel listed a w
 | 0,_,_,_,h=>h
 | fuel+1,_,_,_,h=>⟨h.1,fun i hi=>wpOpIn_of_wpOp hd hQ (fun a' w' h'=>wpAnyIn_of_wpAny hd hQ fuel _ a' w' h') (h.2 i hi)⟩
theorem wpIn_region_held {id:Nat}{a:Act}{w:World}{S:World->Prop}(hm:P.follows .mixedOrders=true)(hd:noDefers ops=true)(hQ:∀ a w,¬ Q .outgrown a w)(hS:S w.drew)
  (h:S w.drew->wpAnyH P .any ops Q S ops.size (Array.replicate ops.size false) a w.drew):(Code.region id ops true).wpIn (Fence.wide.inRound l) n P Q a w :=
 wpIn_region_any hm (wpAnyIn_of_wpAny hd hQ _ _ _ _ (wpAny_of_held _ _ _ _ (h hS)))
end
theorem wpF_block {P:Program}{f:FuncId}{Q:Exit->Act->World->Prop}{a:Act}{w:World}{id:Nat}{c:Code}(h:WpF P f c (Exit.inBlock id Q) a w):WpF P f (Code.block id c) Q a w:=by
 intro b k cs hro hb
 obtain⟨e,a₁,w₁,hq,harr⟩:=h b (.inBlock id :: k) cs hro hb
 cases e with
 | normal=>exact⟨.normal,a₁,w₁,hq,.head (fenced_wide _ _) stepR_block (StepsIn.trans harr (.one (fenced_wide _ _) stepR_inBlock))⟩
 | exit id' =>
   by_cases hid:id'=id
   · simp only [Exit.inBlock,hid,if_true] at hq
     exact⟨.normal,a₁,w₁,hq,.head (fenced_wide _ _) stepR_block (harr.1 k (by simp [exitTo,hid]))⟩
   · simp only [Exit.inBlock,hid,if_false] at hq
     have this:(id==id')=false:=by simp;exact fun h=>hid h.symm
     have hx:exitTo id' (.inBlock id :: k)=exitTo id' k:=by simp [exitTo,this]
     exact⟨.exit id',a₁,w₁,hq,fun k' hk=>.head (fenced_wide _ _) stepR_block (harr.1 k' (by rw [hx];exact hk)),
      fun hr' hk=>let ⟨k₁,h1,h2⟩:=harr.2 hr' (by rw [hx];exact hk);⟨k₁,h1,.head (fenced_wide _ _) stepR_block h2⟩⟩
 | goto l =>
   have hx:gotoIn l (.inBlock id :: k)=gotoIn l k:=by simp [gotoIn]
   exact⟨_,a₁,w₁,hq,fun k' hk=>.head (fenced_wide _ _) stepR_block (harr.1 k' (by rw [hx];exact hk)),
    fun hr' hk=>let ⟨k₁,h1,h2⟩:=harr.2 hr' (by rw [hx];exact hk);⟨k₁,h1,.head (fenced_wide _ _) stepR_block h2⟩⟩
 | ret=>exact⟨_,a₁,w₁,hq,.of_steps (.one (fenced_wide _ _) stepR_block) harr⟩
 | panic ch=>exact⟨_,a₁,w₁,hq,.of_steps (.one (fenced_wide _ _) stepR_block) harr⟩
 | outgrown=>exact⟨_,a₁,w₁,hq,.of_steps (.one (fenced_wide _ _) stepR_block) harr⟩
attribute [local go_sem] Oper.semAt_some
theorem leavesM_ret0 {P:Program}{fn:Func}{tmps:Array Value}{R:Ending->World->Prop}{v:Value}{w:World}(hr:(results fn tmps).run P w=.ok v w)(h:R (.returned v) w) :
  LeavesInM Fence.wide 0 P fn tmps R [] .returning w:=⟨v,hr,h⟩
theorem leavesM_panic0 {P:Program}{fn:Func}{tmps:Array Value}{R:Ending->World->Prop}{c:List PanicEntry}{w:World}(h:R (.panicked c) w) :
  LeavesInM Fence.wide 0 P fn tmps R [] (.panicking c) w:=h
theorem leavesM_cons {P:Program}{fn:Func}{tmps:Array Value}{R:Ending->World->Prop}{u:FrameMode}{w:World}{D:Nat}{ds:List Deferred}(hu:u≠.run)(hD:w.heap[D]?=some (.deferred (some [])))
  (h:LeavesInM Fence.wide 0 P fn tmps R ds u (w.putObj D (.deferred none))):LeavesInM Fence.wide 0 P fn tmps R ({ target:=.collected D,args:=#[] } :: ds) u w :=
 ⟨hu,.inl ⟨D,_,rfl,run_takeDeferred hD,h⟩⟩
theorem round_stop {α:Type}{enc:α->Value}{B p:Nat}{w w':World}{r:Option α × TS}(h:Post enc B p w r (stopE p) w'):∃ S,r=(none,S)/\Stops B w' p S/\KeepP B p w w':=by
 obtain⟨o,S⟩:=r
 cases o with
 | some v=>obtain⟨h,_⟩:=h;cases h
 | none=>exact⟨S,rfl,h.2.1,h.2.2⟩
theorem ranks_mem (but:Int):∀ (n:Nat) (i y:Int),y∈ranksFrom but n i->i<=y/\y<i+n/\y≠but
 | 0,i,y,h=>by simp [ranksFrom] at h
 | n+1,i,y,h=>by
   simp only [ranksFrom] at h
   split at h
   · have:=ranks_mem but n (i+1) y h;omega
   · rename_i hne
     rcases List.mem_cons.1 h with rfl | h
     · omega
     · have:=ranks_mem but n (i+1) y h;omega
theorem pack_clamp (a v top:Int):packI a (clamp v (clamp top 1048576)) (clamp top 1048576)=packI a v (clamp top 1048576):=by
 unfold packI
 have h:=room_bd top
 have e:room (clamp top 1048576)=clamp top 1048576:=by
  rw [clamp_room]
  unfold room within at *
  omega
 rw [e]
 congr 1
 unfold clamp within
 omega
theorem ranks_p (k but:Int)(w:World):Calls Try.prog 65 #[.int .i64 k,.int .i64 but] w fun e w' =>
  e=.returned (.func (.func 84) #[] #[.pointer (some ⟨w.heap.size,0,none⟩),.pointer (some ⟨w.heap.size+1,0,none⟩)])/\w'=(w.alloc (.cells #[.int .i64 k] 3)).alloc (.cells #[.int .i64 but] 3):=by
 go_enter Try.func65,Try.ntmps65
 go_wp2_with fail
 go_ret
 exact⟨rfl,rfl⟩
theorem table_write_p (B p:Nat)(S:TS)(r:Reg)(me v:Int)(w:World)(h:Plays B w p S)(hn1:1<=r.n)(hn2:r.n<=8)(hw1:0<=r.wr)(hw2:r.wr<r.n)(hb1:0<=r.base)(hb2:r.base<=56000)(hl1:0<=r.loc)(hl2:r.loc<=56000) :
  Calls Try.prog 31 #[.pointer (some ⟨p,0,none⟩),encR r,.int .i64 me,.int .i64 v] w (Post encU B p w ((tableW r.base r.loc r.n r.wr r.top me v).run S)):=by
 generalize hR:Post encU B p w ((tableW r.base r.loc r.n r.wr r.top me v).run S)=R
 have hO:Owes R encU B p w ((tableW r.base r.loc r.n r.wr r.top me v).run S):=hR▸owes _ _ _ _ _
 clear hR
 obtain⟨kind,base,loc,n,wr,rd,top⟩:=r
 simp only at hn1 hn2 hw1 hw2 hb1 hb2 hl1 hl2 hO
 unfold encR
 obtain⟨b1,b2,hK,hP⟩:=h.entry2 (.cells #[.pointer (some ⟨p,0,none⟩)] 36) (.cells #[.int .i64 kind,.int .i64 base,.int .i64 loc,.int .i64 n,.int .i64 wr,.int .i64 rd,.int .i64 top] 23)
 have c_b1:=b1.cells
 have c_b2:=b2.cells
 have hBw:=Lib.hid h.le
 clear h
 unfold tableW at hO
 refine calls_of_wpF Try.func31 rfl ?_
 simp only [Try.ntmps31,List.size_toArray,List.length_cons,List.length_nil,Nat.reduceAdd,Nat.reduceSub,Array.replicate_succ,Array.replicate_zero,List.push_toArray,List.append_toArray,List.nil_append,List.cons_append]
 refine wpF_step fun K hK2=>?_
 go_wp2_with fail
 refine wpF_step fun K hK2=>?_
 by_cases hme:me=wr
 · rw [if_neg (by simpa using hme)] at hO
   subst hme
   go_wp2_with fail
   refine (writer_p ⟨kind,base,loc,n,me,rd,top⟩ _ hn1 hn2 hw1 hw2).mono ?_
   rintro e w2 ⟨rfl,hx⟩
   clear c_b1 c_b2
   replace hK:=hK.trans (Keep.of_ext hx hP.lt hP.le)
   replace b1:=b1.ext hx hP.lt
   have c_b1:=b1.cells
   replace b2:=b2.ext hx hP.lt
   have c_b2:=b2.cells
   replace hP:=hP.ext hx
   clear hx
   go_wp2_with fail
   refine wpF_step fun K hK2=>?_
   go_wp2_with fail
   refine (clamp_p _ _ _).mono ?_
   rintro e w' ⟨rfl,rfl⟩
   go_wp2_with fail
   refine wpF_step fun K hK2=>?_
   go_wp2_with fail
   refine (clamp_p _ _ _).mono ?_
   rintro e w' ⟨rfl,rfl⟩
   go_wp2_with fail
   refine wpF_step fun K hK2=>?_
   go_wp2_with fail
   refine (get_p B p S (loc) _ hP).mono ?_
   rintro e w' ⟨rfl,rfl⟩
   rw [run_gt] at hO
   generalize S.got (loc)=s at hO ⊢
   go_wp2_with fail
   refine wpF_step fun K hK2=>?_
   go_wp2_with fail
   refine tstep hO hK (setO hP) (fun _ h=>h) ?_
   clear hO hK hP c_b1 c_b2
   intro u S w1 hr hP hk hK hO
   replace b1:=b1.keep hk
   have c_b1:=b1.cells
   replace b2:=b2.keep hk
   have c_b2:=b2.cells
   clear hk hr
   go_wp2_with fail
   refine wpF_step fun K hK2=>?_
   go_wp2_with fail
   refine (pack_p _ _ _ _).mono ?_
   rintro e w' ⟨rfl,rfl⟩
   go_wp2_with fail
   have b3:=hP.held (.cells #[.int .i64 (packI (wrap64 (s+1)) (clamp v (clamp top 1048576)) (clamp top 1048576))] 3)
   clear c_b1 c_b2
   replace b1:=b1.alloc (.cells #[.int .i64 (packI (wrap64 (s+1)) (clamp v (clamp top 1048576)) (clamp top 1048576))] 3) hP.lt
   replace b2:=b2.alloc (.cells #[.int .i64 (packI (wrap64 (s+1)) (clamp v (clamp top 1048576)) (clamp top 1048576))] 3) hP.lt
   replace hK:=hK.trans (Keep.alloc (.cells #[.int .i64 (packI (wrap64 (s+1)) (clamp v (clamp top 1048576)) (clamp top 1048576))] 3) hP.lt hP.le)
   replace hP:=hP.alloc (.cells #[.int .i64 (packI (wrap64 (s+1)) (clamp v (clamp top 1048576)) (clamp top 1048576))] 3)
   have c_b1:=b1.cells
   have c_b2:=b2.cells
   have c_b3:=b3.cells
   refine wpF_seq (wpF_step fun K hK2=>?_)
   go_wp2_with fail
   refine (threads_p n _ hn1 hn2).mono ?_
   rintro e w' ⟨rfl,rfl⟩
   go_wp2_with fail
   refine (ranks_p _ _ _).mono ?_
   rintro e w2 ⟨rfl,rfl⟩
   go_wp2_with fail
   have b4:=hP.held (.cells #[.int .i64 (n-1)] 3)
   clear c_b1 c_b2 c_b3
   replace b1:=b1.alloc (.cells #[.int .i64 (n-1)] 3) hP.lt
   replace b2:=b2.alloc (.cells #[.int .i64 (n-1)] 3) hP.lt
   replace b3:=b3.alloc (.cells #[.int .i64 (n-1)] 3) hP.lt
   replace hK:=hK.trans (Keep.alloc (.cells #[.int .i64 (n-1)] 3) hP.lt hP.le)
   replace hP:=hP.alloc (.cells #[.int .i64 (n-1)] 3)
   have c_b1:=b1.cells
   have c_b2:=b2.cells
   have c_b3:=b3.cells
   have c_b4:=b4.cells
   have b5:=hP.held (.cells #[.int .i64 (-1)] 3)
   clear c_b1 c_b2 c_b3 c_b4
   replace b1:=b1.alloc (.cells #[.int .i64 (-1)] 3) hP.lt
   replace b2:=b2.alloc (.cells #[.int .i64 (-1)] 3) hP.lt
   replace b3:=b3.alloc (.cells #[.int .i64 (-1)] 3) hP.lt
   replace b4:=b4.alloc (.cells #[.int .i64 (-1)] 3) hP.lt
   replace hK:=hK.trans (Keep.alloc (.cells #[.int .i64 (-1)] 3) hP.lt hP.le)
   replace hP:=hP.alloc (.cells #[.int .i64 (-1)] 3)
   have c_b1:=b1.cells
   have c_b2:=b2.cells
   have c_b3:=b3.cells
   have c_b4:=b4.cells
   have c_b5:=b5.cells
   simp only [World.size_alloc] at b5 c_b5
   simp only [World.size_alloc] at b4 c_b4
   rw [show packI (wrap64 (s+1)) v (clamp top 1048576)=packI (wrap64 (s+1)) (clamp v (clamp top 1048576)) (clamp top 1048576) from (pack_clamp _ _ _).symm] at hO
   generalize packI (wrap64 (s+1)) (clamp v (clamp top 1048576)) (clamp top 1048576)=x at *
   obtain⟨k,hk⟩:∃ k:Nat,n-1=(k:Int):=⟨(n-1).toNat,by omega⟩
   simp only [hk,Int.toNat_natCast] at hO b1 b2 b3 b4 b5 c_b1 c_b2 c_b3 c_b4 c_b5 hP hK ⊢
   have hk8:k<=8:=by omega
   have hsz:=Lib.hid hK.size
   generalize ((w1.alloc (.cells #[.int .i64 x] 3)).alloc (.cells #[.int .i64 (k:Int)] 3)).alloc (.cells #[.int .i64 (-1)] 3)=W0 at *
   generalize w1.heap.size=q at *
   refine wpF_block ?_
   refine' tape_range (T:=fun a _=>slotsW (base+16*a) (loc+(2+18*a)) x) (fin:=fun _=>st (loc+1) (clamp v (clamp top 1048576))) (xs:=ranksFrom (-1) k 0) (x:=()) Try.func31 rfl (enters_of Try.func84 (by kernel_rfl) rfl) rfl (ranks_gives k (-1) (q+1) (q+1+1) hk8)
    (fun _=>False) (fun _ _=>True) (fun _ h=>h.elim) hP.le (fun W hX=>⟨(KeepX.held b4 hX id).cells 0,(KeepX.held b5 hX id).cells 0⟩) (fun _ _ _ _ h=>h) (fun _ _ _ _ _ _ h=>h) hO hK hP trivial
    _ ?assign ?body ?done ?pan
   case assign =>
    intro l y W K hK
    gi_wp2
    exact hK
   case body =>
    intro l y u S W hy hPl hX _
    have hyb:=ranks_mem (-1) k 0 y hy
    have c1:=(KeepX.held b1 hX id)
    have c2:=(KeepX.held b2 hX id)
    have c3:=(KeepX.held b3 hX id)
    have hO:=owes encU B p W ((slotsW (base+16*y) (loc+(2+18*y)) x).run S)
    have hK:=Keep.refl [2,3,4] B p W
    have hP:=hPl
    clear hPl hX b1 b2 b3 b4 b5 c_b1 c_b2 c_b3 c_b4 c_b5
    have c_c1:=c1.cells
    have c_c2:=c2.cells
    have c_c3:=c3.cells
    refine wpIn_block ?_
    replace hP:=hP.drew
    replace hK:=hK.drew
    replace c1:=c1.drew
    replace c2:=c2.drew
    replace c3:=c3.drew
    refine wpIn_region_held (S:=fun W'=>(∀ i:Nat,W'.cell? ⟨w.heap.size,i,none⟩=(#[.pointer (some ⟨p,0,none⟩)]:Array Value)[i]?)/\(∀ i:Nat,W'.cell? ⟨w.heap.size+1,i,none⟩=(#[.int .i64 kind,.int .i64 base,.int .i64 loc,.int .i64 n,.int .i64 me,.int .i64 rd,.int .i64 top]:Array Value)[i]?)/\(∀ i:Nat,W'.cell? ⟨q,i,none⟩=(#[.int .i64 x]:Array Value)[i]?)) (by kernel_rfl) (by kernel_rfl) (fun _ _ h=>h) ⟨c_c1,c_c2,c_c3⟩ (fun hHeld=>?_)
    refine tkb 0 ?_
    iterate 3
     refine tkn (v:=?_) rfl (by kernel_rfl) (fun _ _ _ h=>h) (by assumption) ?_ ?_
     rotate_left
     · (intro w hSw;(try dsimp only at hSw);go_simp;try with_reducible rfl)
     try simp only [put_pack]
    refine tke ?_
    refine tk 4 (v:=?_) rfl (by kernel_rfl) (fun _ _ _ h=>h) (by assumption) ?_ ?_
    rotate_left
    · (intro w hSw;(try dsimp only at hSw);go_simp;try with_reducible rfl)
    try simp only [put_pack]
    refine wpAnyH_ready (rs:=[3]) (by kernel_rfl) (by simp) ?_
    refine AllReadyH.cons rfl (fun K hKK=>?_) (AllReadyH.nil)
    go_simp
    refine (tslot_p ⟨kind,base,loc,n,me,rd,top⟩ y _ (by omega) (by omega) hb1 (by simp only;omega) hl1 (by simp only;omega)).mono ?_
    rintro e w2 ⟨rfl,hx⟩
    clear c_c1 c_c2 c_c3
    replace hK:=hK.trans (Keep.of_ext hx hP.lt hP.le)
    replace c1:=c1.ext hx hP.lt
    have c_c1:=c1.cells
    replace c2:=c2.ext hx hP.lt
    have c_c2:=c2.cells
    replace c3:=c3.ext hx hP.lt
    have c_c3:=c3.cells
    replace hP:=hP.ext hx
    clear hx
    refine hKK.out _ _ ⟨c_c1,c_c2,c_c3⟩ (fun hHeld=>?_)
    clear hKK K
    try dsimp only
    refine wpAnyH_ready (rs:=[5]) (by kernel_rfl) (by simp) ?_
    refine AllReadyH.cons rfl (fun K hKK=>?_) (AllReadyH.nil)
    go_simp
    refine tlast hO hK (slots_write_p B p S ⟨5,base+16*y,loc+(2+18*y),n,me,rd,1099511627776⟩ x _ hP (by simp only;omega) (by simp only;omega) (by simp only;omega) (by simp only;omega)) (fun w' h=>⟨rfl,rfl,(round_stop h).imp fun S hS=>⟨hS.1,hS.2.1,hS.2.2.x _⟩⟩) ?_
    intro u2 S1 w5 hr hP1 hk1 hK1 hO1
    refine hKK.out _ _ ⟨(c1.keep hk1).cells,(c2.keep hk1).cells,(c3.keep hk1).cells⟩ (fun hHeld=>?_)
    refine wpAnyH_done (by kernel_rfl) ?_ _
    exact⟨u2,S1,hr,hP1,hK1.x _,trivial⟩
   case done =>
    intro u S W hO1 hX hP _ hD
    have c1:=(KeepX.held b1 hX id)
    have c2:=(KeepX.held b2 hX id)
    have hK1:KeepP B p w W:=KeepX.after hK hX (fun _ h=>h.elim)
    have hO:=owes_shut hO1 hK1 hD hK.size hBw.out
    have hK:=Keep.refl [2,3,4] B p W
    clear hO1 hX hK1 hD b1 b2 b3 b4 b5 c_b1 c_b2 c_b3 c_b4 c_b5
    have c_c1:=c1.cells
    have c_c2:=c2.cells
    generalize W0.heap.size=D at *
    show WpF _ _ _ _ _ _
    refine wpF_of_wp ?_
    go_wp2_with fail
    refine tlast hO hK (setO hP) (fun _ h=>leavesM_cons (fun hx=>nomatch hx) h.1 (leavesM_panic0 h.2)) ?_
    clear hO hK hP c_c1 c_c2
    intro u S w1 hr hP hk hK hO
    replace c1:=c1.keep hk
    have c_c1:=c1.cells
    replace c2:=c2.keep hk
    have c_c2:=c2.cells
    clear hk hr
    have hf:=hO.done hP hK
    go_wp2_with fail
    exact leavesM_cons (fun hx=>nomatch hx) hf.1 (leavesM_ret0 (results_none rfl _ _ _) hf.2)
   case pan =>
    intro S W c hc hO1 hX hS hD
    have hK1:KeepP B p w W:=KeepX.after hK hX (fun _ h=>h.elim)
    refine leavesM_cons (fun hx=>nomatch hx) hD.1 (leavesM_panic0 ?_)
    rw [<- hc]
    exact hO1.stop (hS.put _ hD.2 (by have:=hP.le;omega)) (hK1.put hK.size hD.2 hBw.out)
 · rw [if_pos hme] at hO
   have hme2:(me != wr)=true:=by simpa using hme
   go_wp2_with fail
   refine (writer_p ⟨kind,base,loc,n,wr,rd,top⟩ _ hn1 hn2 hw1 hw2).mono ?_
   rintro e w2 ⟨rfl,hx⟩
   clear c_b1 c_b2
   replace hK:=hK.trans (Keep.of_ext hx hP.lt hP.le)
   replace b1:=b1.ext hx hP.lt
   have c_b1:=b1.cells
   replace b2:=b2.ext hx hP.lt
   have c_b2:=b2.cells
   replace hP:=hP.ext hx
   clear hx
   go_wp2_with fail
   exact leavesM_ret0 (results_none rfl _ _ _) (hO.done hP hK)
end Go.Proofs.Ytchahoiainbcaaa
namespace Go.Proofs.Ytchahoiainbcaaa
open Go.RowKit Kv
attribute [local go_sem] Oper.semAt_some
structure OneB (l:Nat) (w w':World):Prop where
 os:w'.os=w.os
 tape:w'.tape=w.tape
 output:w'.output=w.output
 size:w'.heap.size=w.heap.size
 block:∀ k,k≠l->w'.heap[k]?=w.heap[k]?
theorem OneB.setCell (w:World)(b i:Nat)(v:Value):OneB b w (w.setCell ⟨b,i,none⟩ v):=⟨rfl,rfl,rfl,by simp,fun k hk=>heap_setCell_ne w v hk⟩
section
variable {X:Nat->Prop} {ix:List Nat} {B p l:Nat} {w w' w'':World} {S:TS}
theorem Keep.one (h:Keep ix B p w w')(o:OneB l w' w'')(hl:w.heap.size<=l)(hn:¬ ownR ix w' p l)(hB:B<=w.heap.size):Keep ix B p w w'':=by
 have hp:w''.heap[p]?=w'.heap[p]?:=o.block p (fun e=>hn (.inl e.symm))
 refine⟨⟨o.os.trans h.below.os,o.tape.trans h.below.tape,o.output.trans h.below.output,by rw [o.size];exact h.below.size,fun k hk=>(o.block k (by omega)).trans (h.below.block k hk)⟩,fun b hb ho=>?_⟩
 obtain⟨h1,h2⟩:=h.rest b hb ho
 exact⟨(o.block b (by omega)).trans h1,fun h'=>h2 ((ownR_same hp b).1 h')⟩
theorem KeepX.oneX (h:KeepX X ix B p w w')(o:OneB l w' w'')(hx:X l)(hn:¬ ownR ix w' p l)(hB:B<=l):KeepX X ix B p w w'':=by
 have hp:w''.heap[p]?=w'.heap[p]?:=o.block p (fun e=>hn (.inl e.symm))
 refine⟨⟨o.os.trans h.below.os,o.tape.trans h.below.tape,o.output.trans h.below.output,by rw [o.size];exact h.below.size,fun k hk=>(o.block k (by omega)).trans (h.below.block k hk)⟩,fun b hb ho hxb=>?_⟩
 obtain⟨h1,h2⟩:=h.rest b hb ho hxb
 exact⟨(o.block b (fun e=>hxb (e▸hx))).trans h1,fun h'=>h2 ((ownR_same hp b).1 h')⟩
theorem Held.one {b:Nat}{ob:Obj}(h:Held ix w p b ob)(o:OneB l w w')(hb:b≠l)(hn:¬ ownR ix w p l):Held ix w' p b ob :=
 ⟨(o.block b hb).trans h.1,fun h'=>h.2 ((ownR_same (o.block p (fun e=>hn (.inl e.symm))) b).1 h')⟩
theorem Held.set1 {b:Nat}{u:Value}{t:TypeId}(h:Held ix w p b (.cells #[u] t (0,0)))(v:Value):Held ix (w.setCell ⟨b,0,none⟩ v) p b (.cells #[v] t (0,0)) :=
 ⟨heap_setCell h.1 v,fun h'=>h.2 ((ownR_same ((OneB.setCell w b 0 v).block p (fun e=>h.2 (.inl e.symm))) b).1 h')⟩
theorem PMem.one {st:Int}{vA vL vC vN:Value}{L:List Int}(h:PMem B w p S st vA vL vC vN L)(o:OneB l w w')(hn:¬ ownR [2,3,4] w p l)(hB:B<=l):PMem B w' p S st vA vL vC vN L :=
 { h with
  heap:=(o.block p (fun e=>hn (.inl e.symm))).trans h.heap
  ans:=by
   obtain⟨A,c,rfl,h1,h2,h3⟩:=h.ans
   refine⟨A,c,rfl,h1,h2,fun hl=>?_⟩
   obtain⟨b,off,rfl,hb,hc⟩:=h3 hl
   have hbB:=h.ansB b rfl
   refine⟨b,off,rfl,by rw [o.size];exact hb,fun i x hi=>?_⟩
   rw [<- hc i x hi]
   exact World.cell?_of_block (w:=w) (o.block b (show b≠l by omega))
  rowL:=h.rowL.kept (row:=some l) ⟨o.os,o.tape,o.output,by rw [o.size];exact Nat.le_refl _,fun k _ hk=>o.block k (fun e=>hk (by rw [e]))⟩ (.inr (fun e=>hn (ownR_at h.heap (by simp) (i:=2) rfl e)))
  rowC:=h.rowC.kept (row:=some l) ⟨o.os,o.tape,o.output,by rw [o.size];exact Nat.le_refl _,fun k _ hk=>o.block k (fun e=>hk (by rw [e]))⟩ (.inr (fun e=>hn (ownR_at h.heap (by simp) (i:=3) rfl e)))
  rowN:=h.rowN.kept (row:=some l) ⟨o.os,o.tape,o.output,by rw [o.size];exact Nat.le_refl _,fun k _ hk=>o.block k (fun e=>hk (by rw [e]))⟩ (.inr (fun e=>hn (ownR_at h.heap (by simp) (i:=4) rfl e))) }
theorem Plays.one (h:Plays B w p S)(o:OneB l w w')(hn:¬ ownR [2,3,4] w p l)(hB:B<=l):Plays B w' p S:=by
 obtain⟨h0,vA,vL,vC,vN,L,h⟩:=h
 exact⟨h0,vA,vL,vC,vN,L,h.one o hn hB⟩
end
theorem unpack_x (x top:Int)(w:World) :
  Calls Try.prog 76 #[.int .i64 x,.int .i64 top] w fun e w'=>e=.returned (.tuple #[.int .i64 (unHi x top),.int .i64 (unLo x top)])/\Ext w w':=(unpack_p x top w).mono fun _ _ h=>⟨h.1,h.2.ext⟩
def cutQ (M:Act->World->Prop) (R:Ending->World->Prop):Exit->Act->World->Prop
 | .normal,a,w=>M a w
 | .panic c,a,w=>a.defers=[]/\R (.panicked c) w
 | _,_,_=>False
theorem wpF_cut {P:Program}{f:FuncId}{x y:Code}{fn:Func}{R:Ending->World->Prop}{a:Act}{w:World}(M:Act->Act->World->Prop)(h1:x.wp P (cutQ (M a) R) a w)
  (h2:∀ a' w',M a a' w'->WpF P f y (bodyPostM Fence.wide 0 P fn R) a' w'):WpF P f (x.seq y) (bodyPostM Fence.wide 0 P fn R) a w:=by
 refine wpF_seq (wpF_of_wp (Code.wp_mono (fun e a' w' h=>?_) h1))
 cases e with
 | normal=>exact h2 _ _ h
 | panic c =>
   obtain⟨hd,h⟩:=h
   show LeavesInM Fence.wide 0 P fn a'.tmps R a'.defers (.panicking c) w'
   rw [hd]
   exact h
 | exit id=>exact h.elim
 | goto l=>exact h.elim
 | ret=>exact h.elim
 | outgrown=>exact h.elim
set_option maxHeartbeats 2000000 in
theorem table_read_p (B p:Nat)(S:TS)(r:Reg)(me:Int)(w:World)(h:Plays B w p S)(hn1:1<=r.n)(hn2:r.n<=8)(hw1:0<=r.wr)(hw2:r.wr<r.n)(hm:0<=me/\me<r.n)(hb1:0<=r.base)(hb2:r.base<=56000)(hl1:0<=r.loc)(hl2:r.loc<=56000) :
  Calls Try.prog 38 #[.pointer (some ⟨p,0,none⟩),encR r,.int .i64 me] w (Post encI B p w ((tableR r.base r.loc r.n r.wr r.top me).run S)):=by
 generalize hR:Post encI B p w ((tableR r.base r.loc r.n r.wr r.top me).run S)=R
 have hO:Owes R encI B p w ((tableR r.base r.loc r.n r.wr r.top me).run S):=hR▸owes _ _ _ _ _
 clear hR
 have hwr:=Lib.hid (writer_p r)
 have hrk:=Lib.hid (rank_p r me)
 obtain⟨kind,base,loc,n,wr,rd,top⟩:=r
 simp only at hn1 hn2 hw1 hw2 hb1 hb2 hl1 hl2 hm hO
 unfold encR at hwr hrk ⊢
 obtain⟨b1,b2,hK,hP⟩:=h.entry2 (.cells #[.pointer (some ⟨p,0,none⟩)] 36) (.cells #[.int .i64 kind,.int .i64 base,.int .i64 loc,.int .i64 n,.int .i64 wr,.int .i64 rd,.int .i64 top] 23)
 have c_b1:=b1.cells
 have c_b2:=b2.cells
 have hBw:=Lib.hid h.le
 clear h
 unfold tableR at hO
 by_cases hme:me=wr
 · rw [if_pos hme] at hO
   subst hme
   refine calls_of_wpF Try.func38 rfl ?_
   simp only [Try.ntmps38,List.size_toArray,List.length_cons,List.length_nil,Nat.reduceAdd,Nat.reduceSub,Array.replicate_succ,Array.replicate_zero,List.push_toArray,List.append_toArray,List.nil_append,List.cons_append]
   refine wpF_step fun K hK2=>?_
   go_wp2_with fail
   refine wpF_step fun K hK2=>?_
   go_wp2_with fail
   refine (hwr.out _ hn1 hn2 hw1 hw2).mono ?_
   rintro e w2 ⟨rfl,hx⟩
   clear c_b1 c_b2
   replace hK:=hK.trans (Keep.of_ext hx hP.lt hP.le)
   replace b1:=b1.ext hx hP.lt
   have c_b1:=b1.cells
   replace b2:=b2.ext hx hP.lt
   have c_b2:=b2.cells
   replace hP:=hP.ext hx
   clear hx
   go_wp2_with fail
   refine (get_p B p S (loc+1) _ hP).mono ?_
   rintro e w' ⟨rfl,rfl⟩
   rw [run_gt1] at hO
   generalize S.got (loc+1)=z at hO ⊢
   go_wp2_with fail
   exact leavesM_ret0 (v:=.int .i64 z) (by simp [results,Try.results38,go_sem]) (hO.done hP hK)
 · rw [if_neg hme] at hO
   have hme2:(me==wr)=false:=by simpa using hme
   have hrk2:=Lib.hid (fun W=>hrk.out W hn1 hn2 hw1 hw2 hm hme)
   clear hrk
   have hrb:0<=rankM wr me/\rankM wr me<n-1:=by unfold rankM;split <;> omega
   generalize rankM wr me=a at *
   refine calls_of_wpF Try.func38 rfl ?_
   simp only [Try.ntmps38,List.size_toArray,List.length_cons,List.length_nil,Nat.reduceAdd,Nat.reduceSub,Array.replicate_succ,Array.replicate_zero,List.push_toArray,List.append_toArray,List.nil_append,List.cons_append]
   refine wpF_step fun K hK2=>?_
   go_wp2_with fail
   refine wpF_step fun K hK2=>?_
   go_wp2_with fail
   refine (hwr.out _ hn1 hn2 hw1 hw2).mono ?_
   rintro e w2 ⟨rfl,hx⟩
   clear c_b1 c_b2
   replace hK:=hK.trans (Keep.of_ext hx hP.lt hP.le)
   replace b1:=b1.ext hx hP.lt
   have c_b1:=b1.cells
   replace b2:=b2.ext hx hP.lt
   have c_b2:=b2.cells
   replace hP:=hP.ext hx
   clear hx
   go_wp2_with fail
   refine wpF_step fun K hK2=>?_
   go_wp2_with fail
   refine (hrk2.out _).mono ?_
   rintro e w2 ⟨rfl,hx⟩
   clear c_b1 c_b2
   replace hK:=hK.trans (Keep.of_ext hx hP.lt hP.le)
   replace b1:=b1.ext hx hP.lt
   have c_b1:=b1.cells
   replace b2:=b2.ext hx hP.lt
   have c_b2:=b2.cells
   replace hP:=hP.ext hx
   clear hx
   go_wp2_with fail
   have b3:=hP.held (.cells #[.int .i64 a] 3)
   clear c_b1 c_b2
   replace b1:=b1.alloc (.cells #[.int .i64 a] 3) hP.lt
   replace b2:=b2.alloc (.cells #[.int .i64 a] 3) hP.lt
   replace hK:=hK.trans (Keep.alloc (.cells #[.int .i64 a] 3) hP.lt hP.le)
   replace hP:=hP.alloc (.cells #[.int .i64 a] 3)
   have c_b1:=b1.cells
   have c_b2:=b2.cells
   have c_b3:=b3.cells
   refine wpF_step fun K hK2=>?_
   go_wp2_with fail
   refine wpF_step fun K hK2=>?_
   go_wp2_with fail
   refine (threads_p n _ hn1 hn2).mono ?_
   rintro e w' ⟨rfl,rfl⟩
   go_wp2_with fail
   have b4:=hP.held (.cells #[.int .i64 (n-1)] 3)
   clear c_b1 c_b2 c_b3
   replace b1:=b1.alloc (.cells #[.int .i64 (n-1)] 3) hP.lt
   replace b2:=b2.alloc (.cells #[.int .i64 (n-1)] 3) hP.lt
   replace b3:=b3.alloc (.cells #[.int .i64 (n-1)] 3) hP.lt
   replace hK:=hK.trans (Keep.alloc (.cells #[.int .i64 (n-1)] 3) hP.lt hP.le)
   replace hP:=hP.alloc (.cells #[.int .i64 (n-1)] 3)
   have c_b1:=b1.cells
   have c_b2:=b2.cells
   have c_b3:=b3.cells
   have c_b4:=b4.cells
   simp only [World.size_alloc] at b4 c_b4
   generalize (w2.alloc (.cells #[.int .i64 a] 3)).alloc (.cells #[.int .i64 (n-1)] 3)=W0 at *
   generalize w2.heap.size=q at *
   refine wpF_cut (fun a0 a' W=>∃ (y:Int) (bx:Nat) (S:TS),a'={ tmps:=((((((a0.tmps.setIfInBounds 36 (.pointer (some ⟨p,0,none⟩))).setIfInBounds 37 (encR (⟨kind,base,loc,n,wr,rd,top⟩:Reg))).setIfInBounds 38 (.int .i64 a)).setIfInBounds 39 (encR (⟨5,base+16*a,loc+(2+18*a),n,wr,rd,1099511627776⟩:Reg))).setIfInBounds 40 (.int .i64 y)).setIfInBounds 10 (.pointer (some ⟨bx,0,none⟩))),defers:=[] }/\w.heap.size<=bx/\bx≠w.heap.size/\bx≠w.heap.size+1/\bx≠q/\bx≠q+1 /\
    HeldP W p w.heap.size (.cells #[.pointer (some ⟨p,0,none⟩)] 36)/\HeldP W p (w.heap.size+1) (.cells #[.int .i64 kind,.int .i64 base,.int .i64 loc,.int .i64 n,.int .i64 wr,.int .i64 rd,.int .i64 top] 23)/\HeldP W p q (.cells #[.int .i64 a] 3)/\HeldP W p (q+1) (.cells #[.int .i64 (n-1)] 3)/\HeldP W p bx (.cells #[.int .i64 y] 3) /\
    Plays B W p S/\KeepP B p w W/\Owes R encI B p w (((forP (fun i x=>(slotsR (base+16*tellsM (n-1) i a) (loc+(2+18*tellsM (n-1) i a))).bind fun y=>.ret (max x y)) (ranksFrom a (n-1).toNat 0) y).bind fun x =>
    (forP (fun i _=>slotsW (base+16*tellsM (n-1) a i) (loc+(2+18*tellsM (n-1) a i)) x) (ranksFrom a (n-1).toNat 0) ()).bind fun _=>.ret (unLo x (clamp top 1048576))).run S)) ?_ ?_
   · replace hP:=hP.drew
     replace hK:=hK.drew
     replace b1:=b1.drew
     replace b2:=b2.drew
     replace b3:=b3.drew
     replace b4:=b4.drew
     refine wp_region_held_drew (S:=fun W'=>(∀ i:Nat,W'.cell? ⟨w.heap.size,i,none⟩=(#[.pointer (some ⟨p,0,none⟩)]:Array Value)[i]?)/\(∀ i:Nat,W'.cell? ⟨w.heap.size+1,i,none⟩=(#[.int .i64 kind,.int .i64 base,.int .i64 loc,.int .i64 n,.int .i64 wr,.int .i64 rd,.int .i64 top]:Array Value)[i]?)/\(∀ i:Nat,W'.cell? ⟨q,i,none⟩=(#[.int .i64 a]:Array Value)[i]?)) (by kernel_rfl) ⟨c_b1,c_b2,c_b3⟩ (fun hHeld=>?_)
     refine tkb 0 ?_
     iterate 3
      refine tkn (v:=?_) rfl (by kernel_rfl) (fun _ _ _ h=>h) (by assumption) ?_ ?_
      rotate_left
      · (intro w hSw;(try dsimp only at hSw);go_simp;try with_reducible rfl)
      try simp only [put_pack]
     refine tke ?_
     refine wpAnyH_ready (rs:=[3,5]) (by kernel_rfl) (by simp) ?_
     refine AllReadyH.cons rfl (fun K hKK=>?_) (AllReadyH.cons rfl (fun K hKK=>?_) AllReadyH.nil)
     · go_simp
       refine (tslot_p ⟨kind,base,loc,n,wr,rd,top⟩ a _ (by omega) (by omega) hb1 (by simp only;omega) hl1 (by simp only;omega)).mono ?_
       rintro e w2 ⟨rfl,hx⟩
       clear c_b1 c_b2 c_b3 c_b4
       replace hK:=hK.trans (Keep.of_ext hx hP.lt hP.le)
       replace b1:=b1.ext hx hP.lt
       have c_b1:=b1.cells
       replace b2:=b2.ext hx hP.lt
       have c_b2:=b2.cells
       replace b3:=b3.ext hx hP.lt
       have c_b3:=b3.cells
       replace b4:=b4.ext hx hP.lt
       have c_b4:=b4.cells
       replace hP:=hP.ext hx
       clear hx
       refine hKK.out _ _ ⟨c_b1,c_b2,c_b3⟩ (fun hHeld=>?_)
       clear hKK K
       try dsimp only
       refine wpAnyH_ready (rs:=[4,5]) (by kernel_rfl) (by simp) ?_
       refine AllReadyH.cons rfl (fun K hKK=>?_) (AllReadyH.cons rfl (fun K hKK=>?_) AllReadyH.nil)
       · go_simp
         refine tstep hO hK (slots_read_p B p S ⟨5,base+16*a,loc+(2+18*a),n,wr,rd,1099511627776⟩ _ hP (by simp only;omega) (by simp only;omega) (by simp only;omega) (by simp only;omega)) (fun _ h=>⟨rfl,h⟩) ?_
         clear hO hK hP c_b1 c_b2 c_b3 c_b4
         intro y S w1 hr hP hk hK hO
         replace b1:=b1.keep hk
         have c_b1:=b1.cells
         replace b2:=b2.keep hk
         have c_b2:=b2.cells
         replace b3:=b3.keep hk
         have c_b3:=b3.cells
         replace b4:=b4.keep hk
         have c_b4:=b4.cells
         clear hk hr
         refine hKK.out _ _ ⟨c_b1,c_b2,c_b3⟩ (fun hHeld=>?_)
         clear hKK K
         try simp only [put_pack]
         refine wpAnyH_ready (rs:=[5]) (by kernel_rfl) (by simp) ?_
         refine AllReadyH.cons rfl (fun K hKK=>?_) (AllReadyH.nil)
         go_simp
         have l1:=b1.lt
         have l2:=b2.lt
         have l3:=b3.lt
         have l4:=b4.lt
         have lk:=hK.size
         refine hKK.out _ _ ⟨(b1.alloc _ hP.lt).cells,(b2.alloc _ hP.lt).cells,(b3.alloc _ hP.lt).cells⟩ (fun hHeld=>?_)
         clear hKK K
         try simp only [put_pack]
         refine wpAnyH_ready (rs:=[6]) (by kernel_rfl) (by simp) ?_
         refine AllReadyH.cons rfl (fun K hKK=>?_) (AllReadyH.nil)
         go_simp
         have b5:=hP.held (.cells #[.int .i64 y] 3)
         clear c_b1 c_b2 c_b3 c_b4
         replace b1:=b1.alloc (.cells #[.int .i64 y] 3) hP.lt
         replace b2:=b2.alloc (.cells #[.int .i64 y] 3) hP.lt
         replace b3:=b3.alloc (.cells #[.int .i64 y] 3) hP.lt
         replace b4:=b4.alloc (.cells #[.int .i64 y] 3) hP.lt
         replace hK:=hK.trans (Keep.alloc (.cells #[.int .i64 y] 3) hP.lt hP.le)
         replace hP:=hP.alloc (.cells #[.int .i64 y] 3)
         have c_b1:=b1.cells
         have c_b2:=b2.cells
         have c_b3:=b3.cells
         have c_b4:=b4.cells
         have c_b5:=b5.cells
         refine hKK.out _ _ ⟨c_b1,c_b2,c_b3⟩ (fun hHeld=>?_)
         refine wpAnyH_done (by kernel_rfl) ?_ _
         exact⟨y,w1.heap.size,S,rfl,lk,by omega,by omega,by omega,by omega,b1,b2,b3,b4,b5,hP,hK,hO⟩
       · go_simp
         have l1:=b1.lt
         have l2:=b2.lt
         have l3:=b3.lt
         have l4:=b4.lt
         have lk:=hK.size
         have b5:=hP.held (.cells #[.int .i64 0] 3)
         clear c_b1 c_b2 c_b3 c_b4
         replace b1:=b1.alloc (.cells #[.int .i64 0] 3) hP.lt
         replace b2:=b2.alloc (.cells #[.int .i64 0] 3) hP.lt
         replace b3:=b3.alloc (.cells #[.int .i64 0] 3) hP.lt
         replace b4:=b4.alloc (.cells #[.int .i64 0] 3) hP.lt
         replace hK:=hK.trans (Keep.alloc (.cells #[.int .i64 0] 3) hP.lt hP.le)
         replace hP:=hP.alloc (.cells #[.int .i64 0] 3)
         have c_b1:=b1.cells
         have c_b2:=b2.cells
         have c_b3:=b3.cells
         have c_b4:=b4.cells
         have c_b5:=b5.cells
         replace l1:w.heap.size<w2.heap.size:=l1
         replace l2:w.heap.size+1<w2.heap.size:=l2
         replace l3:q<w2.heap.size:=l3
         replace l4:q+1<w2.heap.size:=l4
         replace lk:w.heap.size<=w2.heap.size:=lk
         refine hKK.out _ _ ⟨c_b1,c_b2,c_b3⟩ (fun hHeld=>?_)
         clear hKK K
         try simp only [put_pack]
         generalize w2.heap.size=bx at *
         refine wpAnyH_ready (rs:=[4]) (by kernel_rfl) (by simp) ?_
         refine AllReadyH.cons rfl (fun K hKK=>?_) (AllReadyH.nil)
         go_simp
         refine tstep hO hK (slots_read_p B p S ⟨5,base+16*a,loc+(2+18*a),n,wr,rd,1099511627776⟩ _ hP (by simp only;omega) (by simp only;omega) (by simp only;omega) (by simp only;omega)) (fun _ h=>⟨rfl,h⟩) ?_
         clear hO hK hP c_b1 c_b2 c_b3 c_b4 c_b5
         intro y S w1 hr hP hk hK hO
         replace b1:=b1.keep hk
         have c_b1:=b1.cells
         replace b2:=b2.keep hk
         have c_b2:=b2.cells
         replace b3:=b3.keep hk
         have c_b3:=b3.cells
         replace b4:=b4.keep hk
         have c_b4:=b4.cells
         replace b5:=b5.keep hk
         have c_b5:=b5.cells
         clear hk hr
         refine hKK.out _ _ ⟨c_b1,c_b2,c_b3⟩ (fun hHeld=>?_)
         clear hKK K
         try simp only [put_pack]
         refine wpAnyH_ready (rs:=[6]) (by kernel_rfl) (by simp) ?_
         refine AllReadyH.cons rfl (fun K hKK=>?_) (AllReadyH.nil)
         have f_b5:=frozen_of_heap b5.1
         go_simp
         have o5:=OneB.setCell w1 bx 0 (.int .i64 y)
         have n5:=b5.2
         replace b1:=b1.one o5 (by omega) n5
         replace b2:=b2.one o5 (by omega) n5
         replace b3:=b3.one o5 (by omega) n5
         replace b4:=b4.one o5 (by omega) n5
         have b6:=b5.set1 (.int .i64 y)
         refine hKK.out _ _ ⟨b1.cells,b2.cells,b3.cells⟩ (fun hHeld=>?_)
         refine wpAnyH_done (by kernel_rfl) ?_ _
         exact⟨y,bx,S,rfl,lk,by omega,by omega,by omega,by omega,b1,b2,b3,b4,b6,hP.one o5 n5 (by have:=hBw.out;omega),hK.one o5 lk n5 hBw.out,hO⟩
     · go_simp
       have l1:=b1.lt
       have l2:=b2.lt
       have l3:=b3.lt
       have l4:=b4.lt
       have lk:=hK.size
       have b5:=hP.held (.cells #[.int .i64 0] 3)
       clear c_b1 c_b2 c_b3 c_b4
       replace b1:=b1.alloc (.cells #[.int .i64 0] 3) hP.lt
       replace b2:=b2.alloc (.cells #[.int .i64 0] 3) hP.lt
       replace b3:=b3.alloc (.cells #[.int .i64 0] 3) hP.lt
       replace b4:=b4.alloc (.cells #[.int .i64 0] 3) hP.lt
       replace hK:=hK.trans (Keep.alloc (.cells #[.int .i64 0] 3) hP.lt hP.le)
       replace hP:=hP.alloc (.cells #[.int .i64 0] 3)
       have c_b1:=b1.cells
       have c_b2:=b2.cells
       have c_b3:=b3.cells
       have c_b4:=b4.cells
       have c_b5:=b5.cells
       replace l1:w.heap.size<W0.heap.size:=l1
       replace l2:w.heap.size+1<W0.heap.size:=l2
       replace l3:q<W0.heap.size:=l3
       replace l4:q+1<W0.heap.size:=l4
       replace lk:w.heap.size<=W0.heap.size:=lk
       refine hKK.out _ _ ⟨c_b1,c_b2,c_b3⟩ (fun hHeld=>?_)
       clear hKK K
       try simp only [put_pack]
       replace b5:HeldP _ p W0.heap.size _:=b5
       replace c_b5:=b5.cells
       generalize W0.heap.size=bx at *
       refine wpAnyH_ready (rs:=[3]) (by kernel_rfl) (by simp) ?_
       refine AllReadyH.cons rfl (fun K hKK=>?_) (AllReadyH.nil)
       go_simp
       refine (tslot_p ⟨kind,base,loc,n,wr,rd,top⟩ a _ (by omega) (by omega) hb1 (by simp only;omega) hl1 (by simp only;omega)).mono ?_
       rintro e w2 ⟨rfl,hx⟩
       clear c_b1 c_b2 c_b3 c_b4 c_b5
       replace hK:=hK.trans (Keep.of_ext hx hP.lt hP.le)
       replace b1:=b1.ext hx hP.lt
       have c_b1:=b1.cells
       replace b2:=b2.ext hx hP.lt
       have c_b2:=b2.cells
       replace b3:=b3.ext hx hP.lt
       have c_b3:=b3.cells
       replace b4:=b4.ext hx hP.lt
       have c_b4:=b4.cells
       replace b5:=b5.ext hx hP.lt
       have c_b5:=b5.cells
       replace hP:=hP.ext hx
       clear hx
       refine hKK.out _ _ ⟨c_b1,c_b2,c_b3⟩ (fun hHeld=>?_)
       clear hKK K
       try dsimp only
       refine wpAnyH_ready (rs:=[4]) (by kernel_rfl) (by simp) ?_
       refine AllReadyH.cons rfl (fun K hKK=>?_) (AllReadyH.nil)
       go_simp
       refine tstep hO hK (slots_read_p B p S ⟨5,base+16*a,loc+(2+18*a),n,wr,rd,1099511627776⟩ _ hP (by simp only;omega) (by simp only;omega) (by simp only;omega) (by simp only;omega)) (fun _ h=>⟨rfl,h⟩) ?_
       clear hO hK hP c_b1 c_b2 c_b3 c_b4 c_b5
       intro y S w1 hr hP hk hK hO
       replace b1:=b1.keep hk
       have c_b1:=b1.cells
       replace b2:=b2.keep hk
       have c_b2:=b2.cells
       replace b3:=b3.keep hk
       have c_b3:=b3.cells
       replace b4:=b4.keep hk
       have c_b4:=b4.cells
       replace b5:=b5.keep hk
       have c_b5:=b5.cells
       clear hk hr
       refine hKK.out _ _ ⟨c_b1,c_b2,c_b3⟩ (fun hHeld=>?_)
       clear hKK K
       try simp only [put_pack]
       refine wpAnyH_ready (rs:=[6]) (by kernel_rfl) (by simp) ?_
       refine AllReadyH.cons rfl (fun K hKK=>?_) (AllReadyH.nil)
       have f_b5:=frozen_of_heap b5.1
       go_simp
       have o5:=OneB.setCell w1 bx 0 (.int .i64 y)
       have n5:=b5.2
       replace b1:=b1.one o5 (by omega) n5
       replace b2:=b2.one o5 (by omega) n5
       replace b3:=b3.one o5 (by omega) n5
       replace b4:=b4.one o5 (by omega) n5
       have b6:=b5.set1 (.int .i64 y)
       refine hKK.out _ _ ⟨b1.cells,b2.cells,b3.cells⟩ (fun hHeld=>?_)
       refine wpAnyH_done (by kernel_rfl) ?_ _
       exact⟨y,bx,S,rfl,lk,by omega,by omega,by omega,by omega,b1,b2,b3,b4,b6,hP.one o5 n5 (by have:=hBw.out;omega),hK.one o5 lk n5 hBw.out,hO⟩
   · rintro a' W ⟨y,bx,S,rfl,lw,ne1,ne2,ne3,ne4,b1,b2,b3,b4,b5,hP,hK,hO⟩
     clear c_b1 c_b2 c_b3 c_b4
     have c_b1:=b1.cells
     have c_b2:=b2.cells
     have c_b3:=b3.cells
     have c_b4:=b4.cells
     have c_b5:=b5.cells
     obtain⟨k,hk⟩:∃ k:Nat,n-1=(k:Int):=⟨(n-1).toNat,by omega⟩
     simp only [hk,Int.toNat_natCast] at hO b4 c_b4 hrb ⊢
     have hk8:k<=7:=by omega
     have n1:¬ w.heap.size=bx:=fun e=>ne1 e.symm
     have n2:¬ w.heap.size+1=bx:=fun e=>ne2 e.symm
     have n3:¬ q=bx:=fun e=>ne3 e.symm
     have n4:¬ q+1=bx:=fun e=>ne4 e.symm
     simp only [List.setIfInBounds_toArray,List.set_cons_zero,List.set_cons_succ]
     refine wpF_seq (wpF_step fun K hK2=>?_)
     go_wp2_with fail
     refine (ranks_p _ _ _).mono ?_
     rintro e w3 ⟨rfl,rfl⟩
     go_wp2_with fail
     have lbx:=b5.lt
     have b6:=hP.held (.cells #[.int .i64 (k:Int)] 3)
     clear c_b1 c_b2 c_b3 c_b4 c_b5
     replace b1:=b1.alloc (.cells #[.int .i64 (k:Int)] 3) hP.lt
     replace b2:=b2.alloc (.cells #[.int .i64 (k:Int)] 3) hP.lt
     replace b3:=b3.alloc (.cells #[.int .i64 (k:Int)] 3) hP.lt
     replace b4:=b4.alloc (.cells #[.int .i64 (k:Int)] 3) hP.lt
     replace b5:=b5.alloc (.cells #[.int .i64 (k:Int)] 3) hP.lt
     replace hK:=hK.trans (Keep.alloc (.cells #[.int .i64 (k:Int)] 3) hP.lt hP.le)
     replace hP:=hP.alloc (.cells #[.int .i64 (k:Int)] 3)
     have c_b1:=b1.cells
     have c_b2:=b2.cells
     have c_b3:=b3.cells
     have c_b4:=b4.cells
     have c_b5:=b5.cells
     have c_b6:=b6.cells
     have b7:=hP.held (.cells #[.int .i64 a] 3)
     clear c_b1 c_b2 c_b3 c_b4 c_b5 c_b6
     replace b1:=b1.alloc (.cells #[.int .i64 a] 3) hP.lt
     replace b2:=b2.alloc (.cells #[.int .i64 a] 3) hP.lt
     replace b3:=b3.alloc (.cells #[.int .i64 a] 3) hP.lt
     replace b4:=b4.alloc (.cells #[.int .i64 a] 3) hP.lt
     replace b5:=b5.alloc (.cells #[.int .i64 a] 3) hP.lt
     replace b6:=b6.alloc (.cells #[.int .i64 a] 3) hP.lt
     replace hK:=hK.trans (Keep.alloc (.cells #[.int .i64 a] 3) hP.lt hP.le)
     replace hP:=hP.alloc (.cells #[.int .i64 a] 3)
     have c_b1:=b1.cells
     have c_b2:=b2.cells
     have c_b3:=b3.cells
     have c_b4:=b4.cells
     have c_b5:=b5.cells
     have c_b6:=b6.cells
     have c_b7:=b7.cells
     simp only [World.size_alloc] at b7 c_b7
     have hWW:W.heap.size<((W.alloc (.cells #[.int .i64 (k:Int)] 3)).alloc (.cells #[.int .i64 a] 3)).heap.size:=b6.lt
     generalize (W.alloc (.cells #[.int .i64 (k:Int)] 3)).alloc (.cells #[.int .i64 a] 3)=W0 at *
     have n6:¬ W.heap.size=bx:=by omega
     have n7:¬ W.heap.size+1=bx:=by omega
     generalize W.heap.size=q2 at *
     refine wpF_block ?_
     refine' tape_range (T:=fun i x=>(slotsR (base+16*tellsM k i a) (loc+(2+18*tellsM k i a))).bind fun y=>.ret (max x y)) (xs:=ranksFrom a k 0) (x:=y) (fin:=fun x=>(forP (fun i _=>slotsW (base+16*tellsM k a i) (loc+(2+18*tellsM k a i)) x) (ranksFrom a k 0) ()).bind fun _=>.ret (unLo x (clamp top 1048576))) Try.func38 rfl (enters_of Try.func84 (by kernel_rfl) rfl) rfl (ranks_gives k a q2 (q2+1) (by omega))
      (fun b=>b=bx) (fun x W=>HeldP W p bx (.cells #[.int .i64 x] 3)) (fun b hb=>⟨by rw [hb];exact b5.lt,by rw [hb];exact lw⟩) hP.le (fun W hX=>⟨(KeepX.held b6 hX n6).cells 0,(KeepX.held b7 hX n7).cells 0⟩) (fun _ _ o hp h=>h.alloc o hp) (fun _ _ l _ hl hn h=>h.put (by have:=b5.lt;omega) hn) hO hK hP b5
      _ ?assign ?body ?done ?pan
     case assign =>
      intro l y W K hK
      gi_wp2
      exact hK
     case body =>
      intro l i x S W hi hPl hX hJx
      have hib:=ranks_mem a k 0 i hi
      have htb:=tells_bd k i a (by omega) (by omega) (by omega) (by omega)
      have c1:=(KeepX.held b1 hX n1)
      have c2:=(KeepX.held b2 hX n2)
      have c3:=(KeepX.held b3 hX n3)
      have c4:=(KeepX.held b4 hX n4)
      have c5:HeldP W p bx (.cells #[.int .i64 x] 3):=hJx
      have hO:=owes encI B p W ((slotsR (base+16*tellsM k i a) (loc+(2+18*tellsM k i a))).run S)
      have hK:=Keep.refl [2,3,4] B p W
      have hP:=hPl
      have hK8:=Lib.hid hX.below.size
      clear hPl hX hJx b1 b2 b3 b4 b5 b6 b7 c_b1 c_b2 c_b3 c_b4 c_b5 c_b6 c_b7
      have c_c1:=c1.cells
      have c_c2:=c2.cells
      have c_c3:=c3.cells
      have c_c4:=c4.cells
      have c_c5:=c5.cells
      refine wpIn_block ?_
      replace hP:=hP.drew
      replace hK:=hK.drew
      replace c1:=c1.drew
      replace c2:=c2.drew
      replace c3:=c3.drew
      replace c4:=c4.drew
      replace c5:=c5.drew
      refine wpIn_region_held (S:=fun W'=>(∀ i:Nat,W'.cell? ⟨w.heap.size,i,none⟩=(#[.pointer (some ⟨p,0,none⟩)]:Array Value)[i]?)/\(∀ i:Nat,W'.cell? ⟨w.heap.size+1,i,none⟩=(#[.int .i64 kind,.int .i64 base,.int .i64 loc,.int .i64 n,.int .i64 wr,.int .i64 rd,.int .i64 top]:Array Value)[i]?)/\(∀ i:Nat,W'.cell? ⟨q,i,none⟩=(#[.int .i64 a]:Array Value)[i]?)/\(∀ i:Nat,W'.cell? ⟨q+1,i,none⟩=(#[.int .i64 (k:Int)]:Array Value)[i]?)) (by kernel_rfl) (by kernel_rfl) (fun _ _ h=>h) ⟨c_c1,c_c2,c_c3,c_c4⟩ (fun hHeld=>?_)
      refine tkb 1 ?_
      iterate 5
       refine tkn (v:=?_) rfl (by kernel_rfl) (fun _ _ _ h=>h) (by assumption) ?_ ?_
       rotate_left
       · (intro w hSw;(try dsimp only at hSw);go_simp;try with_reducible rfl)
       try simp only [put_pack]
      refine tke ?_
      refine wpAnyH_ready (rs:=[0,6]) (by kernel_rfl) (by simp) ?_
      refine AllReadyH.cons rfl (fun K hKK=>?_) (AllReadyH.cons rfl (fun K hKK=>?_) AllReadyH.nil)
      · go_simp
        refine hKK.out _ _ ⟨c_c1,c_c2,c_c3,c_c4⟩ (fun hHeld=>?_)
        clear hKK K
        try simp only [put_pack]
        refine wpAnyH_ready (rs:=[6]) (by kernel_rfl) (by simp) ?_
        refine AllReadyH.cons rfl (fun K hKK=>?_) (AllReadyH.nil)
        go_simp
        refine (tells_p ⟨kind,base,loc,n,wr,rd,top⟩ k i a _ (by omega) (by omega) (by omega) (by omega) hb1 (by simp only;omega) hl1 (by simp only;omega)).mono ?_
        rintro e w2 ⟨rfl,hx⟩
        clear c_c1 c_c2 c_c3 c_c4 c_c5
        replace hK:=hK.trans (Keep.of_ext hx hP.lt hP.le)
        replace c1:=c1.ext hx hP.lt
        have c_c1:=c1.cells
        replace c2:=c2.ext hx hP.lt
        have c_c2:=c2.cells
        replace c3:=c3.ext hx hP.lt
        have c_c3:=c3.cells
        replace c4:=c4.ext hx hP.lt
        have c_c4:=c4.cells
        replace c5:=c5.ext hx hP.lt
        have c_c5:=c5.cells
        replace hP:=hP.ext hx
        clear hx
        refine hKK.out _ _ ⟨c_c1,c_c2,c_c3,c_c4⟩ (fun hHeld=>?_)
        clear hKK K
        try dsimp only
        refine wpAnyH_ready (rs:=[7]) (by kernel_rfl) (by simp) ?_
        refine AllReadyH.cons rfl (fun K hKK=>?_) (AllReadyH.nil)
        go_simp
        refine tlast hO hK (slots_read_p B p S ⟨5,base+16*tellsM k i a,loc+(2+18*tellsM k i a),n,wr,rd,1099511627776⟩ _ hP (by simp only;omega) (by simp only;omega) (by simp only;omega) (by simp only;omega)) (fun w' h=>⟨rfl,rfl,(round_stop h).imp fun S hS=>⟨by rw [Prog.run_bind_none hS.1],hS.2.1,hS.2.2.x _⟩⟩) ?_
        intro y S1 w5 hr hP1 hk1 hK1 hO1
        replace c1:=c1.keep hk1
        replace c2:=c2.keep hk1
        replace c3:=c3.keep hk1
        replace c4:=c4.keep hk1
        replace c5:=c5.keep hk1
        clear c_c1 c_c2 c_c3 c_c4 c_c5
        have c_c1:=c1.cells
        have c_c2:=c2.cells
        have c_c3:=c3.cells
        have c_c4:=c4.cells
        have c_c5:=c5.cells
        refine hKK.out _ _ ⟨c_c1,c_c2,c_c3,c_c4⟩ (fun hHeld=>?_)
        clear hKK K
        try simp only [put_pack]
        refine wpAnyH_ready (rs:=[8]) (by kernel_rfl) (by simp) ?_
        refine AllReadyH.cons rfl (fun K hKK=>?_) (AllReadyH.nil)
        go_simp
        refine hKK.out _ _ ⟨c_c1,c_c2,c_c3,c_c4⟩ (fun hHeld=>?_)
        clear hKK K
        try simp only [put_pack]
        refine wpAnyH_ready (rs:=[9]) (by kernel_rfl) (by simp) ?_
        refine AllReadyH.cons rfl (fun K hKK=>?_) (AllReadyH.nil)
        have f_c5:=frozen_of_heap c5.1
        go_simp
        have o5:=OneB.setCell w5 bx 0 (.int .i64 (max x y))
        have n5:=c5.2
        have d1:=c1.one o5 (fun e=>n1 e) n5
        have d2:=c2.one o5 (fun e=>n2 e) n5
        have d3:=c3.one o5 (fun e=>n3 e) n5
        have d4:=c4.one o5 (fun e=>n4 e) n5
        refine hKK.out _ _ ⟨d1.cells,d2.cells,d3.cells,d4.cells⟩ (fun hHeld=>?_)
        refine wpAnyH_done (by kernel_rfl) ?_ _
        exact⟨max x y,S1,by rw [Prog.run_bind_some hr];rfl,hP1.one o5 n5 (by have:=hBw.out;omega),(hK1.x _).oneX o5 rfl n5 (by have:=hBw.out;omega),c5.set1 _⟩
      · go_simp
        refine (tells_p ⟨kind,base,loc,n,wr,rd,top⟩ k i a _ (by omega) (by omega) (by omega) (by omega) hb1 (by simp only;omega) hl1 (by simp only;omega)).mono ?_
        rintro e w2 ⟨rfl,hx⟩
        clear c_c1 c_c2 c_c3 c_c4 c_c5
        replace hK:=hK.trans (Keep.of_ext hx hP.lt hP.le)
        replace c1:=c1.ext hx hP.lt
        have c_c1:=c1.cells
        replace c2:=c2.ext hx hP.lt
        have c_c2:=c2.cells
        replace c3:=c3.ext hx hP.lt
        have c_c3:=c3.cells
        replace c4:=c4.ext hx hP.lt
        have c_c4:=c4.cells
        replace c5:=c5.ext hx hP.lt
        have c_c5:=c5.cells
        replace hP:=hP.ext hx
        clear hx
        refine hKK.out _ _ ⟨c_c1,c_c2,c_c3,c_c4⟩ (fun hHeld=>?_)
        clear hKK K
        try dsimp only
        refine wpAnyH_ready (rs:=[0,7]) (by kernel_rfl) (by simp) ?_
        refine AllReadyH.cons rfl (fun K hKK=>?_) (AllReadyH.cons rfl (fun K hKK=>?_) AllReadyH.nil)
        · go_simp
          refine hKK.out _ _ ⟨c_c1,c_c2,c_c3,c_c4⟩ (fun hHeld=>?_)
          clear hKK K
          try simp only [put_pack]
          refine wpAnyH_ready (rs:=[7]) (by kernel_rfl) (by simp) ?_
          refine AllReadyH.cons rfl (fun K hKK=>?_) (AllReadyH.nil)
          go_simp
          refine tlast hO hK (slots_read_p B p S ⟨5,base+16*tellsM k i a,loc+(2+18*tellsM k i a),n,wr,rd,1099511627776⟩ _ hP (by simp only;omega) (by simp only;omega) (by simp only;omega) (by simp only;omega)) (fun w' h=>⟨rfl,rfl,(round_stop h).imp fun S hS=>⟨by rw [Prog.run_bind_none hS.1],hS.2.1,hS.2.2.x _⟩⟩) ?_
          intro y S1 w5 hr hP1 hk1 hK1 hO1
          replace c1:=c1.keep hk1
          replace c2:=c2.keep hk1
          replace c3:=c3.keep hk1
          replace c4:=c4.keep hk1
          replace c5:=c5.keep hk1
          clear c_c1 c_c2 c_c3 c_c4 c_c5
          have c_c1:=c1.cells
          have c_c2:=c2.cells
          have c_c3:=c3.cells
          have c_c4:=c4.cells
          have c_c5:=c5.cells
          refine hKK.out _ _ ⟨c_c1,c_c2,c_c3,c_c4⟩ (fun hHeld=>?_)
          clear hKK K
          try simp only [put_pack]
          refine wpAnyH_ready (rs:=[8]) (by kernel_rfl) (by simp) ?_
          refine AllReadyH.cons rfl (fun K hKK=>?_) (AllReadyH.nil)
          go_simp
          refine hKK.out _ _ ⟨c_c1,c_c2,c_c3,c_c4⟩ (fun hHeld=>?_)
          clear hKK K
          try simp only [put_pack]
          refine wpAnyH_ready (rs:=[9]) (by kernel_rfl) (by simp) ?_
          refine AllReadyH.cons rfl (fun K hKK=>?_) (AllReadyH.nil)
          have f_c5:=frozen_of_heap c5.1
          go_simp
          have o5:=OneB.setCell w5 bx 0 (.int .i64 (max x y))
          have n5:=c5.2
          have d1:=c1.one o5 (fun e=>n1 e) n5
          have d2:=c2.one o5 (fun e=>n2 e) n5
          have d3:=c3.one o5 (fun e=>n3 e) n5
          have d4:=c4.one o5 (fun e=>n4 e) n5
          refine hKK.out _ _ ⟨d1.cells,d2.cells,d3.cells,d4.cells⟩ (fun hHeld=>?_)
          refine wpAnyH_done (by kernel_rfl) ?_ _
          exact⟨max x y,S1,by rw [Prog.run_bind_some hr];rfl,hP1.one o5 n5 (by have:=hBw.out;omega),(hK1.x _).oneX o5 rfl n5 (by have:=hBw.out;omega),c5.set1 _⟩
        · go_simp
          refine tlast hO hK (slots_read_p B p S ⟨5,base+16*tellsM k i a,loc+(2+18*tellsM k i a),n,wr,rd,1099511627776⟩ _ hP (by simp only;omega) (by simp only;omega) (by simp only;omega) (by simp only;omega)) (fun w' h=>⟨rfl,rfl,(round_stop h).imp fun S hS=>⟨by rw [Prog.run_bind_none hS.1],hS.2.1,hS.2.2.x _⟩⟩) ?_
          intro y S1 w5 hr hP1 hk1 hK1 hO1
          replace c1:=c1.keep hk1
          replace c2:=c2.keep hk1
          replace c3:=c3.keep hk1
          replace c4:=c4.keep hk1
          replace c5:=c5.keep hk1
          clear c_c1 c_c2 c_c3 c_c4 c_c5
          have c_c1:=c1.cells
          have c_c2:=c2.cells
          have c_c3:=c3.cells
          have c_c4:=c4.cells
          have c_c5:=c5.cells
          refine hKK.out _ _ ⟨c_c1,c_c2,c_c3,c_c4⟩ (fun hHeld=>?_)
          clear hKK K
          try simp only [put_pack]
          refine wpAnyH_ready (rs:=[0]) (by kernel_rfl) (by simp) ?_
          refine AllReadyH.cons rfl (fun K hKK=>?_) (AllReadyH.nil)
          go_simp
          refine hKK.out _ _ ⟨c_c1,c_c2,c_c3,c_c4⟩ (fun hHeld=>?_)
          clear hKK K
          try simp only [put_pack]
          refine wpAnyH_ready (rs:=[8]) (by kernel_rfl) (by simp) ?_
          refine AllReadyH.cons rfl (fun K hKK=>?_) (AllReadyH.nil)
          go_simp
          refine hKK.out _ _ ⟨c_c1,c_c2,c_c3,c_c4⟩ (fun hHeld=>?_)
          clear hKK K
          try simp only [put_pack]
          refine wpAnyH_ready (rs:=[9]) (by kernel_rfl) (by simp) ?_
          refine AllReadyH.cons rfl (fun K hKK=>?_) (AllReadyH.nil)
          have f_c5:=frozen_of_heap c5.1
          go_simp
          have o5:=OneB.setCell w5 bx 0 (.int .i64 (max x y))
          have n5:=c5.2
          have d1:=c1.one o5 (fun e=>n1 e) n5
          have d2:=c2.one o5 (fun e=>n2 e) n5
          have d3:=c3.one o5 (fun e=>n3 e) n5
          have d4:=c4.one o5 (fun e=>n4 e) n5
          refine hKK.out _ _ ⟨d1.cells,d2.cells,d3.cells,d4.cells⟩ (fun hHeld=>?_)
          refine wpAnyH_done (by kernel_rfl) ?_ _
          exact⟨max x y,S1,by rw [Prog.run_bind_some hr];rfl,hP1.one o5 n5 (by have:=hBw.out;omega),(hK1.x _).oneX o5 rfl n5 (by have:=hBw.out;omega),c5.set1 _⟩
     case done =>
      intro x S W1 hO1 hX hP1 hJx hD
      have d1:=(KeepX.held b1 hX n1)
      have d2:=(KeepX.held b2 hX n2)
      have d3:=(KeepX.held b3 hX n3)
      have d4:=(KeepX.held b4 hX n4)
      have hK1:KeepP B p w W1:=KeepX.after hK hX (fun b hb=>by rw [hb];exact lw)
      have hO2:=owes_shut hO1 hK1 hD hK.size hBw.out
      have hBW:B<=W1.heap.size:=hP1.le
      clear hO1 hX hK1 hD b1 b2 b3 b4 b5 b6 b7 c_b1 c_b2 c_b3 c_b4 c_b5 c_b6 c_b7 hK hP hO hWW n6 n7
      generalize W0.heap.size=D1 at *
      clear W0
      have b1:=d1
      have b2:=d2
      have b3:=d3
      have b4:=d4
      have b5:HeldP W1 p bx (.cells #[.int .i64 x] 3):=hJx
      clear d1 d2 d3 d4 hJx
      have hO:=hO2
      have hK:=Keep.refl [2,3,4] B p W1
      have hP:=hP1
      clear hO2
      have c_b1:=b1.cells
      have c_b2:=b2.cells
      have c_b3:=b3.cells
      have c_b4:=b4.cells
      have c_b5:=b5.cells
      show WpF _ _ _ _ _ _
      refine wpF_seq (wpF_step fun K hK2=>?_)
      go_wp2_with fail
      refine (ranks_p _ _ _).mono ?_
      rintro e w3 ⟨rfl,rfl⟩
      go_wp2_with fail
      have b6:=hP.held (.cells #[.int .i64 (k:Int)] 3)
      clear c_b1 c_b2 c_b3 c_b4 c_b5
      replace b1:=b1.alloc (.cells #[.int .i64 (k:Int)] 3) hP.lt
      replace b2:=b2.alloc (.cells #[.int .i64 (k:Int)] 3) hP.lt
      replace b3:=b3.alloc (.cells #[.int .i64 (k:Int)] 3) hP.lt
      replace b4:=b4.alloc (.cells #[.int .i64 (k:Int)] 3) hP.lt
      replace b5:=b5.alloc (.cells #[.int .i64 (k:Int)] 3) hP.lt
      replace hK:=hK.trans (Keep.alloc (.cells #[.int .i64 (k:Int)] 3) hP.lt hP.le)
      replace hP:=hP.alloc (.cells #[.int .i64 (k:Int)] 3)
      have c_b1:=b1.cells
      have c_b2:=b2.cells
      have c_b3:=b3.cells
      have c_b4:=b4.cells
      have c_b5:=b5.cells
      have c_b6:=b6.cells
      have b7:=hP.held (.cells #[.int .i64 a] 3)
      clear c_b1 c_b2 c_b3 c_b4 c_b5 c_b6
      replace b1:=b1.alloc (.cells #[.int .i64 a] 3) hP.lt
      replace b2:=b2.alloc (.cells #[.int .i64 a] 3) hP.lt
      replace b3:=b3.alloc (.cells #[.int .i64 a] 3) hP.lt
      replace b4:=b4.alloc (.cells #[.int .i64 a] 3) hP.lt
      replace b5:=b5.alloc (.cells #[.int .i64 a] 3) hP.lt
      replace b6:=b6.alloc (.cells #[.int .i64 a] 3) hP.lt
      replace hK:=hK.trans (Keep.alloc (.cells #[.int .i64 a] 3) hP.lt hP.le)
      replace hP:=hP.alloc (.cells #[.int .i64 a] 3)
      have c_b1:=b1.cells
      have c_b2:=b2.cells
      have c_b3:=b3.cells
      have c_b4:=b4.cells
      have c_b5:=b5.cells
      have c_b6:=b6.cells
      have c_b7:=b7.cells
      simp only [World.size_alloc] at b7 c_b7
      generalize (W1.alloc (.cells #[.int .i64 (k:Int)] 3)).alloc (.cells #[.int .i64 a] 3)=W0 at *
      refine wpF_block ?_
      refine' tape_range (T:=fun i _=>slotsW (base+16*tellsM k a i) (loc+(2+18*tellsM k a i)) x) (xs:=ranksFrom a k 0) (x:=()) (fin:=fun _=>.ret (unLo x (clamp top 1048576))) Try.func38 rfl (enters_of Try.func84 (by kernel_rfl) rfl) rfl (ranks_gives k a W1.heap.size (W1.heap.size+1) (by omega))
       (fun _=>False) (fun _ _=>True) (fun _ h=>h.elim) hP.le (fun W hX=>⟨(KeepX.held b6 hX id).cells 0,(KeepX.held b7 hX id).cells 0⟩) (fun _ _ _ _ h=>h) (fun _ _ _ _ _ _ h=>h) hO hK hP trivial
       _ ?assign2 ?body2 ?done2 ?pan2
      case assign2 =>
       intro l y W K hK
       gi_wp2
       exact hK
      case body2 =>
       intro l i u S W hi hPl hX _
       have hib:=ranks_mem a k 0 i hi
       have htb:=tells_bd k a i (by omega) (by omega) (by omega) (by omega)
       have c1:=(KeepX.held b1 hX id)
       have c2:=(KeepX.held b2 hX id)
       have c3:=(KeepX.held b3 hX id)
       have c4:=(KeepX.held b4 hX id)
       have c5:=(KeepX.held b5 hX id)
       have hO:=owes encU B p W ((slotsW (base+16*tellsM k a i) (loc+(2+18*tellsM k a i)) x).run S)
       have hK:=Keep.refl [2,3,4] B p W
       have hP:=hPl
       clear hPl hX b1 b2 b3 b4 b5 b6 b7 c_b1 c_b2 c_b3 c_b4 c_b5 c_b6 c_b7
       have c_c1:=c1.cells
       have c_c2:=c2.cells
       have c_c3:=c3.cells
       have c_c4:=c4.cells
       have c_c5:=c5.cells
       refine wpIn_block ?_
       replace hP:=hP.drew
       replace hK:=hK.drew
       replace c1:=c1.drew
       replace c2:=c2.drew
       replace c3:=c3.drew
       replace c4:=c4.drew
       replace c5:=c5.drew
       refine wpIn_region_held (S:=fun W'=>(∀ i:Nat,W'.cell? ⟨w.heap.size,i,none⟩=(#[.pointer (some ⟨p,0,none⟩)]:Array Value)[i]?)/\(∀ i:Nat,W'.cell? ⟨w.heap.size+1,i,none⟩=(#[.int .i64 kind,.int .i64 base,.int .i64 loc,.int .i64 n,.int .i64 wr,.int .i64 rd,.int .i64 top]:Array Value)[i]?)/\(∀ i:Nat,W'.cell? ⟨q,i,none⟩=(#[.int .i64 a]:Array Value)[i]?)/\(∀ i:Nat,W'.cell? ⟨q+1,i,none⟩=(#[.int .i64 (k:Int)]:Array Value)[i]?)/\(∀ i:Nat,W'.cell? ⟨bx,i,none⟩=(#[.int .i64 x]:Array Value)[i]?)) (by kernel_rfl) (by kernel_rfl) (fun _ _ h=>h) ⟨c_c1,c_c2,c_c3,c_c4,c_c5⟩ (fun hHeld=>?_)
       refine tkb 0 ?_
       iterate 5
        refine tkn (v:=?_) rfl (by kernel_rfl) (fun _ _ _ h=>h) (by assumption) ?_ ?_
        rotate_left
        · (intro w hSw;(try dsimp only at hSw);go_simp;try with_reducible rfl)
        try simp only [put_pack]
       refine tke ?_
       refine tk 6 (v:=?_) rfl (by kernel_rfl) (fun _ _ _ h=>h) (by assumption) ?_ ?_
       rotate_left
       · (intro w hSw;(try dsimp only at hSw);go_simp;try with_reducible rfl)
       try simp only [put_pack]
       refine wpAnyH_ready (rs:=[5]) (by kernel_rfl) (by simp) ?_
       refine AllReadyH.cons rfl (fun K hKK=>?_) (AllReadyH.nil)
       go_simp
       refine (tells_p ⟨kind,base,loc,n,wr,rd,top⟩ k a i _ (by omega) (by omega) (by omega) (by omega) hb1 (by simp only;omega) hl1 (by simp only;omega)).mono ?_
       rintro e w2 ⟨rfl,hx⟩
       clear c_c1 c_c2 c_c3 c_c4 c_c5
       replace hK:=hK.trans (Keep.of_ext hx hP.lt hP.le)
       replace c1:=c1.ext hx hP.lt
       have c_c1:=c1.cells
       replace c2:=c2.ext hx hP.lt
       have c_c2:=c2.cells
       replace c3:=c3.ext hx hP.lt
       have c_c3:=c3.cells
       replace c4:=c4.ext hx hP.lt
       have c_c4:=c4.cells
       replace c5:=c5.ext hx hP.lt
       have c_c5:=c5.cells
       replace hP:=hP.ext hx
       clear hx
       refine hKK.out _ _ ⟨c_c1,c_c2,c_c3,c_c4,c_c5⟩ (fun hHeld=>?_)
       clear hKK K
       try dsimp only
       refine wpAnyH_ready (rs:=[7]) (by kernel_rfl) (by simp) ?_
       refine AllReadyH.cons rfl (fun K hKK=>?_) (AllReadyH.nil)
       go_simp
       refine tlast hO hK (slots_write_p B p S ⟨5,base+16*tellsM k a i,loc+(2+18*tellsM k a i),n,wr,rd,1099511627776⟩ x _ hP (by simp only;omega) (by simp only;omega) (by simp only;omega) (by simp only;omega)) (fun w' h=>⟨rfl,rfl,(round_stop h).imp fun S hS=>⟨hS.1,hS.2.1,hS.2.2.x _⟩⟩) ?_
       intro u2 S1 w5 hr hP1 hk1 hK1 hO1
       refine hKK.out _ _ ⟨(c1.keep hk1).cells,(c2.keep hk1).cells,(c3.keep hk1).cells,(c4.keep hk1).cells,(c5.keep hk1).cells⟩ (fun hHeld=>?_)
       refine wpAnyH_done (by kernel_rfl) ?_ _
       exact⟨u2,S1,hr,hP1,hK1.x _,trivial⟩
      case done2 =>
       intro u S W hO1 hX hP _ hD
       have c2:=(KeepX.held b2 hX id)
       have c5:=(KeepX.held b5 hX id)
       have hK1:KeepP B p W1 W:=KeepX.after hK hX (fun _ h=>h.elim)
       have hO:=owes_shut hO1 hK1 hD hK.size hBW
       have hK:=Keep.refl [2,3,4] B p W
       clear hO1 hX hK1 hD b1 b2 b3 b4 b5 b6 b7 c_b1 c_b2 c_b3 c_b4 c_b5 c_b6 c_b7
       have c_c2:=c2.cells
       have c_c5:=c5.cells
       generalize W0.heap.size=D2 at *
       show WpF _ _ _ _ _ _
       refine wpF_cut (fun a0 a' W'=>a'={ tmps:=(((((((((a0.tmps.setIfInBounds 67 (.int .i64 x)).setIfInBounds 68 (.pointer (some ⟨w.heap.size+1,6,none⟩))).setIfInBounds 69 (.int .i64 top)).setIfInBounds 70 (.int .i64 (clamp top 1048576))).setIfInBounds 71 (.tuple #[.int .i64 (unHi x (clamp top 1048576)),.int .i64 (unLo x (clamp top 1048576))])).setIfInBounds 66 (.tuple #[.int .i64 (unHi x (clamp top 1048576)),.int .i64 (unLo x (clamp top 1048576))])).setIfInBounds 72 (.int .i64 (unHi x (clamp top 1048576)))).setIfInBounds 73 (.int .i64 (unLo x (clamp top 1048576)))).setIfInBounds 13 (.int .i64 (unHi x (clamp top 1048576)))).setIfInBounds 14 (.int .i64 (unLo x (clamp top 1048576))),defers:=a0.defers }/\Plays B W' p S/\KeepP B p W W') ?_ ?_
       · replace hP:=hP.drew
         replace hK:=hK.drew
         replace c2:=c2.drew
         replace c5:=c5.drew
         refine wp_region_held_drew (S:=fun W'=>(∀ i:Nat,W'.cell? ⟨w.heap.size+1,i,none⟩=(#[.int .i64 kind,.int .i64 base,.int .i64 loc,.int .i64 n,.int .i64 wr,.int .i64 rd,.int .i64 top]:Array Value)[i]?)/\(∀ i:Nat,W'.cell? ⟨bx,i,none⟩=(#[.int .i64 x]:Array Value)[i]?)) (by kernel_rfl) ⟨c_c2,c_c5⟩ (fun hHeld=>?_)
         refine tkb 0 ?_
         iterate 3
          refine tkn (v:=?_) rfl (by kernel_rfl) (fun _ _ _ h=>h) (by assumption) ?_ ?_
          rotate_left
          · (intro w hSw;(try dsimp only at hSw);go_simp;try with_reducible rfl)
          try simp only [put_pack]
         refine tke ?_
         refine wpAnyH_ready (rs:=[3]) (by kernel_rfl) (by simp) ?_
         refine AllReadyH.cons rfl (fun K hKK=>?_) (AllReadyH.nil)
         go_simp
         refine (clamp_p _ _ _).mono ?_
         rintro e w' ⟨rfl,rfl⟩
         refine hKK.out _ _ ⟨c_c2,c_c5⟩ (fun hHeld=>?_)
         clear hKK K
         try simp only [put_pack]
         refine wpAnyH_ready (rs:=[4]) (by kernel_rfl) (by simp) ?_
         refine AllReadyH.cons rfl (fun K hKK=>?_) (AllReadyH.nil)
         go_simp
         refine (unpack_x _ _ _).mono ?_
         rintro e w2 ⟨rfl,hx⟩
         clear c_c2 c_c5
         replace hK:=hK.trans (Keep.of_ext hx hP.lt hP.le)
         replace c2:=c2.ext hx hP.lt
         have c_c2:=c2.cells
         replace c5:=c5.ext hx hP.lt
         have c_c5:=c5.cells
         replace hP:=hP.ext hx
         clear hx
         refine hKK.out _ _ ⟨c_c2,c_c5⟩ (fun hHeld=>?_)
         clear hKK K
         try simp only [put_pack]
         refine tkb 5 ?_
         iterate 5
          refine tkn (v:=?_) rfl (by kernel_rfl) (fun _ _ _ h=>h) (by assumption) ?_ ?_
          rotate_left
          · (intro w hSw;(try dsimp only at hSw);go_simp;try with_reducible rfl)
          try simp only [put_pack]
         refine tke ?_
         refine wpAnyH_done (by kernel_rfl) ?_ _
         exact⟨rfl,hP,hK⟩
       · rintro a' W' ⟨rfl,hP,hK⟩
         simp only [List.setIfInBounds_toArray,List.set_cons_zero,List.set_cons_succ]
         have hf:=hO.done hP hK
         refine wpF_of_wp ?_
         go_wp2_with fail
         exact leavesM_cons (fun hx=>nomatch hx) hf.1 (leavesM_cons (fun hx=>nomatch hx) hf.2.1 (leavesM_ret0 (v:=.int .i64 (unLo x (clamp top 1048576))) (by simp [results,Try.results38,go_sem]) hf.2.2))
      case pan2 =>
       intro S W c hc hO1 hX hS hD
       have hK1:KeepP B p W1 W:=KeepX.after hK hX (fun _ h=>h.elim)
       have hf:=hO1.stop (hS.put (.deferred none) hD.2 (by have:=hP.le;omega)) (hK1.put (o:=.deferred none) hK.size hD.2 hBW)
       rw [hc] at hf
       exact leavesM_cons (fun hx=>nomatch hx) hD.1 (leavesM_cons (fun hx=>nomatch hx) hf.1 (leavesM_panic0 hf.2))
     case pan =>
      intro S W c hc hO1 hX hS hD
      have hK1:KeepP B p w W:=KeepX.after hK hX (fun b hb=>by rw [hb];exact lw)
      refine leavesM_cons (fun hx=>nomatch hx) hD.1 (leavesM_panic0 ?_)
      rw [<- hc]
      exact hO1.stop (hS.put _ hD.2 (by have:=hP.le;omega)) (hK1.put hK.size hD.2 hBw.out)
end Go.Proofs.Ytchahoiainbcaaa
namespace Go.Proofs.Ytchahoiainbcaaa
open Go.RowKit Kv
theorem mthreads_p (n:Int)(w:World)(h1:1<=n)(h2:n<=8):Calls Try.prog 68 #[.int .i64 n] w fun e w'=>e=.returned (.int .i64 n)/\w=w':=by
 go_enter Try.func68,Try.ntmps68
 go_wp2_with fail
 go_ret
 exact⟨ret_int (by show _=_;omega),rfl⟩
theorem mmost_p (t:Int)(w:World):Calls Try.prog 71 #[.int .i64 t] w fun e w'=>e=.returned (.int .i64 (clamp t 255))/\w=w':=by
 go_enter Try.func71,Try.ntmps71
 go_wp2_with fail
 refine (clamp_p _ _ _).mono ?_
 rintro e w' ⟨rfl,rfl⟩
 go_wp2_with fail
 go_ret
 exact⟨rfl,rfl⟩
theorem trlocals_p (w:World):Calls Try.prog 43 #[] w fun e w'=>e=.returned (.int .i64 4)/\w=w':=by
 go_enter Try.func43,Try.ntmps43
 go_wp2_with fail
 go_ret
 exact⟨rfl,rfl⟩
theorem slocals_p (w:World):Calls Try.prog 44 #[] w fun e w'=>e=.returned (.int .i64 18)/\w=w':=by
 go_enter Try.func44,Try.ntmps44
 go_wp2_with fail
 refine (trlocals_p _).mono ?_
 rintro e w' ⟨rfl,rfl⟩
 go_wp2_with fail
 go_ret
 exact⟨rfl,rfl⟩
theorem sq_bd (n:Int)(h1:1<=n)(h2:n<=8):0<=18*(n-1)/\18*(n-1)<=126/\0<=18*(n-1)*(n-1)/\18*(n-1)*(n-1)<=882:=by
 have h4:0<=18*(n-1)*(n-1):=Int.mul_nonneg (by omega) (by omega)
 have h5:18*(n-1)*(n-1)<=126*7:=Int.mul_le_mul (by omega) (by omega) (by omega) (by omega)
 omega
theorem tlocals_p (n:Int)(w:World)(h1:1<=n)(h2:n<=8):Calls Try.prog 45 #[.int .i64 n] w fun e w'=>e=.returned (.int .i64 (2+18*(n-1)*(n-1)))/\w=w':=by
 have hs:=sq_bd n h1 h2
 go_enter Try.func45,Try.ntmps45
 go_wp2_with fail
 refine (threads_p n _ h1 h2).mono ?_
 rintro e w' ⟨rfl,rfl⟩
 go_wp2_with fail
 refine (slocals_p _).mono ?_
 rintro e w' ⟨rfl,rfl⟩
 go_wp2_with fail
 go_ret
 exact⟨rfl,rfl⟩
theorem many_bd (n j:Int)(h1:1<=n)(h2:n<=8)(h3:0<=j/\j<n):(0<=16*j*(n-1)/\16*j*(n-1)<=784)/\(0<=16*j*(n-1)*(n-1)/\16*j*(n-1)*(n-1)<=5488)/\(0<=j*(2+18*(n-1)*(n-1))/\j*(2+18*(n-1)*(n-1))<=6188):=by
 have hs:=sq_bd n h1 h2
 have a1:0<=16*j*(n-1):=Int.mul_nonneg (by omega) (by omega)
 have a2:16*j*(n-1)<=112*7:=Int.mul_le_mul (by omega) (by omega) (by omega) (by omega)
 have a3:0<=16*j*(n-1)*(n-1):=Int.mul_nonneg a1 (by omega)
 have a4:16*j*(n-1)*(n-1)<=784*7:=Int.mul_le_mul (by omega) (by omega) (by omega) (by omega)
 have a5:0<=j*(2+18*(n-1)*(n-1)):=Int.mul_nonneg (by omega) (by omega)
 have a6:j*(2+18*(n-1)*(n-1))<=7*884:=Int.mul_le_mul (by omega) (by omega) (by omega) (by omega)
 omega
set_option maxHeartbeats 1000000 in
theorem of_p (r:Reg)(j:Int)(w:World)(h1:1<=r.n)(h2:r.n<=8)(h3:0<=j/\j<r.n)(hb1:0<=r.base)(hb2:r.base<=50000)(hl1:0<=r.loc)(hl2:r.loc<=49000) :
  Calls Try.prog 70 #[encR r,.int .i64 j] w fun e w'=>e=.returned (encR ⟨6,manyB r.base r.n j,manyL r.loc r.n j,r.n,j,-1,manyTop r.top⟩)/\Ext w w':=by
 obtain⟨kind,base,loc,n,wr,rd,top⟩:=r
 simp only at h1 h2 h3 hb1 hb2 hl1 hl2
 have hm:=many_bd n j h1 h2 h3
 have hs:=sq_bd n h1 h2
 unfold encR manyB manyL manyTop
 have c1:=cell_of_heap (heap_alloc_new w (.cells #[.int .i64 kind,.int .i64 base,.int .i64 loc,.int .i64 n,.int .i64 wr,.int .i64 rd,.int .i64 top] 23))
 have w1:=IntWalk.i64_in (16*j) (by omega)
 have w2:=IntWalk.i64_in (n-1) (by omega)
 have w3:=IntWalk.i64_in (16*j*(n-1)) (by omega)
 have w4:=IntWalk.i64_in (16*j*(n-1)*(n-1)) (by omega)
 have w5:=IntWalk.i64_in (base+16*j*(n-1)*(n-1)) (by omega)
 have w6:=IntWalk.i64_in (j*(2+18*(n-1)*(n-1))) (by omega)
 have w7:=IntWalk.i64_in (loc+j*(2+18*(n-1)*(n-1))) (by omega)
 have hmh:=Lib.hid hm
 have hsh:=Lib.hid hs
 clear hm hs
 go_enter Try.func70,Try.ntmps70
 go_wp2_with fail
 refine (mthreads_p n _ h1 h2).mono ?_
 rintro e w' ⟨rfl,rfl⟩
 go_wp2_with fail
 go_region_held2 (fun w'=>∀ i:Nat,w'.cell? ⟨w.heap.size,i,none⟩=(#[.int .i64 kind,.int .i64 base,.int .i64 loc,.int .i64 n,.int .i64 wr,.int .i64 rd,.int .i64 top]:Array Value)[i]?) (first | assumption | go_keep | (intro i;simp [*]))
  (first
    | (go_at_call 45
       refine (tlocals_p n _ h1 h2).mono ?_
       rintro e w' ⟨rfl,rfl⟩)
    | (go_at_call 71
       refine (mmost_p top _).mono ?_
       rintro e w' ⟨rfl,rfl⟩)
    | (go_at_call 64
       refine (pack_p _ _ _ _).mono ?_
       rintro e w' ⟨rfl,rfl⟩))
 go_wp2_with fail
 refine bodyPost_ret (v:=.agg #[.int .i64 6,.int .i64 (base+16*j*(n-1)*(n-1)),.int .i64 (loc+j*(2+18*(n-1)*(n-1))),.int .i64 n,.int .i64 j,.int .i64 (-1),.int .i64 (packI 4095 (clamp top 255) (clamp top 255))]) (by simp [results,Try.results70,go_sem]) rfl ?_
 exact⟨rfl,(((Ext.refl _).alloc _).alloc _).drewN 1⟩
def encP (q:Int × Int):Value:=.agg #[.int .i64 q.1,.int .i64 q.2]
@[go_sem] theorem encP_eq (q:Int × Int):encP q=.agg #[.int .i64 q.1,.int .i64 q.2]:=rfl
theorem Held.set2 {ix:List Nat}{w:World}{p b:Nat}{u v:Value}{t:TypeId}(h:Held ix w p b (.cells #[u,v] t (0,0)))(u' v':Value):Held ix ((w.setCell ⟨b,0,none⟩ u').setCell ⟨b,1,none⟩ v') p b (.cells #[u',v'] t (0,0)):=by
 have h1:Held ix (w.setCell ⟨b,0,none⟩ u') p b (.cells #[u',v] t (0,0)):=⟨heap_setCell h.1 u',fun h'=>h.2 ((ownR_same ((OneB.setCell w b 0 u').block p (fun e=>h.2 (.inl e.symm))) b).1 h')⟩
 exact⟨heap_setCell h1.1 v',fun h'=>h1.2 ((ownR_same ((OneB.setCell _ b 1 v').block p (fun e=>h1.2 (.inl e.symm))) b).1 h')⟩
theorem OneB.set2 (w:World)(b:Nat)(u v:Value):OneB b w ((w.setCell ⟨b,0,none⟩ u).setCell ⟨b,1,none⟩ v) :=
 ⟨rfl,rfl,rfl,by simp,fun k hk=>(heap_setCell_ne _ v hk).trans (heap_setCell_ne w u hk)⟩
theorem manyRs_step (b l n top me:Int)(k:Nat)(j s v:Int):manyRs b l n top me (k+1) j s v=(tableR (manyB b n j) (manyL l n j) n j (manyTop top) me).bind fun y =>
   if s<=unHi y (clamp top 255) then manyRs b l n top me k (j+1) (unHi y (clamp top 255)) (unLo y (clamp top 255)) else manyRs b l n top me k (j+1) s v:=rfl
set_option maxHeartbeats 2000000 in
theorem greatest_p (B p:Nat)(S:TS)(r:Reg)(me:Int)(w:World)(h:Plays B w p S)(hn1:1<=r.n)(hn2:r.n<=8)(hm:0<=me/\me<r.n)(hb1:0<=r.base)(hb2:r.base<=50000)(hl1:0<=r.loc)(hl2:r.loc<=49000) :
  Calls Try.prog 69 #[.pointer (some ⟨p,0,none⟩),encR r,.int .i64 me] w (Post encP B p w ((manyRs r.base r.loc r.n r.top me r.n.toNat 0 0 0).run S)):=by
 generalize hR:Post encP B p w ((manyRs r.base r.loc r.n r.top me r.n.toNat 0 0 0).run S)=R
 have hO:Owes R encP B p w ((manyRs r.base r.loc r.n r.top me r.n.toNat 0 0 0).run S):=hR▸owes _ _ _ _ _
 clear hR
 obtain⟨kind,base,loc,n,wr',rd,top⟩:=r
 simp only at hn1 hn2 hm hb1 hb2 hl1 hl2 hO
 unfold encR
 have hK:=Keep.refl [2,3,4] B p w
 have hP:=h
 have b1:=hP.held (.cells #[.int .i64 kind,.int .i64 base,.int .i64 loc,.int .i64 n,.int .i64 wr',.int .i64 rd,.int .i64 top] 23)
 replace hK:=hK.trans (Keep.alloc (.cells #[.int .i64 kind,.int .i64 base,.int .i64 loc,.int .i64 n,.int .i64 wr',.int .i64 rd,.int .i64 top] 23) hP.lt hP.le)
 replace hP:=hP.alloc (.cells #[.int .i64 kind,.int .i64 base,.int .i64 loc,.int .i64 n,.int .i64 wr',.int .i64 rd,.int .i64 top] 23)
 have b2:=hP.held (.cells #[.int .i64 0,.int .i64 0] 72)
 simp only [World.size_alloc] at b2
 replace b1:=b1.alloc (.cells #[.int .i64 0,.int .i64 0] 72) hP.lt
 replace hK:=hK.trans (Keep.alloc (.cells #[.int .i64 0,.int .i64 0] 72) hP.lt hP.le)
 replace hP:=hP.alloc (.cells #[.int .i64 0,.int .i64 0] 72)
 have b3:=hP.held (.cells #[.int .i64 0,.int .i64 0] 72)
 simp only [World.size_alloc] at b3
 replace b1:=b1.alloc (.cells #[.int .i64 0,.int .i64 0] 72) hP.lt
 replace b2:=b2.alloc (.cells #[.int .i64 0,.int .i64 0] 72) hP.lt
 replace hK:=hK.trans (Keep.alloc (.cells #[.int .i64 0,.int .i64 0] 72) hP.lt hP.le)
 replace hP:=hP.alloc (.cells #[.int .i64 0,.int .i64 0] 72)
 have c_b1:=b1.cells
 have c_b2:=b2.cells
 have c_b3:=b3.cells
 have hBw:=Lib.hid h.le
 clear h
 go_enter Try.func69,Try.ntmps69
 go_wp2_with fail
 refine (mthreads_p n _ hn1 hn2).mono ?_
 rintro e w' ⟨rfl,rfl⟩
 go_wp2_with fail
 obtain⟨N,rfl⟩:∃ N:Nat,n=(N:Int):=⟨n.toNat,by omega⟩
 rw [Int.toNat_natCast] at hO
 go_loopw [14] (fun z wr=>∃ (j:Nat) (s v:Int) (S:TS),z=.int .i64 j/\j<=N/\HeldP wr p w.heap.size (.cells #[.int .i64 kind,.int .i64 base,.int .i64 loc,.int .i64 (N:Int),.int .i64 wr',.int .i64 rd,.int .i64 top] 23)/\HeldP wr p (w.heap.size+1) (.cells #[.int .i64 0,.int .i64 0] 72)/\HeldP wr p (w.heap.size+1+1) (.cells #[.int .i64 s,.int .i64 v] 72)/\Plays B wr p S/\KeepP B p w wr/\Owes R encP B p w ((manyRs base loc N top me (N-j) j s v).run S)) (fun z _=>N-(intOf z).toNat)
 case atStart=>exact⟨0,0,0,S,rfl,by omega,b1,b2,b3,hP,hK,hO⟩
 case round =>
  clear b1 b2 b3 c_b1 c_b2 c_b3 hO hP hK
  obtain⟨j,s,v,S,rfl,hj,b1,b2,b3,hP,hK,hO⟩:=hrel
  have c_b1:=b1.cells
  have c_b2:=b2.cells
  have c_b3:=b3.cells
  by_cases hlt:j<N
  · obtain⟨k,hk⟩:∃ k,N-j=k+1:=⟨N-j-1,by omega⟩
    have hkh:=Lib.hid hk
    rw [hk,manyRs_step] at hO
    clear hk
    have hm2:=many_bd N j hn1 hn2 (by omega)
    go_wp2_with fail
    replace hP:=hP.drew
    replace hK:=hK.drew
    replace b1:=b1.drew
    replace b2:=b2.drew
    replace b3:=b3.drew
    go_region_held2 (fun w'=>∀ i:Nat,w'.cell? ⟨w.heap.size,i,none⟩=(#[.int .i64 kind,.int .i64 base,.int .i64 loc,.int .i64 (N:Int),.int .i64 wr',.int .i64 rd,.int .i64 top]:Array Value)[i]?) (first | exact c_b1 | go_keep)
     (first
       | (go_at_call 70
          refine (of_p ⟨kind,base,loc,N,wr',rd,top⟩ j _ hn1 hn2 (by simp only;omega) hb1 hb2 hl1 hl2).mono ?_
          rintro e w2 ⟨rfl,hx⟩
          clear c_b1 c_b2 c_b3
          replace hK:=hK.trans (Keep.of_ext hx hP.lt hP.le)
          replace b1:=b1.ext hx hP.lt
          have c_b1:=b1.cells
          replace b2:=b2.ext hx hP.lt
          have c_b2:=b2.cells
          replace b3:=b3.ext hx hP.lt
          have c_b3:=b3.cells
          replace hP:=hP.ext hx
          clear hx)
       | (go_at_call 38
          refine tstep hO hK (table_read_p B p S ⟨6,manyB base N j,manyL loc N j,N,j,-1,manyTop top⟩ me _ hP hn1 hn2 (by simp only;omega) (by simp only;omega) hm (by simp only [manyB];omega) (by simp only [manyB];omega) (by simp only [manyL];omega) (by simp only [manyL];omega)) (fun _ h=>⟨rfl,h⟩) ?_
          clear hO hK hP c_b1 c_b2 c_b3
          intro y S w1 hr hP hk hK hO
          replace b1:=b1.keep hk
          have c_b1:=b1.cells
          replace b2:=b2.keep hk
          have c_b2:=b2.cells
          replace b3:=b3.keep hk
          have c_b3:=b3.cells
          clear hk hr)
       | (go_at_call 71
          refine (mmost_p top _).mono ?_
          rintro e w' ⟨rfl,rfl⟩)
       | (go_at_call 76
          refine (unpack_x _ _ _).mono ?_
          rintro e w2 ⟨rfl,hx⟩
          clear c_b1 c_b2 c_b3
          replace hK:=hK.trans (Keep.of_ext hx hP.lt hP.le)
          replace b1:=b1.ext hx hP.lt
          have c_b1:=b1.cells
          replace b2:=b2.ext hx hP.lt
          have c_b2:=b2.cells
          replace b3:=b3.ext hx hP.lt
          have c_b3:=b3.cells
          replace hP:=hP.ext hx
          clear hx))
    clear hm2
    generalize unHi y (clamp top 255)=hi at *
    generalize unLo y (clamp top 255)=lo at *
    have hks:=Lib.hid hK.size
    by_cases hs:s<=hi
    · rw [if_pos hs] at hO
      have f_b3:=frozen_of_heap b3.1
      have hOh:=Lib.hid hO
      have hPh:=Lib.hid hP
      have hKh:=Lib.hid hK
      clear hO hP hK
      have n3:=b3.2
      go_wp2_with fail
      have o3:=OneB.set2 w2 (w.heap.size+1+1) (.int .i64 hi) (.int .i64 lo)
      refine⟨⟨j+1,hi,lo,S,by go_num,by omega,b1.one o3 (by omega) n3,b2.one o3 (by omega) n3,b3.set2 _ _,hPh.out.one o3 n3 (by have:=hBw.out;omega),hKh.out.one o3 (by omega) n3 hBw.out,?_⟩,by simp [intOf];omega⟩
      rw [show N-(j+1)=k from by have:=hkh.out;omega,show ((j+1:Nat):Int)=(j:Int)+1 from by omega]
      exact hOh.out
    · rw [if_neg hs] at hO
      have hOh:=Lib.hid hO
      have hPh:=Lib.hid hP
      have hKh:=Lib.hid hK
      clear hO hP hK
      go_wp2_with fail
      refine⟨⟨j+1,s,v,S,by go_num,by omega,b1,b2,b3,hPh.out,hKh.out,?_⟩,by simp [intOf];omega⟩
      rw [show N-(j+1)=k from by have:=hkh.out;omega,show ((j+1:Nat):Int)=(j:Int)+1 from by omega]
      exact hOh.out
  · obtain rfl:j=N:=by omega
    rw [Nat.sub_self] at hO
    have f_b2:=frozen_of_heap b2.1
    have o2:=OneB.set2 wr (w.heap.size+1) (.int .i64 s) (.int .i64 v)
    have hf:R (.returned (encP (s,v))) _:=hO.done (hP.one o2 b2.2 (by have:=hBw.out;omega)) (hK.one o2 (by omega) b2.2 hBw.out)
    have hr:=(b2.set2 (.int .i64 s) (.int .i64 v)).cells
    clear hO o2
    go_wp2_with fail
    exact bodyPost_ret (v:=.agg #[.int .i64 s,.int .i64 v]) (by simp [results,Try.results69,go_sem,hr]) rfl hf
theorem unHi_bd (y t:Int):0<=unHi y t/\unHi y t<=4398046511104:=by
 have h1:=unX_bd y
 have h2:=room_bd t
 unfold unHi
 exact⟨Int.ediv_nonneg h1.1 (by omega),Int.le_trans (Int.ediv_le_self _ h1.1) h1.2⟩
theorem manyRs_le (b l n top me:Int):∀ (k:Nat) (j s v:Int) (S:TS) (q:Int × Int) (S1:TS),(manyRs b l n top me k j s v).run S=(some q,S1)->0<=s/\s<=4398046511104->0<=q.1/\q.1<=4398046511104
 | 0,j,s,v,S,q,S1,h,hs=>by
   cases h
   exact hs
 | k+1,j,s,v,S,q,S1,h,hs=>by
   rw [manyRs_step,Prog.run_bind] at h
   generalize (tableR (manyB b n j) (manyL l n j) n j (manyTop top) me).run S=r at h
   obtain⟨o,S2⟩:=r
   cases o with
   | none=>cases h
   | some y =>
     simp only [thenR] at h
     split at h
     · exact manyRs_le b l n top me k _ _ _ _ _ _ h (unHi_bd _ _)
     · exact manyRs_le b l n top me k _ _ _ _ _ _ h hs
set_option maxRecDepth 100000 in
theorem many_write_p (B p:Nat)(S:TS)(r:Reg)(me v:Int)(w:World)(h:Plays B w p S)(hn1:1<=r.n)(hn2:r.n<=8)(hm:0<=me/\me<r.n)(hb1:0<=r.base)(hb2:r.base<=50000)(hl1:0<=r.loc)(hl2:r.loc<=49000) :
  Calls Try.prog 32 #[.pointer (some ⟨p,0,none⟩),encR r,.int .i64 me,.int .i64 v] w (Post encU B p w ((manyW r.base r.loc r.n r.top me v).run S)):=by
 generalize hR:Post encU B p w ((manyW r.base r.loc r.n r.top me v).run S)=R
 have hO:Owes R encU B p w ((manyW r.base r.loc r.n r.top me v).run S):=hR▸owes _ _ _ _ _
 clear hR
 obtain⟨kind,base,loc,n,wr,rd,top⟩:=r
 simp only at hn1 hn2 hm hb1 hb2 hl1 hl2 hO
 unfold encR
 obtain⟨b1,hK,hP⟩:=h.entry (.cells #[.int .i64 kind,.int .i64 base,.int .i64 loc,.int .i64 n,.int .i64 wr,.int .i64 rd,.int .i64 top] 23)
 have c_b1:=b1.cells
 clear h
 unfold manyW at hO
 have hd1:decide (me<0)=false:=by simpa using hm.1
 have hd2:decide (n<=me)=false:=by simpa using hm.2
 go_enter Try.func32,Try.ntmps32
 go_wp2_with fail
 refine (mthreads_p n _ hn1 hn2).mono ?_
 rintro e w' ⟨rfl,rfl⟩
 go_wp2_with fail
 refine tstep hO hK (greatest_p B p S ⟨kind,base,loc,n,wr,rd,top⟩ me _ hP hn1 hn2 hm hb1 hb2 hl1 hl2) (fun _ h=>⟨rfl,h⟩) ?_
 clear hO hK hP c_b1
 intro q S w1 hr hP hk hK hO
 replace b1:=b1.keep hk
 have c_b1:=b1.cells
 have hq:=manyRs_le _ _ _ _ _ _ _ _ _ _ _ _ hr (by omega)
 obtain⟨q1,q2⟩:=q
 simp only at hq hO
 have hq1:=IntWalk.i64_in (q1+1) (by omega)
 have hm2:=many_bd n me hn1 hn2 hm
 clear hk hr
 have hfd:∀ w:World,(Instr.field 72 (.agg #[.int .i64 q1,.int .i64 q2]) 0).run Try.prog w=.ok (.int .i64 q1) w:=fun _=>by kernel_rfl
 rw [encP_eq]
 go_wp2_with fail
 replace hP:=hP.drew
 replace hK:=hK.drew
 replace b1:=b1.drew
 go_region_held2 (fun w'=>∀ i:Nat,w'.cell? ⟨w.heap.size,i,none⟩=(#[.int .i64 kind,.int .i64 base,.int .i64 loc,.int .i64 n,.int .i64 wr,.int .i64 rd,.int .i64 top]:Array Value)[i]?) (first | exact c_b1 | go_keep)
  (first
    | (go_at_call 70
       refine (of_p ⟨kind,base,loc,n,wr,rd,top⟩ me _ hn1 hn2 (by simp only;omega) hb1 hb2 hl1 hl2).mono ?_
       rintro e w2 ⟨rfl,hx⟩
       clear c_b1
       replace hK:=hK.trans (Keep.of_ext hx hP.lt hP.le)
       replace b1:=b1.ext hx hP.lt
       have c_b1:=b1.cells
       replace hP:=hP.ext hx
       clear hx)
    | (go_at_call 71
       refine (mmost_p top _).mono ?_
       rintro e w' ⟨rfl,rfl⟩)
    | (go_at_call 63
       refine (clamp_p _ _ _).mono ?_
       rintro e w' ⟨rfl,rfl⟩)
    | (go_at_call 64
       refine (pack_p _ _ _ _).mono ?_
       rintro e w' ⟨rfl,rfl⟩)
    | (go_at_call 31
       refine tlast hO hK (table_write_p B p S ⟨6,manyB base n me,manyL loc n me,n,me,-1,manyTop top⟩ me _ _ hP hn1 hn2 (by simp only;omega) (by simp only;omega) (by simp only [manyB];omega) (by simp only [manyB];omega) (by simp only [manyL];omega) (by simp only [manyL];omega)) (fun _ h=>⟨rfl,h⟩) ?_
       clear hO hK hP c_b1
       intro y S w1 hr hP hk hK hO
       replace b1:=b1.keep hk
       have c_b1:=b1.cells
       clear hk hr))
 go_wp2_with fail
 first | go_end0 | refine bodyPost_ret (results_none rfl _ _ _) rfl ?_
 exact hO.done hP hK
set_option maxRecDepth 100000 in
theorem many_read_p (B p:Nat)(S:TS)(r:Reg)(me:Int)(w:World)(h:Plays B w p S)(hn1:1<=r.n)(hn2:r.n<=8)(hm:0<=me/\me<r.n)(hb1:0<=r.base)(hb2:r.base<=50000)(hl1:0<=r.loc)(hl2:r.loc<=49000) :
  Calls Try.prog 39 #[.pointer (some ⟨p,0,none⟩),encR r,.int .i64 me] w (Post encI B p w ((manyR r.base r.loc r.n r.top me).run S)):=by
 generalize hR:Post encI B p w ((manyR r.base r.loc r.n r.top me).run S)=R
 have hO:Owes R encI B p w ((manyR r.base r.loc r.n r.top me).run S):=hR▸owes _ _ _ _ _
 clear hR
 obtain⟨kind,base,loc,n,wr,rd,top⟩:=r
 simp only at hn1 hn2 hm hb1 hb2 hl1 hl2 hO
 unfold encR
 obtain⟨b1,hK,hP⟩:=h.entry (.cells #[.int .i64 kind,.int .i64 base,.int .i64 loc,.int .i64 n,.int .i64 wr,.int .i64 rd,.int .i64 top] 23)
 have c_b1:=b1.cells
 clear h
 unfold manyR at hO
 have hd1:decide (me<0)=false:=by simpa using hm.1
 have hd2:decide (n<=me)=false:=by simpa using hm.2
 go_enter Try.func39,Try.ntmps39
 go_wp2_with fail
 refine (mthreads_p n _ hn1 hn2).mono ?_
 rintro e w' ⟨rfl,rfl⟩
 go_wp2_with fail
 refine tstep hO hK (greatest_p B p S ⟨kind,base,loc,n,wr,rd,top⟩ me _ hP hn1 hn2 hm hb1 hb2 hl1 hl2) (fun _ h=>⟨rfl,h⟩) ?_
 clear hO hK hP c_b1
 intro q S w1 hr hP hk hK hO
 replace b1:=b1.keep hk
 have c_b1:=b1.cells
 clear hk hr
 obtain⟨q1,q2⟩:=q
 simp only at hO
 have hfd:∀ w:World,(Instr.field 72 (.agg #[.int .i64 q1,.int .i64 q2]) 1).run Try.prog w=.ok (.int .i64 q2) w:=fun _=>by kernel_rfl
 rw [encP_eq]
 go_wp2_with fail
 exact hO.done hP hK
set_option maxRecDepth 100000 in
set_option maxHeartbeats 2000000 in
theorem reg_write_p (B p:Nat)(S:TS)(r:Reg)(me v:Int)(w:World)(h:Plays B w p S)(hr:r.ok)(hm:0<=me/\me<r.n) :
  Calls Try.prog 10 #[.pointer (some ⟨p,0,none⟩),encR r,.int .i64 me,.int .i64 v] w (Post encU B p w ((regW r me v).run S)):=by
 generalize hR:Post encU B p w ((regW r me v).run S)=R
 have hO:Owes R encU B p w ((regW r me v).run S):=hR▸owes _ _ _ _ _
 clear hR
 obtain⟨hk,hb,hl,hn,hw⟩:=hr
 obtain⟨kind,base,loc,n,wr,rd,top⟩:=r
 simp only at hk hb hl hn hw hm hO
 unfold encR
 obtain⟨b1,hK,hP⟩:=h.entry (.cells #[.int .i64 kind,.int .i64 base,.int .i64 loc,.int .i64 n,.int .i64 wr,.int .i64 rd,.int .i64 top] 23)
 have c_b1:=b1.cells
 clear h
 unfold regW at hO
 simp only at hO
 rcases hk with rfl | rfl | rfl
 · simp at hO
   go_enter Try.func10,Try.ntmps10
   go_wp2_with fail
   refine tlast hO hK (write_p B p S _ _ _ hP) (fun _ h=>⟨rfl,h⟩) ?_
   clear hO hK hP c_b1
   intro u S w1 hr hP hk hK hO
   replace b1:=b1.keep hk
   have c_b1:=b1.cells
   clear hk hr
   go_wp2_with fail
   first | go_end0 | refine bodyPost_ret (results_none rfl _ _ _) rfl ?_
   exact hO.done hP hK
 · simp at hO
   obtain⟨hw1,hw2⟩:=hw rfl
   clear hw
   go_enter Try.func10,Try.ntmps10
   go_wp2_with fail
   refine tlast hO hK (table_write_p B p S ⟨6,base,loc,n,wr,rd,top⟩ me v _ hP hn.1 hn.2 hw1 hw2 hb.1 (by simp only;omega) hl.1 (by simp only;omega)) (fun _ h=>⟨rfl,h⟩) ?_
   clear hO hK hP c_b1
   intro u S w1 hr hP hk hK hO
   replace b1:=b1.keep hk
   have c_b1:=b1.cells
   clear hk hr
   go_wp2_with fail
   first | go_end0 | refine bodyPost_ret (results_none rfl _ _ _) rfl ?_
   exact hO.done hP hK
 · simp at hO
   go_enter Try.func10,Try.ntmps10
   go_wp2_with fail
   refine tlast hO hK (many_write_p B p S ⟨7,base,loc,n,wr,rd,top⟩ me v _ hP hn.1 hn.2 hm hb.1 (by simp only;omega) hl.1 (by simp only;omega)) (fun _ h=>⟨rfl,h⟩) ?_
   clear hO hK hP c_b1
   intro u S w1 hr hP hk hK hO
   replace b1:=b1.keep hk
   have c_b1:=b1.cells
   clear hk hr
   go_wp2_with fail
   first | go_end0 | refine bodyPost_ret (results_none rfl _ _ _) rfl ?_
   exact hO.done hP hK
set_option maxRecDepth 100000 in
set_option maxHeartbeats 2000000 in
theorem reg_read_p (B p:Nat)(S:TS)(r:Reg)(me:Int)(w:World)(h:Plays B w p S)(hr:r.ok)(hm:0<=me/\me<r.n) :
  Calls Try.prog 12 #[.pointer (some ⟨p,0,none⟩),encR r,.int .i64 me] w (Post encI B p w ((regR r me).run S)):=by
 generalize hR:Post encI B p w ((regR r me).run S)=R
 have hO:Owes R encI B p w ((regR r me).run S):=hR▸owes _ _ _ _ _
 clear hR
 obtain⟨hk,hb,hl,hn,hw⟩:=hr
 obtain⟨kind,base,loc,n,wr,rd,top⟩:=r
 simp only at hk hb hl hn hw hm hO
 unfold encR
 obtain⟨b1,hK,hP⟩:=h.entry (.cells #[.int .i64 kind,.int .i64 base,.int .i64 loc,.int .i64 n,.int .i64 wr,.int .i64 rd,.int .i64 top] 23)
 have c_b1:=b1.cells
 clear h
 unfold regR at hO
 simp only at hO
 rcases hk with rfl | rfl | rfl
 · simp at hO
   go_enter Try.func12,Try.ntmps12
   go_wp2_with fail
   refine tlast hO hK (read_p B p S _ _ hP) (fun _ h=>⟨rfl,h⟩) ?_
   clear hO hK hP c_b1
   intro x S w1 hr hP hk hK hO
   replace b1:=b1.keep hk
   have c_b1:=b1.cells
   clear hk hr
   go_wp2_with fail
   exact hO.done hP hK
 · simp at hO
   obtain⟨hw1,hw2⟩:=hw rfl
   clear hw
   go_enter Try.func12,Try.ntmps12
   go_wp2_with fail
   refine tlast hO hK (table_read_p B p S ⟨6,base,loc,n,wr,rd,top⟩ me _ hP hn.1 hn.2 hw1 hw2 hm hb.1 (by simp only;omega) hl.1 (by simp only;omega)) (fun _ h=>⟨rfl,h⟩) ?_
   clear hO hK hP c_b1
   intro x S w1 hr hP hk hK hO
   replace b1:=b1.keep hk
   have c_b1:=b1.cells
   clear hk hr
   go_wp2_with fail
   exact hO.done hP hK
 · simp at hO
   go_enter Try.func12,Try.ntmps12
   go_wp2_with fail
   refine tlast hO hK (many_read_p B p S ⟨7,base,loc,n,wr,rd,top⟩ me _ hP hn.1 hn.2 hm hb.1 (by simp only;omega) hl.1 (by simp only;omega)) (fun _ h=>⟨rfl,h⟩) ?_
   clear hO hK hP c_b1
   intro x S w1 hr hP hk hK hO
   replace b1:=b1.keep hk
   have c_b1:=b1.cells
   clear hk hr
   go_wp2_with fail
   exact hO.done hP hK
abbrev KeepR (B p:Nat) (w w':World):Prop:=Keep [3,4,5] B p w w'
section
variable {B p:Nat} {w w' w1:World} {S:TS} {n:Nat} {o:Bool} {vA vL vC vN:Value} {L:List Int}
end
end Go.Proofs.Ytchahoiainbcaaa
namespace Kv
def tameL (L:List Int) (top:Int):List Int:=(L.take 3000).map fun x=>wrapI x top
def shortN (L:List Int):Nat->Nat
 | 0=>0
 | n+1=>if L.getD n 0=0 then shortN L n else n+1
def shortL (L:List Int):List Int:=L.take (shortN L L.length)
end Kv
namespace Go.Proofs.Ytchahoiainbcaaa
open Go.RowKit Kv
set_option maxRecDepth 100000 in
theorem tame_r (v:Value)(L:List Int)(top:Int)(w:World)(h:Ints w v L) :
  Calls Try.prog 7 #[v,.int .i64 top] w fun e w'=>∃ v',e=.returned v'/\IntRow w' w.heap.size v' (tameL L top)/\Ext w w':=by
 obtain⟨A,c,rfl,q1,q2⟩:=h.slice
 go_enter Try.func7,Try.ntmps7
 go_wp2_with fail
 go_loopw [5,6] (fun v i wr=>∃ j:Nat,i=.int .i64 j/\j<=L.length/\j<=3000/\IntRow wr w.heap.size v ((L.take j).map fun x=>wrapI x top)/\Ext w wr) (fun _ i _=>3000-(intOf i).toNat)
 case atStart=>exact⟨0,rfl,by omega,by omega,IntRow.nil _ _,Ext.refl _⟩
 case round =>
  obtain⟨j,rfl,hj,hj2,hown,hE⟩:=hrel
  have hsz:=hE.size
  have hlt1:((L.take j).map fun x=>wrapI x top).length<1000000000000:=by simp;omega
  by_cases hl:j<L.length/\j<3000
  · obtain⟨hl1,hl2⟩:=hl
    obtain⟨b,off,rfl,hb,hcell⟩:=(h.ext hE).at_ hl1
    have hs:((L.take (j+1)).map fun x=>wrapI x top)=((L.take j).map fun x=>wrapI x top)++[wrapI (L.getD j 0) top]:=by
     rw [List.take_succ_eq_append_getElem hl1,List.map_append]
     simp [List.getD,hl1]
    have H1:=Lib.hid hs
    clear hs
    generalize L.getD j 0=E at *
    have hEh:=Lib.hid hE
    clear hE
    generalize hM:((L.take j).map fun x=>wrapI x top)=M at *
    clear hM
    have hh:=Lib.hid h
    clear h
    go_wp2_with (first | (go_at_call 22;refine (wrap_r _ _ _).mono ?_;rintro e w' ⟨rfl,rfl⟩) | (at_builtin;refine append_int rfl _ _ rfl w.heap.size _ M (wrapI E top) hown rfl rfl hlt1 hsz ?_))
    intro v' w1 hown' hgrow
    have hE':=hEh.out.appended hown hgrow
    rw [<- H1.out] at hown'
    clear hown hgrow
    go_wp2_with fail
    go_roundw
    case rel=>exact⟨j+1,by go_num,by omega,by omega,hown',hE'⟩
    case measure=>simp [intOf];omega
  · have hf:((L.take j).map fun x=>wrapI x top)=tameL L top:=by
     unfold tameL
     congr 1
     by_cases e:j<L.length
     · rw [show j=3000 by omega]
     · rw [List.take_of_length_le (by omega),List.take_of_length_le (by omega)]
    rw [hf] at hown
    clear hf hlt1
    by_cases e:j<L.length
    · have e3:¬ j<3000:=fun e3=>hl ⟨e,e3⟩
      clear hl h
      go_wp2_with fail
      go_ret
      exact⟨_,rfl,hown,hE⟩
    · clear hl h
      go_wp2_with fail
      go_ret
      exact⟨_,rfl,hown,hE⟩
theorem Ints.take {w:World}{A:Option Addr}{c:Nat}{L:List Int}(h:Ints w (.slice A L.length c) L)(m:Nat)(hm:m<=L.length):Ints w (.slice A m c) (L.take m):=by
 obtain⟨A',c',he,h1,h2,h3⟩:=h
 injection he with e1 e2 e3
 subst e1 e3
 have hl:(L.take m).length=m:=by rw [List.length_take];omega
 refine⟨A,c,by rw [hl],by omega,h2,fun hne=>?_⟩
 obtain⟨b,off,rfl,hb,hc⟩:=h3 (fun e=>hne (by rw [e];simp))
 refine⟨b,off,rfl,hb,fun i x hi=>hc i x ?_⟩
 rw [List.getElem?_take] at hi
 split at hi
 · exact hi
 · cases hi
end Go.Proofs.Ytchahoiainbcaaa
namespace Kv
end Kv
namespace Go.Proofs.Ytchahoiainbcaaa
open Go.RowKit Kv
def Blk (w:World) (b:Nat) (o:Obj):Prop:=w.heap[b]?=some o
theorem Blk.lt {w:World}{b:Nat}{o:Obj}(h:Blk w b o):b<w.heap.size:=(Array.getElem?_eq_some_iff.1 h).1
theorem Blk.new (w:World)(o:Obj):Blk (w.alloc o) w.heap.size o:=heap_alloc_new w o
theorem Blk.ext {w w':World}{b:Nat}{o:Obj}(h:Blk w b o)(hx:Ext w w'):Blk w' b o:=(Below.block hx b (Array.getElem?_eq_some_iff.1 h).1).trans h
theorem Blk.alloc {w:World}{b:Nat}{o:Obj}(h:Blk w b o)(o':Obj):Blk (w.alloc o') b o:=h.ext ((Ext.refl w).alloc o')
theorem Blk.drew {w:World}{b:Nat}{o:Obj}(h:Blk w b o):Blk w.drew b o:=h
theorem Blk.cells {w:World}{b:Nat}{cs:Array Value}{t:TypeId}{fz:Nat × Nat}(h:Blk w b (.cells cs t fz))(i:Nat):w.cell? ⟨b,i,none⟩=cs[i]?:=cell_of_heap h i
theorem rn_r (r:Reg)(w:World)(h1:1<=r.n)(h2:r.n<=8):Calls Try.prog 47 #[encR r] w fun e w'=>e=.returned (.int .i64 r.n)/\Ext w w':=by
 obtain⟨kind,base,loc,n,wr,rd,top⟩:=r
 simp only at h1 h2
 have hc:clamp n 8=n:=by unfold clamp within;omega
 have hx:=Lib.hid ((Ext.refl w).alloc (.cells #[.int .i64 kind,.int .i64 base,.int .i64 loc,.int .i64 n,.int .i64 wr,.int .i64 rd,.int .i64 top] 23))
 unfold encR
 go_enter Try.func47,Try.ntmps47
 go_wp2_with fail
 refine (clamp_r _ _ _).mono ?_
 rintro e w' ⟨rfl,rfl⟩
 rw [hc]
 go_wp2_with fail
 go_ret
 exact⟨rfl,hx.out⟩
def Vals (w:World) (A:Option Addr) (vals:List Value):Prop:=vals≠[]->∃ b,A=some ⟨b,0,none⟩/\b<w.heap.size/\∀ i u,vals[i]?=some u->w.cell? ⟨b,i,none⟩=some u
theorem Vals.ext {w w':World}{A:Option Addr}{vals:List Value}(h:Vals w A vals)(hx:Ext w w'):Vals w' A vals:=by
 intro hne
 obtain⟨b,rfl,hb,hc⟩:=h hne
 exact⟨b,rfl,Nat.lt_of_lt_of_le hb hx.size,fun i u hu=>(hx.cell (p:=⟨b,i,none⟩) hb).trans (hc i u hu)⟩
theorem vals_row {w:World}{B e size n:Nat}{v:Value}{xs:List Value}(h:w.ownsRow B e size v n xs):∃ A c,v=.slice A n c/\n<=c/\c<=9223372036854775807/\Vals w A xs:=by
 have h':=h
 obtain⟨hl,h2⟩:=h
 rcases h2 with⟨rfl,h0⟩ | ⟨g,cap,cur,rfl,hg,hh,hn,hm,hs,ht⟩
 · subst h0
   refine⟨none,0,rfl,Nat.le_refl _,by omega,fun hne=>absurd ?_ hne⟩
   simpa using hl
 · refine⟨_,_,rfl,hn,by unfold maxLen at hm;exact hm,fun _=>⟨g,rfl,(Array.getElem?_eq_some_iff.1 hh).1,fun i u hi=>?_⟩⟩
   have hc:=World.ownsRow.cells h' (g:=g) rfl i u hi
   rw [Addr.add_lit,Nat.zero_add] at hc
   exact hc
theorem accVals_len (l:List Acc):(accVals l).length=3*l.length:=by
 induction l with
 | nil=>rfl
 | cons a l ih=>rw [show accVals (a :: l)=[.int .i64 a.kind,.int .i64 a.cell,.int .i64 a.val]++accVals l from rfl,List.length_append,ih];simp;omega
theorem accVals_at:∀ (l:List Acc) (i:Nat) (a:Acc),l[i]?=some a->(accVals l)[3*i]?=some (.int .i64 a.kind)/\(accVals l)[3*i+1]?=some (.int .i64 a.cell)/\(accVals l)[3*i+2]?=some (.int .i64 a.val)
 | [],i,a,h=>by simp at h
 | x :: l,0,a,h=>by
   obtain rfl:x=a:=by simpa using h
   exact⟨rfl,rfl,rfl⟩
 | x :: l,i+1,a,h=>by
   have:=accVals_at l i a (by simpa using h)
   rw [show accVals (x :: l)=[.int .i64 x.kind,.int .i64 x.cell,.int .i64 x.val]++accVals l from rfl]
   refine⟨?_,?_,?_⟩
   · rw [List.getElem?_append_right (by simp;omega)];simpa [show 3*(i+1)-3=3*i by omega] using this.1
   · rw [List.getElem?_append_right (by simp;omega)];simpa [show 3*(i+1)+1-3=3*i+1 by omega] using this.2.1
   · rw [List.getElem?_append_right (by simp;omega)];simpa [show 3*(i+1)+2-3=3*i+2 by omega] using this.2.2
theorem ntVals_at:∀ (l:List Nt) (i:Nat) (a:Nt),l[i]?=some a->(ntVals l)[2*i]?=some (.int .i64 a.kind)/\(ntVals l)[2*i+1]?=some (.int .i64 a.pos)
 | [],i,a,h=>by simp at h
 | x :: l,0,a,h=>by
   obtain rfl:x=a:=by simpa using h
   exact⟨rfl,rfl⟩
 | x :: l,i+1,a,h=>by
   have:=ntVals_at l i a (by simpa using h)
   rw [show ntVals (x :: l)=[.int .i64 x.kind,.int .i64 x.pos]++ntVals l from rfl]
   refine⟨?_,?_⟩
   · rw [List.getElem?_append_right (by simp;omega)];simpa [show 2*(i+1)-2=2*i by omega] using this.1
   · rw [List.getElem?_append_right (by simp;omega)];simpa [show 2*(i+1)+1-2=2*i+1 by omega] using this.2
def AccAt (w:World) (A:Option Addr) (l:List Acc):Prop:=Vals w A (accVals l)
def NtAt (w:World) (A:Option Addr) (l:List Nt):Prop:=Vals w A (ntVals l)
theorem AccAt.at_ {w:World}{A:Option Addr}{l:List Acc}(h:AccAt w A l){i:Nat}{a:Acc}(hi:l[i]?=some a) :
  ∃ b,A=some ⟨b,0,none⟩/\b<w.heap.size/\w.cell? ⟨b,i*3,none⟩=some (.int .i64 a.kind)/\w.cell? ⟨b,i*3+1,none⟩=some (.int .i64 a.cell)/\w.cell? ⟨b,i*3+2,none⟩=some (.int .i64 a.val):=by
 obtain⟨h0,h1,h2⟩:=accVals_at l i a hi
 obtain⟨b,rfl,hb,hc⟩:=h (fun e=>by rw [e] at h0;simp at h0)
 rw [Nat.mul_comm i 3]
 exact⟨b,rfl,hb,hc _ _ h0,hc _ _ h1,hc _ _ h2⟩
theorem NtAt.at_ {w:World}{A:Option Addr}{l:List Nt}(h:NtAt w A l){i:Nat}{a:Nt}(hi:l[i]?=some a) :
  ∃ b,A=some ⟨b,0,none⟩/\b<w.heap.size/\w.cell? ⟨b,i*2,none⟩=some (.int .i64 a.kind)/\w.cell? ⟨b,i*2+1,none⟩=some (.int .i64 a.pos):=by
 obtain⟨h0,h1⟩:=ntVals_at l i a hi
 obtain⟨b,rfl,hb,hc⟩:=h (fun e=>by rw [e] at h0;simp at h0)
 rw [Nat.mul_comm i 2]
 exact⟨b,rfl,hb,hc _ _ h0,hc _ _ h1⟩
structure OutIs (w:World) (d:Bool) (S:TS) (A:Option Addr) (c:Nat) (A':Option Addr) (c':Nat) (vs:Value) (L:List Int):Prop where
 accs:AccAt w A S.acc
 nts:NtAt w A' S.nts
 locs:Ints w vs (shortL L)
 is:LocIs L S.loc
 len:L.length<=32768
 accc:S.acc.length<=c/\c<=9223372036854775807
 ntsc:S.nts.length<=c'/\c'<=9223372036854775807
 accn:A=none->c=0
def outV (d:Bool) (S:TS) (A:Option Addr) (c:Nat) (A':Option Addr) (c':Nat) (vs:Value):Value:=.agg #[.bool d,.slice A S.acc.length c,.slice A' S.nts.length c',vs]
theorem OutIs.ext {w w':World}{d:Bool}{S:TS}{A:Option Addr}{c:Nat}{A':Option Addr}{c':Nat}{vs:Value}{L:List Int}(h:OutIs w d S A c A' c' vs L)(hx:Ext w w'):OutIs w' d S A c A' c' vs L :=
 { h with accs:=Vals.ext h.accs hx,nts:=Vals.ext h.nts hx,locs:=h.locs.ext hx }
def Outs (w:World) (v:Value) (d:Bool) (S:TS):Prop:=∃ A c A' c' vs L,v=outV d S A c A' c' vs/\OutIs w d S A c A' c' vs L
theorem Outs.ext {w w':World}{v:Value}{d:Bool}{S:TS}(h:Outs w v d S)(hx:Ext w w'):Outs w' v d S:=by
 obtain⟨A,c,A',c',vs,L,rfl,h⟩:=h
 exact⟨A,c,A',c',vs,L,rfl,h.ext hx⟩
theorem row_none {w:World}{B e size n m c:Nat}{A:Option Addr}{xs:List Value}(h:w.ownsRow B e size (.slice A m c) n xs):A=none->c=0:=by
 intro hn
 subst hn
 obtain⟨_,h2⟩:=h
 rcases h2 with⟨e,_⟩ | ⟨g,cap,cur,e,_⟩
 · cases e
   rfl
 · cases e
theorem outs_of {w:World}{B:Nat}{d:Bool}{S:TS}{vC vN vs:Value}{L:List Int}(h1:w.ownsRow B 41 3 vC S.acc.length (accVals S.acc))(h2:w.ownsRow B 100 2 vN S.nts.length (ntVals S.nts))(h3:Ints w vs (shortL L))(h4:LocIs L S.loc)(h5:L.length<=32768) :
  Outs w (.agg #[.bool d,vC,vN,vs]) d S:=by
 obtain⟨A,c,rfl,q1,q2,q3⟩:=vals_row h1
 obtain⟨A',c',rfl,r1,r2,r3⟩:=vals_row h2
 exact⟨A,c,A',c',vs,L,rfl,q3,r3,h3,h4,h5,⟨q1,q2⟩,⟨r1,r2⟩,row_none h1⟩
end Go.Proofs.Ytchahoiainbcaaa
namespace Kv
inductive Prog.Asks {α:Type}:Prog α->Prop
 | read (c:Int) (k:Int->Prog α):Asks (.read c k)
 | write (c v:Int) (k:Unit->Prog α):Asks (.write c v k)
 | get (i:Int) {k:Int->Prog α}:(∀ x,Asks (k x))->Asks (.get i k)
 | set (i v:Int) {k:Unit->Prog α}:Asks (k ())->Asks (.set i v k)
 | note (m:Int) {k:Unit->Prog α}:Asks (k ())->Asks (.note m k)
theorem Prog.Asks.bind {α β:Type}{p:Prog α}(h:p.Asks)(f:α->Prog β):(p.bind f).Asks:=by
 induction h with
 | read c k=>exact .read _ _
 | write c v k=>exact .write _ _ _
 | get i _ ih=>exact .get i fun x=>ih x
 | set i v _ ih=>exact .set i v ih
 | note m _ ih=>exact .note m ih
theorem Prog.Asks.then {α β:Type}{f:α->Prog β}(h:∀ a,(f a).Asks):∀ p:Prog α,(p.bind f).Asks
 | .ret a=>h a
 | .read _ _=>.read _ _
 | .write _ _ _=>.write _ _ _
 | .get i k=>.get i fun x=>Asks.then h (k x)
 | .set i v k=>.set i v (Asks.then h (k ()))
 | .note m k=>.note m (Asks.then h (k ()))
theorem Prog.run_len {α:Type}(p:Prog α)(S:TS):S.acc.length<=(p.run S).2.acc.length:=by
 obtain⟨l,h⟩:=Prog.run_acc p S
 rw [h];simp
theorem Prog.Asks.run {α:Type}{p:Prog α}(h:p.Asks):∀ S:TS,S.acc.length<(p.run S).2.acc.length:=by
 induction h with
 | read c k =>
   intro S
   simp only [Prog.run]
   cases S.next with
   | none=>simp [TS.put]
   | some v=>have:=Prog.run_len (k v) (S.put ⟨1,c,0⟩);simp [TS.put] at this ⊢;omega
 | write c v k =>
   intro S
   simp only [Prog.run]
   cases S.next with
   | none=>simp [TS.put]
   | some _=>have:=Prog.run_len (k ()) (S.put ⟨2,c,v⟩);simp [TS.put] at this ⊢;omega
 | get i _ ih=>intro S;exact ih _ _
 | set i v _ ih=>intro S;have:=ih (S.upd i v);rw [TS.upd_acc] at this;exact this
 | note m _ ih=>intro S;exact ih (S.noted m)
def TS.left (S:TS):Nat:=S.ans.length-S.acc.length
theorem Prog.Asks.left {α:Type}{p:Prog α}(h:p.Asks){S S1:TS}{a:α}(hr:p.run S=(some a,S1))(hl:S1.acc.length<=S1.ans.length):S1.left<S.left:=by
 have h1:=Prog.run_ans p S
 have h2:=h.run S
 rw [hr] at h1 h2
 simp only at h1 h2
 unfold TS.left
 rw [<- h1];omega
def Reg.told (r:Reg) (me:Int):Prop:=r.kind=1∨(r.kind=6/\me≠r.wr)∨(r.kind=7/\2<=r.n)
structure Want where
 wr:Int
 top:Int
def topM (t:Int):Int:=if clamp t 255=0 then 1 else clamp t 255
def kindM (mode w:Int):Int:=if mode=2 then (if 0<=w then 6 else 7) else 1
def regOf (n mode b l:Int) (q:Want):Reg:=⟨kindM mode q.wr,b,l,n,q.wr,-1,topM q.top⟩
def cellsM (r:Reg):Int:=if r.kind=1 then 1 else if r.kind=6 then 16*(r.n-1)*(r.n-1) else 16*(r.n-1)*(r.n-1)*r.n
def localsM (r:Reg):Int:=if r.kind=1 then 0 else if r.kind=6 then 2+18*(r.n-1)*(r.n-1) else r.n*(2+18*(r.n-1)*(r.n-1))
def fineM (r:Reg):Bool:=decide (r.base<=32768)&&decide (r.loc<=32768)&&decide (r.base+cellsM r<=32768)&&decide (r.loc+localsM r<=32768)
theorem cells_nat (r:Reg)(h:1<=r.n/\r.n<=8):0<=cellsM r/\cellsM r<=6272/\0<=localsM r/\localsM r<=7072:=by
 obtain⟨h1,h2⟩:=h
 have:r.n=1∨r.n=2∨r.n=3∨r.n=4∨r.n=5∨r.n=6∨r.n=7∨r.n=8:=by omega
 unfold cellsM localsM
 rcases this with h | h | h | h | h | h | h | h <;> rw [h] <;> (split <;> (try split) <;> omega)
structure Laid (n mode:Int) (q:Want) (r:Reg):Prop where
 is:∃ b c,r=regOf n mode b c q/\0<=b/\0<=c
 fine:fineM r=true
theorem Laid.ok {n mode:Int}{q:Want}{r:Reg}(h:Laid n mode q r)(hn:1<=n/\n<=8)(hw:-1<=q.wr/\q.wr<n):r.ok/\r.n=n/\r.wr=q.wr:=by
 obtain⟨⟨b,c,rfl,hb,hc⟩,hf⟩:=h
 have hf2:b<=32768/\c<=32768:=by
  unfold fineM regOf at hf
  simp only [Bool.and_eq_true,decide_eq_true_eq] at hf
  omega
 refine⟨⟨?_,⟨hb,hf2.1⟩,⟨hc,hf2.2⟩,hn,fun hk=>?_⟩,rfl,rfl⟩
 · show kindM mode q.wr=1∨kindM mode q.wr=6∨kindM mode q.wr=7
   unfold kindM
   split
   · split <;> omega
   · omega
 · show 0<=q.wr/\q.wr<n
   have hk:kindM mode q.wr=6:=hk
   unfold kindM at hk
   split at hk
   · split at hk <;> omega
   · omega
end Kv
namespace Go.Proofs.Ytchahoiainbcaaa
open Go.RowKit Kv
theorem forP_cons {σ:Type}(T:Int->σ->Prog σ)(a:Int)(l:List Int)(x:σ):forP T (a :: l) x=(T a x).bind fun y=>forP T l y:=rfl
def RowX (n0 p:Nat) (w:World) (v:Value) (l:List Int):Prop:=w.ownsRow n0 3 1 v l.length (l.map (Value.int .i64))/\∀ g,v.ownBlock=some g->¬ ownR [3,4,5] w p g
section
variable {n0 B p:Nat} {w w' w1 w0:World} {o:Bool} {S:TS} {v:Value} {l:List Int}
theorem RowX.nil (n0 p:Nat)(w:World):RowX n0 p w (.slice none 0 0) []:=⟨World.ownsRow_nil _ _ _ _,fun g h=>by simp [Value.ownBlock] at h⟩
theorem RowX.keep (h:RowX n0 p w v l)(k:KeepR B p w w'):RowX n0 p w' v l:=by
 obtain⟨⟨h1,h2⟩,h3⟩:=h
 rcases h2 with h2 | ⟨g,cap,cur,rfl,hg,hh,r1,r2,r3,r4⟩
 · exact⟨⟨h1,.inl h2⟩,fun g e=>by rw [h2.1] at e;simp [Value.ownBlock] at e⟩
 · obtain⟨k1,k2⟩:=k.rest g (Array.getElem?_eq_some_iff.1 hh).1 (h3 g rfl)
   exact⟨⟨h1,.inr ⟨g,cap,cur,rfl,hg,k1.trans hh,r1,r2,r3,r4⟩⟩,fun b e=>by simp only [Value.ownBlock,Option.some.injEq] at e;subst e;exact k2⟩
end
end Go.Proofs.Ytchahoiainbcaaa
namespace Kv
open Go Go.RowKit
end Kv
namespace Go.Proofs.Ytchahoiainbcaaa
open Go.RowKit Kv
def regVals (r:Reg):List Value:=[.int .i64 r.kind,.int .i64 r.base,.int .i64 r.loc,.int .i64 r.n,.int .i64 r.wr,.int .i64 r.rd,.int .i64 r.top]
structure RegsAt (ix:List Nat) (w:World) (p b:Nat) (l:List Reg):Prop where
 lt:b<w.heap.size
 own:¬ ownR ix w p b
 cells:∀ j u,(l.flatMap regVals)[j]?=some u->w.cell? ⟨b,j,none⟩=some u
theorem RegsAt.keep {ix:List Nat}{B p b:Nat}{w w':World}{l:List Reg}(h:RegsAt ix w p b l)(k:Keep ix B p w w'):RegsAt ix w' p b l:=by
 obtain⟨h1,h2⟩:=k.rest b h.lt h.own
 exact⟨Nat.lt_of_lt_of_le h.lt k.size,h2,fun j u hu=>(World.cell?_of_block (w:=w) (a:=⟨b,j,none⟩) h1).trans (h.cells j u hu)⟩
theorem RegsAt.two {ix:List Nat}{p b:Nat}{w:World}{x y:Reg}(h:RegsAt ix w p b [x,y]) :
  (w.cell? ⟨b,0,none⟩=some (.int .i64 x.kind)/\w.cell? ⟨b,1,none⟩=some (.int .i64 x.base)/\w.cell? ⟨b,2,none⟩=some (.int .i64 x.loc)/\w.cell? ⟨b,3,none⟩=some (.int .i64 x.n)/\w.cell? ⟨b,4,none⟩=some (.int .i64 x.wr)/\w.cell? ⟨b,5,none⟩=some (.int .i64 x.rd)/\w.cell? ⟨b,6,none⟩=some (.int .i64 x.top)) /\
    (w.cell? ⟨b,7,none⟩=some (.int .i64 y.kind)/\w.cell? ⟨b,8,none⟩=some (.int .i64 y.base)/\w.cell? ⟨b,9,none⟩=some (.int .i64 y.loc)/\w.cell? ⟨b,10,none⟩=some (.int .i64 y.n)/\w.cell? ⟨b,11,none⟩=some (.int .i64 y.wr)/\w.cell? ⟨b,12,none⟩=some (.int .i64 y.rd)/\w.cell? ⟨b,13,none⟩=some (.int .i64 y.top)) :=
 ⟨⟨h.cells 0 _ rfl,h.cells 1 _ rfl,h.cells 2 _ rfl,h.cells 3 _ rfl,h.cells 4 _ rfl,h.cells 5 _ rfl,h.cells 6 _ rfl⟩,⟨h.cells 7 _ rfl,h.cells 8 _ rfl,h.cells 9 _ rfl,h.cells 10 _ rfl,h.cells 11 _ rfl,h.cells 12 _ rfl,h.cells 13 _ rfl⟩⟩
theorem eqIn_acc (a b c a' b' c':Int)(w:World):(Op.equalIn 10000 41 (.agg #[.int .i64 a,.int .i64 b,.int .i64 c]) (.agg #[.int .i64 a',.int .i64 b',.int .i64 c'])).run Try.prog w=.ok (decide (a=a'/\b=b'/\c=c')) w:=by
 rw [run_equalIn_struct w 9999 41 _ _ (by kernel_rfl) (by kernel_rfl)]
 have hu:Try.prog.underlying 3=some (.int .i64):=Try.underlying3
 simp only [Program.fieldsOf,Try.underlying41,Op.eqFields]
 simp [go_sem,run_equalIn_int,hu]
 by_cases h0:a=a' <;> by_cases h1:b=b' <;> by_cases h2:c=c' <;> simp [h0,h1,h2]
@[go_sem] theorem eql_acc (a b c a' b' c':Int) (w:World):(binOp .eql 41 (.agg #[.int .i64 a,.int .i64 b,.int .i64 c]) (.agg #[.int .i64 a',.int .i64 b',.int .i64 c'])).run Try.prog w=.ok (.bool (decide (a=a'/\b=b'/\c=c'))) w:=by
 rw [run_eql_struct,eqIn_acc];rfl
@[go_sem] theorem neq_acc (a b c a' b' c':Int) (w:World):(binOp .neq 41 (.agg #[.int .i64 a,.int .i64 b,.int .i64 c]) (.agg #[.int .i64 a',.int .i64 b',.int .i64 c'])).run Try.prog w=.ok (.bool (!decide (a=a'/\b=b'/\c=c'))) w:=by
 rw [run_neq_struct,eqIn_acc];rfl
theorem eqIn_nt (a b a' b':Int)(w:World):(Op.equalIn 10000 100 (.agg #[.int .i64 a,.int .i64 b]) (.agg #[.int .i64 a',.int .i64 b'])).run Try.prog w=.ok (decide (a=a'/\b=b')) w:=by
 rw [run_equalIn_struct w 9999 100 _ _ (by kernel_rfl) (by kernel_rfl)]
 have hu:Try.prog.underlying 3=some (.int .i64):=Try.underlying3
 simp only [Program.fieldsOf,Try.underlying100,Op.eqFields]
 simp [go_sem,run_equalIn_int,hu]
 by_cases h0:a=a' <;> by_cases h1:b=b' <;> simp [h0,h1]
@[go_sem] theorem eql_nt (a b a' b':Int) (w:World):(binOp .eql 100 (.agg #[.int .i64 a,.int .i64 b]) (.agg #[.int .i64 a',.int .i64 b'])).run Try.prog w=.ok (.bool (decide (a=a'/\b=b'))) w:=by
 rw [run_eql_struct,eqIn_nt];rfl
@[go_sem] theorem neq_nt (a b a' b':Int) (w:World):(binOp .neq 100 (.agg #[.int .i64 a,.int .i64 b]) (.agg #[.int .i64 a',.int .i64 b'])).run Try.prog w=.ok (.bool (!decide (a=a'/\b=b'))) w:=by
 rw [run_neq_struct,eqIn_nt];rfl
end Go.Proofs.Ytchahoiainbcaaa
