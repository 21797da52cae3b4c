/-
  BoundTellsSaid: part 2 of its proof.
-/
import Derived.Test.YtponihangpiooaaGreatJBoundTellsSaid1
import Derived.Defers
import Derived.Recover
import Derived.LaidEqlPtr
import Derived.Deep.RegionHeld3
import Derived.Deep.QuietTactic
import Derived.BigQuiet
import Derived.ProofKit
import Derived.OpenShut
import Derived.Deep.DeepHandedRow
import Derived.WideKeyArgs
import Derived.Carry
import Derived.ChangeSame
import Derived.Lib.SmallJoins
import Derived.Test.YtponihangpiooaaGreatRows
import Derived.Deep.DeepCutAuto
import Derived.Laws.EntriesVeiled
import Derived.Deep.CutBlock
namespace Go.Proofs.YtponihangpiooaaGreat
open Go.RowKit Kv
structure Near (W:World) (b n:Nat) (t:TypeId) (w:World):Prop where
 os:w.os=W.os
 tape:w.tape=W.tape
 output:w.output=W.output
 size:W.heap.size<=w.heap.size
 rest:∀ k,k<W.heap.size->k≠b->w.heap[k]?=W.heap[k]?
 blk:∃ cs,w.heap[b]?=some (.cells cs t (0,0))/\cs.size=n
section
variable {W w w':World} {b n:Nat} {t:TypeId}
theorem Near.new {cs:Array Value}(h:W.heap[b]?=some (.cells cs t (0,0)))(hn:cs.size=n):Near W b n t W:=⟨rfl,rfl,rfl,Nat.le_refl _,fun _ _ _=>rfl,cs,h,hn⟩
theorem Near.ext (h:Near W b n t w)(hx:Ext w w'):Near W b n t w':=by
 obtain⟨cs,h1,h2⟩:=h.blk
 exact⟨hx.os.trans h.os,hx.tape.trans h.tape,hx.output.trans h.output,Nat.le_trans h.size hx.size,fun k hk hb=>(Below.block hx k (Nat.lt_of_lt_of_le hk h.size)).trans (h.rest k hk hb),cs,(Below.block hx b (Array.getElem?_eq_some_iff.1 h1).1).trans h1,h2⟩
theorem Near.drew (h:Near W b n t w):Near W b n t w.drew:=h.ext (Ext.refl w).drew
theorem Near.set (h:Near W b n t w)(i:Nat)(u:Value):Near W b n t (w.setCell ⟨b,i,none⟩ u):=by
 obtain⟨cs,h1,h2⟩:=h.blk
 refine⟨h.os,h.tape,h.output,by have:=h.size;simpa using this,fun k hk hb=>(heap_setCell_ne _ _ hb).trans (h.rest k hk hb),_,heap_setCell h1 u,by simpa using h2⟩
theorem Near.cell (h:Near W b n t w){k i:Nat}(hk:k<W.heap.size)(hb:k≠b):w.cell? ⟨k,i,none⟩=W.cell? ⟨k,i,none⟩:=World.cell?_of_block (w:=W) (a:=⟨k,i,none⟩) (h.rest k hk hb)
theorem Near.frozen (h:Near W b n t w)(i:Nat):w.frozen? ⟨b,i,none⟩=false:=by
 obtain⟨cs,h1,h2⟩:=h.blk
 exact frozen_of_heap h1 i
theorem Near.below {B:Nat}{w0:World}(h:Near W b n t w)(h0:Below B w0 W)(hb:B<=b)(hB:B<=W.heap.size):Below B w0 w :=
 h0.trans ⟨h.os,h.tape,h.output,h.size,fun k hk=>h.rest k (by omega) (by omega)⟩
end
@[go_sem] theorem build_out (x:Bool) (A1 A2 A3:Option Addr) (n1 n2 n3 c1 c2 c3:Nat) (w:World):(Instr.build 76 #[(0,.bool x),(1,.slice A1 n1 c1),(2,.slice A2 n2 c2),(3,.slice A3 n3 c3)]).run Tryz.prog w=.ok (.agg #[.bool x,.slice A1 n1 c1,.slice A2 n2 c2,.slice A3 n3 c3]) w:=run_build w 76 _ _ (by kernel_rfl)
@[go_sem] theorem as_stop (v:Value) (w:World):(Instr.typeAssert (.iface 152 v) 20 152 true).run Tryz.prog w=.ok (.tuple #[v,.bool true]) w:=by kernel_rfl
@[go_sem] theorem ne_mem (a:Addr) (w:World):(binOp .neq 32 (.pointer (some a)) (.pointer (some a))).run Tryz.prog w=.ok (.bool false) w:=by
 have hs:(Tryz.prog.info? 149).isSome=true:=by kernel_rfl
 obtain⟨j,hj⟩:=Option.isSome_iff_exists.1 hs
 have h:∀ d:Nat,(Op.equalIn (d+1) 32 (.pointer (some a)) (.pointer (some a))).run Tryz.prog w=.ok true w:=fun d=>by
  simp [Op.equalIn,run_underlying Tryz.underlying32,sizeOf,typeInfo,hj,run_sameAddr_same]
 simp only [binOp]
 simp [Op.equal,Op.maxDepth,h 9999]
section
variable {B p b bo:Nat} {w w' W:World} {S:TS} {st:Int} {vA vL vC vN vs:Value} {L:List Int}
end
theorem row_base {w:World}{B B' e size n:Nat}{v:Value}{xs:List Value}(h:w.ownsRow B' e size v n xs)(hB:B<=B'):w.ownsRow B e size v n xs:=by
 obtain⟨h1,h2⟩:=h
 rcases h2 with h2 | ⟨g,cap,cur,rfl,hg,r⟩
 · exact⟨h1,.inl h2⟩
 · exact⟨h1,.inr ⟨g,cap,cur,rfl,Nat.le_trans hB hg,r⟩⟩
structure SameW (w w':World):Prop where
 os:w'.os=w.os
 tape:w'.tape=w.tape
 output:w'.output=w.output
 size:w'.heap.size=w.heap.size
 blocks:∀ k:Nat,w'.heap[k]?=w.heap[k]?
theorem SameW.drew (w:World):SameW w w.drew:=⟨rfl,rfl,rfl,rfl,fun _=>rfl⟩
theorem SameW.refl (w:World):SameW w w:=⟨rfl,rfl,rfl,rfl,fun _=>rfl⟩
theorem SameW.ext {w w':World}(h:SameW w w'):Ext w w':=⟨h.os,h.tape,h.output,Nat.le_of_eq h.size.symm,fun k _=>h.blocks k⟩
theorem SameW.set {w w':World}{b:Nat}{cs:Array Value}{t:TypeId}(h:SameW w w')(g:w.heap[b]?=some (.cells cs t (0,0))){i:Nat}{v:Value}(hv:cs[i]?=some v):SameW w (w'.setCell ⟨b,i,none⟩ v):=by
 refine⟨h.os,h.tape,h.output,by rw [<- h.size];simp,fun k=>?_⟩
 by_cases e:k=b
 · subst e
   rw [heap_setCell ((h.blocks k).trans g) v,g]
   congr 2
   apply Array.ext_getElem?
   intro j
   rw [Array.getElem?_setIfInBounds]
   split
   · rename_i e
     subst e
     rw [hv]
     split
     · rfl
     · rename_i h2
       rw [Array.getElem?_eq_none (by omega)] at hv
       cases hv
   · rfl
 · rw [heap_setCell_ne _ _ e]
   exact h.blocks k
end Go.Proofs.YtponihangpiooaaGreat
namespace Go.Proofs.YtponihangpiooaaGreat
open Go.RowKit Go.WideShapes Go.ChangeShapes
section
variable {H:Type} {enc:TypeId × Value->H} {P:Program}
theorem post_of_below {f:Func}{s:ChangeSpec}{apart fresh handsOn again:Bool}{W W':World}{args:Array Value}{v:Value}{ds gs:List (DataW H)}{before pa pv:List MemPlace}
  (hW:DataW.Whole enc P f.params.toList s.vars apart W args.toList ds gs before)
  (hres:∀ (b:Nat) (sp:Nat->Bool) (hd:Bool),DataW.TrodAll enc P W' b sp hd f.resultTypes.toList (v.resultList f.resultTypes.size) (s.fn H (ds++gs)).results [])
  (hargs:∀ sp:Nat->Bool,(∀ p∈before,sp p.block=true)->DataW.TrodAll enc P W' 0 sp true f.params.toList args.toList (s.fn H (ds++gs)).args pa)
  (hvars:∀ sp:Nat->Bool,(∀ p∈before,sp p.block=true)->DataW.TrodVars enc P W' sp s.vars (s.fn H (ds++gs)).vars pv)
  (hps:before=pa++pv)(hb:Below W.heap.size W W')
  (hok:∀ (j:Nat) (t:TypeId) (r:Value),f.resultTypes[j]?=some t->(v.resultList f.resultTypes.size)[j]?=some r->Value.okWide P W' .any 0 t r) :
  s.post enc P f apart fresh handsOn again W args v W':=by
 have hlt:∀ p∈before,p.block<W.heap.size:=fun p hp=>hW.lt p hp
 have hold:∀ p∈before,(fun b=>decide (b<W.heap.size)) p.block=true:=fun p hp=>by simpa using hlt p hp
 refine⟨ds,gs,before,[],pa,pv,hW,hres _ _ _,hargs _ hold,hvars _ hold,World.keptBut_mono (fun p hp=>⟨hp,?_⟩) (hb.frame (·∈before)),fun _=>?_⟩
 · rw [hps,List.mem_append] at hp
   exact Or.inr hp
 · obtain⟨_,_,_,_,_,hz,hn⟩:=hW
   refine⟨hok,_,_,([]++pa)++pv,⟨[]++pa,pv,trodAll_append (hargs _ (fun _ _=>rfl)) (hres _ _ _),hvars _ (fun _ _=>rfl),rfl,?_,?_⟩,?_⟩
   · intro b off hp
     have hin:MemPlace.cell b off∈before:=by rw [hps];simpa using hp
     rw [hb.frozen (hlt _ hin)]
     exact hz b off hin
   · intro ha
     have:=hn ha
     rw [hps] at this
     simpa using this
   · intro p hp _
     rw [hps]
     simpa using hp
end
section
variable {H:Type} {enc:TypeId × Value->H} {P:Program}
theorem trodAll_stays (hl:laidOutB P=true):∀ (ts:List TypeId),(∀ t∈ts,P.readableRec t=true/\t<P.types.size)->∀ {W W':World} {sp:Nat->Bool} {vs:List Value} {ds:List (DataW H)} {ps:List MemPlace},
  DataW.TrodAll enc P W 0 (fun _=>true) true ts vs ds ps->(∀ p∈ps,W.sameAt W' p)->(∀ p∈ps,sp p.block=true)->DataW.TrodAll enc P W' 0 sp true ts vs ds ps
 | [],_,W,W',sp,vs,ds,ps,h,_,_=>by
   cases vs <;> cases ds <;> simp_all [DataW.TrodAll]
 | t :: ts,ht,W,W',sp,vs,ds,ps,h,hs,hsp=>by
   obtain⟨v,vs',d,ds',p,q,rfl,rfl,rfl,hp,hq⟩:=trodAll_cons h
   have h1:=ht t (by simp)
   refine trodAll_cons_mk (WideElems.Trod_stays hl h1.1 h1.2 hp (fun x hx=>hs x (by simp [hx])) (fun x hx=>hsp x (by simp [hx]))) ?_
   exact trodAll_stays hl ts (fun t' h'=>ht t' (by simp [h'])) hq (fun x hx=>hs x (by simp [hx])) (fun x hx=>hsp x (by simp [hx]))
theorem trodAll_length:∀ (ts:List TypeId) {W:World} {b:Nat} {sp:Nat->Bool} {held:Bool} {vs:List Value} {ds:List (DataW H)} {ps:List MemPlace},DataW.TrodAll enc P W b sp held ts vs ds ps->ds.length=ts.length
 | [],W,b,sp,held,vs,ds,ps,h=>by cases vs <;> cases ds <;> simp_all [DataW.TrodAll]
 | t :: ts,W,b,sp,held,vs,ds,ps,h=>by
   obtain⟨v,vs',d,ds',p,q,rfl,rfl,rfl,hp,hq⟩:=trodAll_cons h
   simp [trodAll_length ts hq]
theorem law_post {f:Func}{s:ChangeSpec}{W W':World}{args:Array Value}{ds gs:List (DataW H)}{before:List MemPlace}{tb:TypeId}
  (hl:laidOutB P=true)(hr:∀ t∈f.params.toList,P.readableRec t=true/\t<P.types.size)(hres:f.resultTypes=#[tb])(htb:P.underlying tb=some .bool)
  (hvars:s.vars=[])(hspec:∀ ds:List (DataW H),ds.length=f.params.size->s.fn H ds={ results:=[.lit (.bool true)],args:=ds })
  (hW:DataW.Whole enc P f.params.toList s.vars false W args.toList ds gs before)(hx:Ext W W') :
  s.post enc P f false true false false W args (.bool true) W':=by
 have hWlt:∀ p∈before,p.block<W.heap.size:=fun p hp=>hW.lt p hp
 obtain⟨p,q,hA,hV,hpq,hfz,hnd⟩:=hW
 rw [hvars] at hV
 have hgs:gs=[]/\q=[]:=trodVars_none hV
 obtain⟨rfl,rfl⟩:=hgs
 have hlen:=trodAll_length _ hA
 have hsp:=hspec ds (by rw [hlen];simp)
 have hb:before=p:=by rw [hpq];simp
 subst hb
 have hn:f.resultTypes.size=1:=by rw [hres];rfl
 have hlo:(Value.bool true).resultList f.resultTypes.size=[Value.bool true]:=by rw [hn];rfl
 have e0:ds++([]:List (DataW H))=ds:=List.append_nil _
 refine post_of_below (pa:=before) (pv:=[]) (ds:=ds) (gs:=[]) ⟨before,[],hA,by rw [hvars];exact hV,hpq,hfz,hnd⟩ ?_ ?_ ?_ hpq hx ?_
 · intro b sp hd
   rw [e0,hsp,hlo,hres]
   exact trodAll_cons_mk (shut_bool htb _) trodAll_mk0
 · intro sp hsp'
   rw [e0,hsp]
   exact trodAll_stays hl _ hr hA (fun p hp=>Below.same hx (hWlt p hp)) hsp'
 · intro sp _
   rw [e0,hsp,hvars]
   rfl
 · intro j t r ht hr'
   rw [hres] at ht
   rw [hlo] at hr'
   cases j with
   | zero =>
     obtain rfl:tb=t:=by simpa using ht
     obtain rfl:Value.bool true=r:=by simpa using hr'
     exact okWide_bool_mk htb _
   | succ j=>simp at ht
end
end Go.Proofs.YtponihangpiooaaGreat
namespace Go.Proofs.YtponihangpiooaaGreat
open Go.ChangeShapes Go.WideShapes Go.ChangeAt Go.RowKit Kv
theorem cell_lt {w:World}{a:Addr}{v:Value}(h:w.cell? a=some v):a.block<w.heap.size:=by
 rcases Nat.lt_or_ge a.block w.heap.size with hlt | hge
 · exact hlt
 · simp [World.cell?,Array.getElem?_eq_none hge] at h
end Go.Proofs.YtponihangpiooaaGreat
namespace Go.Proofs.YtponihangpiooaaGreat
theorem own:ownKnob Tryz.prog.godebug=none:=by kernel_rfl
end Go.Proofs.YtponihangpiooaaGreat
namespace Go.Proofs.YtponihangpiooaaGreat
open Go.RowKit Kv
def rb:Reg:=⟨1,4,2,3,-1,-1,1⟩
theorem kwants_p (w:World):Calls Tryz.prog 270 #[] w fun e w'=>∃ v,e=.returned v/\WantsAt w' v (List.replicate 4 ⟨-1,1⟩)/\Ext w w':=by
 go_enter Tryz.func270,Tryz.ntmps270
 go_wp2_with fail
 go_loopw [1,2] (fun v i wr=>∃ j:Nat,i=.int .i64 j/\j<=4/\wr.ownsRow w.heap.size 228 2 v j ((List.replicate j (⟨-1,1⟩:Want)).flatMap wantVals)/\Ext w wr) (fun _ i _=>4-(intOf i).toNat)
 case atStart=>exact⟨0,rfl,by omega,World.ownsRow_nil _ _ _ _,Ext.refl _⟩
 case round =>
  obtain⟨j,rfl,hj,hown,hE⟩:=hrel
  by_cases hl:j<4
  · go_wp2_with (at_builtin;refine append_rec info_want Tryz.underlying183 rfl (by decide) (by decide) rfl _ _ rfl _ j _ [.int .i64 (-1),.int .i64 1] hE hown rfl rfl rfl (by simp [Value.oneCell']) (by omega) ?_)
    intro v' w' ho hx _
    have hoh:=Lib.hid ho
    clear hown ho
    go_wp2_with fail
    refine⟨⟨j+1,by go_num,by omega,?_,hx⟩,?_⟩
    · rw [List.replicate_succ',List.flatMap_append];exact hoh.out
    · simp [intOf];omega
  · obtain rfl:j=4:=by omega
    have hownh:=Lib.hid hown
    clear hown
    go_wp2_with fail
    go_ret
    exact⟨_,rfl,Recs.of_row hownh.out,hE⟩
end Go.Proofs.YtponihangpiooaaGreat
namespace Kv
theorem lev_le {m:Nat}(h:m<=64):levels m<=6:=by
 have:∀ m:Nat,m<65->levels m<=6:=by decide +kernel
 exact this m (by omega)
theorem pow_le {k:Nat}(h:k<=6):1<=2 ^ k/\2 ^ k<=64:=by
 have:∀ k:Nat,k<7->1<=2 ^ k/\2 ^ k<=64:=by decide
 exact this k (by omega)
end Kv
namespace Go.Proofs.YtponihangpiooaaGreat
open Go.RowKit Kv
def fnV (n:Nat):Value:=.func (.func n) #[] #[]
def eachK (kind:Int):Nat:=if kind=7 then 4 else 3
def nodeV (kind:Int):Value:=if kind=7 then .agg #[fnV 270,fnV 271,fnV 272] else .agg #[fnV 273,fnV 274,fnV 275]
set_option maxRecDepth 100000 in
theorem nodeOf_p (kind:Int)(w:World):Calls Tryz.prog 191 #[.int .i64 kind] w fun e w'=>e=.returned (nodeV kind)/\Ext w w':=by
 unfold nodeV
 by_cases h:kind=7
 · have d:(kind==7)=true:=by simpa using h
   rw [if_pos h]
   clear h
   go_enter Tryz.func191,Tryz.ntmps191
   go_wp2_with fail
   refine bodyPost_ret (v:=.agg #[fnV 270,fnV 271,fnV 272]) (by simp [results,Tryz.results191,go_sem,fnV]) rfl ?_
   exact⟨rfl,(Ext.refl w).alloc _⟩
 · have d:(kind==7)=false:=by simpa using h
   rw [if_neg h]
   clear h
   go_enter Tryz.func191,Tryz.ntmps191
   go_wp2_with fail
   refine bodyPost_ret (v:=.agg #[fnV 273,fnV 274,fnV 275]) (by simp [results,Tryz.results191,go_sem,fnV]) rfl ?_
   exact⟨rfl,(Ext.refl w).alloc _⟩
set_option maxRecDepth 100000 in
set_option maxHeartbeats 1000000 in
theorem twants_p7 (kind:Int)(m:Nat)(w:World)(h1:1<=m)(h2:m<=64)(hk:kind=7) :
  Calls Tryz.prog 121 #[.int .i64 kind,.int .i64 m] w fun e w'=>∃ v,e=.returned v/\WantsAt w' v (List.replicate (4*(2 ^ levels m-1)) ⟨-1,1⟩)/\Ext w w':=by
 have hlv:=fun w=>levels_p m (by omega) w
 have hle:=lev_le h2
 generalize levels m=L at *
 obtain⟨p1,p2⟩:=pow_le hle
 have hPi:(2:Int) ^ L=((2 ^ L:Nat):Int):=by rw [Int.natCast_pow];rfl
 generalize 2 ^ L=P at *
 have hsh:Op.shift .shl .i64 1 .i64 (L:Int)=pure (.int .i64 (P:Int)):=by
  rw [Go.shift_shl_i64 (x:=1) (y:=(L:Int)) (yk:=.i64) (by omega) (by omega),Int.one_mul,Int.toNat_natCast,hPi,IntWalk.i64_in _ (by omega)]
 clear hPi hle
 obtain⟨M,rfl⟩:∃ M,P=M+1:=⟨P-1,by omega⟩
 have hw:IntKind.i64.wrap (((M+1:Nat):Int)-1)=(M:Int):=by rw [IntWalk.i64_in _ (by omega)];omega
 rw [Nat.add_sub_cancel]
 generalize hQ:M+1=Q at *
 have hM:M<=63:=by omega
 have d1:decide ((m:Int)<1)=false:=by rw [decide_eq_false_iff_not];omega
 have d2:decide ((64:Int)<(m:Int))=false:=by rw [decide_eq_false_iff_not];omega
 have hn:nodeV kind=.agg #[.func (.func 270) #[] #[],.func (.func 271) #[] #[],.func (.func 272) #[] #[]]:=by unfold nodeV;rw [if_pos hk];rfl
 have hN:=fun w=>nodeOf_p kind w
 rw [hn] at hN
 have hfd:∀ w,(Instr.field 244 (.agg #[.func (.func 270) #[] #[],.func (.func 271) #[] #[],.func (.func 272) #[] #[]]) 0).run Tryz.prog w=.ok (.func (.func 270) #[] #[]) w:=fun w=>by kernel_rfl
 clear hn hk
 go_enter Tryz.func121,Tryz.ntmps121
 go_wp2_with fail
 refine (hlv _).mono ?_
 rintro e w' ⟨rfl,rfl⟩
 clear hlv
 go_wp2_with fail
 go_loopw [5,16] (fun v i wr=>∃ j:Nat,i=.int .i64 j/\j<=M/\wr.ownsRow w.heap.size 228 2 v (4*j) ((List.replicate (4*j) (⟨-1,1⟩:Want)).flatMap wantVals)/\Ext w wr) (fun _ i _=>M-(intOf i).toNat)
 case atStart=>exact⟨0,rfl,by omega,World.ownsRow_nil _ _ _ _,Ext.refl _⟩
 case round =>
  obtain⟨j,rfl,hj,hown,hX⟩:=hrel
  by_cases hl:j<M
  · go_wp2_with fail
    refine (hN _).mono ?_
    rintro e w2 ⟨rfl,hx2⟩
    replace hown:=row_ext hown hx2
    replace hX:=hX.trans hx2
    clear hx2
    go_wp2_with fail
    refine (kwants_p _).mono ?_
    rintro e w3 ⟨v2,rfl,hr2,hx3⟩
    replace hown:=row_ext hown hx3
    replace hX:=hX.trans hx3
    obtain⟨A,c,rfl,r1,r2,hV⟩:=hr2
    obtain⟨b,rfl,hb,hc⟩:=hV (by simp [wantVals,List.replicate])
    rw [List.length_replicate] at *
    clear hV hx3
    go_wp2_with (at_builtin;refine append_recs info_want Tryz.underlying183 rfl (by decide) (by decide) rfl _ _ rfl _ (4*j) _ ((List.replicate 4 (⟨-1,1⟩:Want)).flatMap wantVals) ⟨b,0,none⟩ 4 c hX hown rfl rfl rfl (fun i u hu=>by rw [Addr.add_lit,Nat.zero_add];exact hc i u hu) (fun u hu=>by simp [List.replicate,wantVals] at hu;rcases hu with rfl | rfl | rfl | rfl | rfl | rfl | rfl | rfl <;> rfl) (by omega) (by omega) ?_)
    intro v' w' ho hx'
    have hoh:Hid (w'.ownsRow w.heap.size 228 2 v' (4*(j+1)) ((List.replicate (4*(j+1)) (⟨-1,1⟩:Want)).flatMap wantVals)):=Lib.hid (by
     rw [Nat.mul_succ,<- List.replicate_append_replicate,List.flatMap_append];exact ho)
    clear hown ho hc
    go_wp2_with fail
    refine⟨⟨j+1,by go_num,by omega,hoh.out,hx'⟩,?_⟩
    simp [intOf];omega
  · obtain rfl:j=M:=by omega
    have hownh:=Lib.hid hown
    clear hown
    go_wp2_with fail
    go_ret
    exact⟨_,rfl,by have:=Recs.of_row hownh.out;unfold WantsAt;rw [List.length_replicate];exact this,hX⟩
set_option maxRecDepth 100000 in
set_option maxHeartbeats 1000000 in
theorem twants_p3 (kind:Int)(m:Nat)(w:World)(h1:1<=m)(h2:m<=64)(hk:kind≠7) :
  Calls Tryz.prog 121 #[.int .i64 kind,.int .i64 m] w fun e w'=>∃ v,e=.returned v/\WantsAt w' v (List.replicate (3*(2 ^ levels m-1)) ⟨-1,1⟩)/\Ext w w':=by
 have hlv:=fun w=>levels_p m (by omega) w
 have hle:=lev_le h2
 generalize levels m=L at *
 obtain⟨p1,p2⟩:=pow_le hle
 have hPi:(2:Int) ^ L=((2 ^ L:Nat):Int):=by rw [Int.natCast_pow];rfl
 generalize 2 ^ L=P at *
 have hsh:Op.shift .shl .i64 1 .i64 (L:Int)=pure (.int .i64 (P:Int)):=by
  rw [Go.shift_shl_i64 (x:=1) (y:=(L:Int)) (yk:=.i64) (by omega) (by omega),Int.one_mul,Int.toNat_natCast,hPi,IntWalk.i64_in _ (by omega)]
 clear hPi hle
 obtain⟨M,rfl⟩:∃ M,P=M+1:=⟨P-1,by omega⟩
 have hw:IntKind.i64.wrap (((M+1:Nat):Int)-1)=(M:Int):=by rw [IntWalk.i64_in _ (by omega)];omega
 rw [Nat.add_sub_cancel]
 generalize hQ:M+1=Q at *
 have hM:M<=63:=by omega
 have d1:decide ((m:Int)<1)=false:=by rw [decide_eq_false_iff_not];omega
 have d2:decide ((64:Int)<(m:Int))=false:=by rw [decide_eq_false_iff_not];omega
 have hn:nodeV kind=.agg #[.func (.func 273) #[] #[],.func (.func 274) #[] #[],.func (.func 275) #[] #[]]:=by unfold nodeV;rw [if_neg hk];rfl
 have hN:=fun w=>nodeOf_p kind w
 rw [hn] at hN
 have hfd:∀ w,(Instr.field 244 (.agg #[.func (.func 273) #[] #[],.func (.func 274) #[] #[],.func (.func 275) #[] #[]]) 0).run Tryz.prog w=.ok (.func (.func 273) #[] #[]) w:=fun w=>by kernel_rfl
 clear hn hk
 go_enter Tryz.func121,Tryz.ntmps121
 go_wp2_with fail
 refine (hlv _).mono ?_
 rintro e w' ⟨rfl,rfl⟩
 clear hlv
 go_wp2_with fail
 go_loopw [5,16] (fun v i wr=>∃ j:Nat,i=.int .i64 j/\j<=M/\wr.ownsRow w.heap.size 228 2 v (3*j) ((List.replicate (3*j) (⟨-1,1⟩:Want)).flatMap wantVals)/\Ext w wr) (fun _ i _=>M-(intOf i).toNat)
 case atStart=>exact⟨0,rfl,by omega,World.ownsRow_nil _ _ _ _,Ext.refl _⟩
 case round =>
  obtain⟨j,rfl,hj,hown,hX⟩:=hrel
  by_cases hl:j<M
  · go_wp2_with fail
    refine (hN _).mono ?_
    rintro e w2 ⟨rfl,hx2⟩
    replace hown:=row_ext hown hx2
    replace hX:=hX.trans hx2
    clear hx2
    go_wp2_with fail
    refine (awants_p _).mono ?_
    rintro e w3 ⟨v2,rfl,hr2,hx3⟩
    replace hown:=row_ext hown hx3
    replace hX:=hX.trans hx3
    obtain⟨A,c,rfl,r1,r2,hV⟩:=hr2
    obtain⟨b,rfl,hb,hc⟩:=hV (by simp [wantVals,List.replicate])
    rw [List.length_replicate] at *
    clear hV hx3
    go_wp2_with (at_builtin;refine append_recs info_want Tryz.underlying183 rfl (by decide) (by decide) rfl _ _ rfl _ (3*j) _ ((List.replicate 3 (⟨-1,1⟩:Want)).flatMap wantVals) ⟨b,0,none⟩ 3 c hX hown rfl rfl rfl (fun i u hu=>by rw [Addr.add_lit,Nat.zero_add];exact hc i u hu) (fun u hu=>by simp [List.replicate,wantVals] at hu;rcases hu with rfl | rfl | rfl | rfl | rfl | rfl | rfl | rfl <;> rfl) (by omega) (by omega) ?_)
    intro v' w' ho hx'
    have hoh:Hid (w'.ownsRow w.heap.size 228 2 v' (3*(j+1)) ((List.replicate (3*(j+1)) (⟨-1,1⟩:Want)).flatMap wantVals)):=Lib.hid (by
     rw [Nat.mul_succ,<- List.replicate_append_replicate,List.flatMap_append];exact ho)
    clear hown ho hc
    go_wp2_with fail
    refine⟨⟨j+1,by go_num,by omega,hoh.out,hx'⟩,?_⟩
    simp [intOf];omega
  · obtain rfl:j=M:=by omega
    have hownh:=Lib.hid hown
    clear hown
    go_wp2_with fail
    go_ret
    exact⟨_,rfl,by have:=Recs.of_row hownh.out;unfold WantsAt;rw [List.length_replicate];exact this,hX⟩
theorem twants_p (kind:Int)(m:Nat)(w:World)(h1:1<=m)(h2:m<=64) :
  Calls Tryz.prog 121 #[.int .i64 kind,.int .i64 m] w fun e w'=>∃ v,e=.returned v/\WantsAt w' v (List.replicate (eachK kind*(2 ^ levels m-1)) ⟨-1,1⟩)/\Ext w w':=by
 unfold eachK
 by_cases hk:kind=7
 · rw [if_pos hk];exact twants_p7 kind m w h1 h2 hk
 · rw [if_neg hk];exact twants_p3 kind m w h1 h2 hk
end Go.Proofs.YtponihangpiooaaGreat
namespace Kv
theorem lev_ge {m:Nat}(h:m<=64):m<=2 ^ levels m:=by
 have:∀ m:Nat,m<65->m<=2 ^ levels m:=by decide +kernel
 exact this m (by omega)
end Kv
namespace Go.Proofs.YtponihangpiooaaGreat
open Go.RowKit Kv
def RowH (ix:List Nat) (w:World) (p:Nat) (A:Option Addr) (l:List Int):Prop:=l≠[]->∃ g cur,A=some ⟨g,0,none⟩/\Held ix w p g (.cells cur 3)/\∀ (i:Nat) y,l[i]?=some y->cur[i]?=some (.int .i64 y)
theorem RowH.of_row {ix:List Nat}{w:World}{p base:Nat}{v:Value}{l:List Int}(h:IntRow w base v l)(hn:∀ b,base<=b->¬ ownR ix w p b):∃ A c,v=.slice A l.length c/\RowH ix w p A l:=by
 rcases h.2 with⟨rfl,h0⟩ | ⟨g,cap,cur,rfl,hb,hg,h1,h2,h3,h4⟩
 · exact⟨none,0,by rw [h0],fun hne=>absurd (List.length_eq_zero_iff.1 h0) hne⟩
 · refine⟨_,cap,rfl,fun _=>⟨g,cur,rfl,⟨hg,hn g hb⟩,fun i y hy=>?_⟩⟩
   have e:(cur.toList.take (l.length*1))[i]?=some (.int .i64 y):=by rw [h4,List.getElem?_map,hy];rfl
   rw [List.getElem?_take] at e
   split at e
   · rw [<- e];simp
   · cases e
theorem heap_setCells_ex (g:Nat)(t:TypeId):∀ (vs:List Value) (o:Nat) (w:World) (cur:Array Value),w.heap[g]?=some (.cells cur t (0,0))->∃ cur',(w.setCells g o vs).heap[g]?=some (.cells cur' t (0,0))/\cur'.size=cur.size
 | [],_,_,cur,h=>⟨cur,h,rfl⟩
 | v :: r,o,w,cur,h=>by
   obtain⟨cur',h1,h2⟩:=heap_setCells_ex g t r (o+1) (w.setCell ⟨g,o,none⟩ v) _ (heap_setCell_same w g o cur t v h)
   exact⟨cur',h1,h2.trans (by simp)⟩
theorem Ext.setCells {w0 w:World}(h:Ext w0 w){g:Nat}(hg:w0.heap.size<=g):∀ (vs:List Value) (o:Nat),Ext w0 (w.setCells g o vs):=by
 intro vs
 induction vs generalizing w with
 | nil=>intro o;exact h
 | cons v r ih=>intro o;exact ih (Below.setCell (p:=⟨g,o,none⟩) h hg v) (o+1)
end Go.Proofs.YtponihangpiooaaGreat
namespace Kv
def filWant (N i:Nat):Want:=if i<N then ⟨i,N⟩ else ⟨-1,N⟩
def filWants (N:Nat):List Want:=(List.range (2*N-1)).map (filWant N)
def fastWant (N i:Nat):Want:=if i<2 then ⟨-1,N⟩ else ⟨i-2,1⟩
def fastWants (N:Nat):List Want:=(List.range (N+2)).map (fastWant N)
def bwWant (N i:Nat):Want:=if i=0 then ⟨-1,1⟩ else if i<=N then ⟨i-1,1⟩ else ⟨i-1-N,4*N⟩
def bwWants (N:Nat):List Want:=(List.range (2*N+1)).map (bwWant N)
end Kv
namespace Go.Proofs.YtponihangpiooaaGreat
open Go.RowKit Kv
def wantRow (f:Nat->Want) (n:Nat):List Value:=((List.range n).map f).flatMap wantVals
theorem wants_succ (f:Nat->Want)(j:Nat):wantRow f (j+1)=wantRow f j++wantVals (f j):=by
 unfold wantRow
 rw [List.range_succ,List.map_append,List.flatMap_append]
 simp
theorem wants_row {w:World}{B:Nat}{v:Value}{n:Nat}{f:Nat->Want}(h:w.ownsRow B 228 2 v n (wantRow f n)):WantsAt w v ((List.range n).map f):=by
 have:=Recs.of_row h
 unfold WantsAt
 rw [List.length_map,List.length_range]
 exact this
set_option maxRecDepth 100000 in
theorem filwants_p (N:Nat)(w:World)(h1:1<=N)(h2:N<=8):Calls Tryz.prog 114 #[.int .i64 N] w fun e w'=>∃ v,e=.returned v/\WantsAt w' v (filWants N)/\Ext w w':=by
 have hmx:min (max (N:Int) 1) 8=N:=by omega
 go_enter Tryz.func114,Tryz.ntmps114
 go_wp2_with fail
 go_loopw [3,9] (fun v i wr=>∃ j:Nat,i=.int .i64 j/\j<=N/\wr.ownsRow w.heap.size 228 2 v j (wantRow (filWant N) j)/\Ext w wr) (fun _ i _=>N-(intOf i).toNat)
 case atStart=>exact⟨0,rfl,by omega,World.ownsRow_nil _ _ _ _,Ext.refl _⟩
 case round =>
  obtain⟨j,rfl,hj,hown,hE⟩:=hrel
  by_cases hl:j<N
  · go_wp2_with (at_builtin;refine append_rec info_want Tryz.underlying183 rfl (by decide) (by decide) rfl _ _ rfl _ j _ [.int .i64 j,.int .i64 N] hE hown rfl rfl rfl (by simp [Value.oneCell']) (by omega) ?_)
    intro v' w' ho hx _
    have hoh:=Lib.hid ho
    clear hown ho
    go_wp2_with fail
    refine⟨⟨j+1,by go_num,by omega,?_,hx⟩,?_⟩
    · rw [show (j+1)=j+1 from by omega,wants_succ]
      rw [show filWant N (j)=⟨(j:Int),(N:Int)⟩ from by unfold filWant;rw [if_pos hl]]
      exact hoh.out
    · simp [intOf];omega
  · obtain rfl:j=N:=by omega
    have hsub:=IntWalk.i64_in ((j:Int)-1) (by omega)
    have hE0:=Lib.hid hE
    have hown0:=Lib.hid hown
    clear hown hE
    go_wp2_with fail
    clear hmx hsub
    go_loopw [3,21] (fun v i wr=>∃ k:Nat,i=.int .i64 k/\k<=j-1/\wr.ownsRow w.heap.size 228 2 v (j+k) (wantRow (filWant j) (j+k))/\Ext w wr) (fun _ i _=>(j-1)-(intOf i).toNat)
    case atStart=>exact⟨0,rfl,by omega,hown0.out,hE0.out⟩
    case round =>
     clear hown0 hE0
     obtain⟨k,rfl,hk,hown,hE⟩:=hrel
     by_cases hl:k<j-1
     · have dl:decide ((k:Int)<(j:Int)-1)=true:=by rw [decide_eq_true_eq];omega
       go_wp2_with (at_builtin;refine append_rec info_want Tryz.underlying183 rfl (by decide) (by decide) rfl _ _ rfl _ (j+k) _ [.int .i64 (-1),.int .i64 j] hE hown rfl rfl rfl (by simp [Value.oneCell']) (by omega) ?_)
       intro v' w' ho hx _
       have hoh:=Lib.hid ho
       clear hown ho
       go_wp2_with fail
       refine⟨⟨k+1,by go_num,by omega,?_,hx⟩,?_⟩
       · rw [show j+(k+1)=(j+k)+1 from by omega,wants_succ]
         rw [show filWant j (j+k)=⟨-1,(j:Int)⟩ from by unfold filWant;rw [if_neg (by omega)]]
         exact hoh.out
       · simp [intOf];omega
     · have dl:decide ((k:Int)<(j:Int)-1)=false:=by rw [decide_eq_false_iff_not];omega
       obtain rfl:k=j-1:=by omega
       have hownh:=Lib.hid hown
       clear hown
       go_wp2_with fail
       go_ret
       refine⟨_,rfl,?_,hE⟩
       have:=hownh.out
       rw [show j+(j-1)=2*j-1 from by omega] at this
       exact wants_row this
set_option maxRecDepth 100000 in
theorem filwants_r (N:Nat)(w:World)(h1:1<=N)(h2:N<=8):Calls Tryz.prog 286 #[.int .i64 N] w fun e w'=>∃ v,e=.returned v/\WantsAt w' v (filWants N)/\Ext w w':=by
 have hN:nM (N:Int)=N:=nM_id (by omega) (by omega)
 have hw2:=IntWalk.i64_in (2*(N:Int)) (by omega)
 have hw3:=IntWalk.i64_in (2*(N:Int)-1) (by omega)
 go_enter Tryz.func286,Tryz.ntmps286
 go_wp2_with fail
 refine (rn_any ⟨0,0,0,N,0,0,0⟩ _).mono ?_
 rintro e w1 ⟨rfl,hX⟩
 simp only
 rw [hN]
 clear hN
 have hX0:=Lib.hid hX
 clear hX
 go_wp2_with fail
 go_loopw [4,5] (fun v i wr=>∃ j:Nat,i=.int .i64 j/\j<=2*N-1/\wr.ownsRow w.heap.size 228 2 v j (wantRow (filWant N) j)/\Ext w wr) (fun _ i _=>(2*N-1)-(intOf i).toNat)
 case atStart=>exact⟨0,rfl,by omega,World.ownsRow_nil _ _ _ _,hX0.out⟩
 case round =>
  clear hX0
  obtain⟨j,rfl,hj,hown,hE⟩:=hrel
  by_cases hl:j<2*N-1
  · have dl:decide ((j:Int)<2*(N:Int)-1)=true:=by rw [decide_eq_true_eq];omega
    by_cases hn:j<N
    · go_wp2_with (at_builtin;refine append_rec info_want Tryz.underlying183 rfl (by decide) (by decide) rfl _ _ rfl _ j _ [.int .i64 j,.int .i64 N] hE hown rfl rfl rfl (by simp [Value.oneCell']) (by omega) ?_)
      intro v' w' ho hx _
      have hoh:=Lib.hid ho
      clear hown ho
      go_wp2_with fail
      refine⟨⟨j+1,by go_num,by omega,?_,hx⟩,?_⟩
      · rw [show (j+1)=j+1 from by omega,wants_succ]
        rw [show filWant N (j)=⟨(j:Int),(N:Int)⟩ from by unfold filWant;rw [if_pos hn]]
        exact hoh.out
      · simp [intOf];omega
    · go_wp2_with (at_builtin;refine append_rec info_want Tryz.underlying183 rfl (by decide) (by decide) rfl _ _ rfl _ j _ [.int .i64 (-1),.int .i64 N] hE hown rfl rfl rfl (by simp [Value.oneCell']) (by omega) ?_)
      intro v' w' ho hx _
      have hoh:=Lib.hid ho
      clear hown ho
      go_wp2_with fail
      refine⟨⟨j+1,by go_num,by omega,?_,hx⟩,?_⟩
      · rw [show (j+1)=j+1 from by omega,wants_succ]
        rw [show filWant N (j)=⟨-1,(N:Int)⟩ from by unfold filWant;rw [if_neg hn]]
        exact hoh.out
      · simp [intOf];omega
  · have dl:decide ((j:Int)<2*(N:Int)-1)=false:=by rw [decide_eq_false_iff_not];omega
    obtain rfl:j=2*N-1:=by omega
    have hownh:=Lib.hid hown
    clear hown
    go_wp2_with fail
    go_ret
    exact⟨_,rfl,wants_row hownh.out,hE⟩
set_option maxRecDepth 100000 in
theorem fastwants_p (N:Nat)(w:World)(h1:1<=N)(h2:N<=8):Calls Tryz.prog 117 #[.int .i64 N] w fun e w'=>∃ v,e=.returned v/\WantsAt w' v (fastWants N)/\Ext w w':=by
 have hmx:min (max (N:Int) 1) 8=N:=by omega
 have hr0:=Lib.hid (row_new w [.int .i64 (-1),.int .i64 N,.int .i64 (-1),.int .i64 N] 228 2 2 rfl (by omega))
 have hx0:=Lib.hid ((Ext.refl w).alloc (.cells [.int .i64 (-1),.int .i64 (N:Int),.int .i64 (-1),.int .i64 (N:Int)].toArray 228))
 go_enter Tryz.func117,Tryz.ntmps117
 go_wp2_with fail
 clear hmx
 go_loopw [3,14] (fun v i wr=>∃ j:Nat,i=.int .i64 j/\j<=N/\wr.ownsRow w.heap.size 228 2 v (j+2) (wantRow (fastWant N) (j+2))/\Ext w wr) (fun _ i _=>N-(intOf i).toNat)
 case atStart=>exact⟨0,rfl,by omega,hr0.out,hx0.out⟩
 case round =>
  clear hr0 hx0
  obtain⟨j,rfl,hj,hown,hE⟩:=hrel
  by_cases hl:j<N
  · go_wp2_with (at_builtin;refine append_rec info_want Tryz.underlying183 rfl (by decide) (by decide) rfl _ _ rfl _ (j+2) _ [.int .i64 j,.int .i64 1] hE hown rfl rfl rfl (by simp [Value.oneCell']) (by omega) ?_)
    intro v' w' ho hx _
    have hoh:=Lib.hid ho
    clear hown ho
    go_wp2_with fail
    refine⟨⟨j+1,by go_num,by omega,?_,hx⟩,?_⟩
    · rw [show ((j+1)+2)=(j+2)+1 from by omega,wants_succ]
      rw [show fastWant N ((j+2))=⟨(j:Int),1⟩ from by unfold fastWant;rw [if_neg (by omega)];congr 1;omega]
      exact hoh.out
    · simp [intOf];omega
  · obtain rfl:j=N:=by omega
    have hownh:=Lib.hid hown
    clear hown
    go_wp2_with fail
    go_ret
    exact⟨_,rfl,wants_row hownh.out,hE⟩
set_option maxRecDepth 100000 in
theorem fastwants_r (N:Nat)(w:World)(h1:1<=N)(h2:N<=8):Calls Tryz.prog 287 #[.int .i64 N] w fun e w'=>∃ v,e=.returned v/\WantsAt w' v (fastWants N)/\Ext w w':=by
 have hN:nM (N:Int)=N:=nM_id (by omega) (by omega)
 go_enter Tryz.func287,Tryz.ntmps287
 go_wp2_with fail
 refine (rn_any ⟨0,0,0,N,0,0,0⟩ _).mono ?_
 rintro e w1 ⟨rfl,hX⟩
 simp only
 rw [hN]
 clear hN
 have hX0:=Lib.hid hX
 clear hX
 go_wp2_with fail
 go_loopw [4,5] (fun v i wr=>∃ j:Nat,i=.int .i64 ((j:Int)-2)/\j<=N+2/\wr.ownsRow w.heap.size 228 2 v j (wantRow (fastWant N) j)/\Ext w wr) (fun _ i _=>(N+2)-(intOf i+2).toNat)
 case atStart=>exact⟨0,rfl,by omega,World.ownsRow_nil _ _ _ _,hX0.out⟩
 case round =>
  clear hX0
  obtain⟨j,rfl,hj,hown,hE⟩:=hrel
  have hs:=IntWalk.i64_in ((j:Int)-2+1) (by omega)
  by_cases hl:j<N+2
  · have dl:decide ((j:Int)-2<(N:Int))=true:=by rw [decide_eq_true_eq];omega
    by_cases hn:j<2
    · have dn:decide ((j:Int)-2<0)=true:=by rw [decide_eq_true_eq];omega
      go_wp2_with (at_builtin;refine append_rec info_want Tryz.underlying183 rfl (by decide) (by decide) rfl _ _ rfl _ j _ [.int .i64 (-1),.int .i64 N] hE hown rfl rfl rfl (by simp [Value.oneCell']) (by omega) ?_)
      intro v' w' ho hx _
      have hoh:=Lib.hid ho
      clear hown ho
      go_wp2_with fail
      refine⟨⟨j+1,by congr 1;omega,by omega,?_,hx⟩,?_⟩
      · rw [show (j+1)=j+1 from by omega,wants_succ]
        rw [show fastWant N (j)=⟨-1,(N:Int)⟩ from by unfold fastWant;rw [if_pos hn]]
        exact hoh.out
      · simp [intOf];omega
    · have dn:decide ((j:Int)-2<0)=false:=by rw [decide_eq_false_iff_not];omega
      go_wp2_with (at_builtin;refine append_rec info_want Tryz.underlying183 rfl (by decide) (by decide) rfl _ _ rfl _ j _ [.int .i64 ((j:Int)-2),.int .i64 1] hE hown rfl rfl rfl (by simp [Value.oneCell']) (by omega) ?_)
      intro v' w' ho hx _
      have hoh:=Lib.hid ho
      clear hown ho
      go_wp2_with fail
      refine⟨⟨j+1,by congr 1;omega,by omega,?_,hx⟩,?_⟩
      · rw [show (j+1)=j+1 from by omega,wants_succ]
        rw [show fastWant N (j)=⟨(j:Int)-2,1⟩ from by unfold fastWant;rw [if_neg hn]]
        exact hoh.out
      · simp [intOf];omega
  · have dl:decide ((j:Int)-2<(N:Int))=false:=by rw [decide_eq_false_iff_not];omega
    obtain rfl:j=N+2:=by omega
    have hownh:=Lib.hid hown
    clear hown
    go_wp2_with fail
    go_ret
    exact⟨_,rfl,wants_row hownh.out,hE⟩
set_option maxRecDepth 100000 in
theorem bwwants_p (N:Nat)(w:World)(h1:1<=N)(h2:N<=8):Calls Tryz.prog 111 #[.int .i64 N] w fun e w'=>∃ v,e=.returned v/\WantsAt w' v (bwWants N)/\Ext w w':=by
 have hmx:min (max (N:Int) 1) 8=N:=by omega
 have h4:=IntWalk.i64_in (4*(N:Int)) (by omega)
 have hr0:=Lib.hid (row_new w [.int .i64 (-1),.int .i64 1] 228 2 1 rfl (by omega))
 have hx0:=Lib.hid ((Ext.refl w).alloc (.cells [.int .i64 (-1),.int .i64 1].toArray 228))
 go_enter Tryz.func111,Tryz.ntmps111
 go_wp2_with fail
 clear hmx
 go_loopw [3,12] (fun v i wr=>∃ j:Nat,i=.int .i64 j/\j<=N/\wr.ownsRow w.heap.size 228 2 v (j+1) (wantRow (bwWant N) (j+1))/\Ext w wr) (fun _ i _=>N-(intOf i).toNat)
 case atStart=>exact⟨0,rfl,by omega,hr0.out,hx0.out⟩
 case round =>
  clear hr0 hx0
  obtain⟨j,rfl,hj,hown,hE⟩:=hrel
  by_cases hl:j<N
  · go_wp2_with (at_builtin;refine append_rec info_want Tryz.underlying183 rfl (by decide) (by decide) rfl _ _ rfl _ (j+1) _ [.int .i64 j,.int .i64 1] hE hown rfl rfl rfl (by simp [Value.oneCell']) (by omega) ?_)
    intro v' w' ho hx _
    have hoh:=Lib.hid ho
    clear hown ho
    go_wp2_with fail
    refine⟨⟨j+1,by go_num,by omega,?_,hx⟩,?_⟩
    · rw [show ((j+1)+1)=(j+1)+1 from by omega,wants_succ]
      rw [show bwWant N ((j+1))=⟨(j:Int),1⟩ from by unfold bwWant;rw [if_neg (by omega),if_pos (by omega)];congr 1;omega]
      exact hoh.out
    · simp [intOf];omega
  · obtain rfl:j=N:=by omega
    have hE0:=Lib.hid hE
    have hown0:=Lib.hid hown
    clear hown hE
    go_wp2_with fail
    go_loopw [3,22] (fun v i wr=>∃ k:Nat,i=.int .i64 k/\k<=j/\wr.ownsRow w.heap.size 228 2 v (j+1+k) (wantRow (bwWant j) (j+1+k))/\Ext w wr) (fun _ i _=>j-(intOf i).toNat)
    case atStart=>exact⟨0,rfl,by omega,hown0.out,hE0.out⟩
    case round =>
     clear hown0 hE0
     obtain⟨k,rfl,hk,hown,hE⟩:=hrel
     by_cases hl:k<j
     · go_wp2_with (at_builtin;refine append_rec info_want Tryz.underlying183 rfl (by decide) (by decide) rfl _ _ rfl _ (j+1+k) _ [.int .i64 k,.int .i64 (4*(j:Int))] hE hown rfl rfl rfl (by simp [Value.oneCell']) (by omega) ?_)
       intro v' w' ho hx _
       have hoh:=Lib.hid ho
       clear hown ho
       go_wp2_with fail
       refine⟨⟨k+1,by go_num,by omega,?_,hx⟩,?_⟩
       · rw [show j+1+(k+1)=(j+1+k)+1 from by omega,wants_succ]
         rw [show bwWant j (j+1+k)=⟨(k:Int),4*(j:Int)⟩ from by unfold bwWant;rw [if_neg (by omega),if_neg (by omega)];congr 1;omega]
         exact hoh.out
       · simp [intOf];omega
     · obtain rfl:k=j:=by omega
       have hownh:=Lib.hid hown
       clear hown
       go_wp2_with fail
       go_ret
       refine⟨_,rfl,?_,hE⟩
       have:=hownh.out
       rw [show k+1+k=2*k+1 from by omega] at this
       exact wants_row this
set_option maxRecDepth 100000 in
theorem bwwants_r (N:Nat)(w:World)(h1:1<=N)(h2:N<=8):Calls Tryz.prog 285 #[.int .i64 N] w fun e w'=>∃ v,e=.returned v/\WantsAt w' v (bwWants N)/\Ext w w':=by
 have hN:nM (N:Int)=N:=nM_id (by omega) (by omega)
 have h4:=IntWalk.i64_in (4*(N:Int)) (by omega)
 have hw2:=IntWalk.i64_in (2*(N:Int)) (by omega)
 go_enter Tryz.func285,Tryz.ntmps285
 go_wp2_with fail
 refine (rn_any ⟨0,0,0,N,0,0,0⟩ _).mono ?_
 rintro e w1 ⟨rfl,hX⟩
 simp only
 rw [hN]
 clear hN
 have hr0:=Lib.hid (row_base (row_new w1 [.int .i64 (-1),.int .i64 1] 228 2 1 rfl (by omega)) hX.size)
 have hX0:=Lib.hid (hX.alloc (.cells [.int .i64 (-1),.int .i64 1].toArray 228))
 clear hX
 go_wp2_with fail
 go_loopw [4,5] (fun v i wr=>∃ j:Nat,i=.int .i64 j/\j<=2*N/\wr.ownsRow w.heap.size 228 2 v (j+1) (wantRow (bwWant N) (j+1))/\Ext w wr) (fun _ i _=>(2*N)-(intOf i).toNat)
 case atStart=>exact⟨0,rfl,by omega,hr0.out,hX0.out⟩
 case round =>
  clear hr0 hX0
  obtain⟨j,rfl,hj,hown,hE⟩:=hrel
  by_cases hl:j<2*N
  · have dl:decide ((j:Int)<2*(N:Int))=true:=by rw [decide_eq_true_eq];omega
    by_cases hn:j<N
    · have dn:decide ((N:Int)<=(j:Int))=false:=by rw [decide_eq_false_iff_not];omega
      have hE1:=hE.alloc (.cells #[.int .i64 j,.int .i64 1] 228)
      have ho1:=World.ownsRow.alloc hown (.cells #[.int .i64 j,.int .i64 1] 228)
      clear hown hE
      go_wp2_with (at_builtin;refine append_rec info_want Tryz.underlying183 rfl (by decide) (by decide) rfl _ _ rfl _ (j+1) _ [.int .i64 j,.int .i64 1] hE1 ho1 rfl (by simp [Act.eval,World.size_alloc]) rfl (by simp [Value.oneCell']) (by omega) ?_)
      intro v' w' ho hx _
      have hoh:=Lib.hid ho
      clear ho1 ho
      go_wp2_with fail
      refine⟨⟨j+1,by go_num,by omega,?_,hx⟩,?_⟩
      · rw [wants_succ]
        rw [show bwWant N (j+1)=⟨(j:Int),1⟩ from by unfold bwWant;rw [if_neg (by omega),if_pos (by omega)];congr 1;omega]
        exact hoh.out
      · simp [intOf];omega
    · have dn:decide ((N:Int)<=(j:Int))=true:=by rw [decide_eq_true_eq];omega
      have hs:=IntWalk.i64_in ((j:Int)-(N:Int)) (by omega)
      have hE1:=hE.alloc (.cells #[.int .i64 ((j:Int)-(N:Int)),.int .i64 (4*(N:Int))] 228)
      have ho1:=World.ownsRow.alloc hown (.cells #[.int .i64 ((j:Int)-(N:Int)),.int .i64 (4*(N:Int))] 228)
      clear hown hE
      go_wp2_with (at_builtin;refine append_rec info_want Tryz.underlying183 rfl (by decide) (by decide) rfl _ _ rfl _ (j+1) _ [.int .i64 ((j:Int)-(N:Int)),.int .i64 (4*(N:Int))] hE1 ho1 rfl (by simp [Act.eval,World.size_alloc]) rfl (by simp [Value.oneCell']) (by omega) ?_)
      intro v' w' ho hx _
      have hoh:=Lib.hid ho
      clear ho1 ho
      go_wp2_with fail
      refine⟨⟨j+1,by go_num,by omega,?_,hx⟩,?_⟩
      · rw [wants_succ]
        rw [show bwWant N (j+1)=⟨(j:Int)-(N:Int),4*(N:Int)⟩ from by unfold bwWant;rw [if_neg (by omega),if_neg (by omega)];congr 1;omega]
        exact hoh.out
      · simp [intOf];omega
  · have dl:decide ((j:Int)<2*(N:Int))=false:=by rw [decide_eq_false_iff_not];omega
    obtain rfl:j=2*N:=by omega
    have hownh:=Lib.hid hown
    clear hown
    go_wp2_with fail
    go_ret
    exact⟨_,rfl,wants_row hownh.out,hE⟩
end Go.Proofs.YtponihangpiooaaGreat
namespace Kv
theorem filWants_len (N:Nat):(filWants N).length=2*N-1:=by simp [filWants]
theorem fastWants_len (N:Nat):(fastWants N).length=N+2:=by simp [fastWants]
theorem bwWants_len (N:Nat):(bwWants N).length=2*N+1:=by simp [bwWants]
end Kv
namespace Go.Proofs.YtponihangpiooaaGreat
open Go.RowKit Kv
theorem layr_some {va:Value}{l:List Want}{n mode base loc:Int}{rs:List Reg}(hl:layM l n mode base loc=some rs)(w:World)(h:WantsAt w va l)(hlen:l.length<=1000) :
  Calls Tryz.prog 202 #[va,.int .i64 n,.int .i64 mode,.int .i64 base,.int .i64 loc] w fun e w'=>∃ v,e=.returned (.tuple #[v,.int .i64 0])/\(RegsV w' v rs/\∀ k,v.ownBlock=some k->w.heap.size<=k)/\Ext w w':=by
 have:=lay_r va l n mode base loc w h hlen
 rw [hl] at this
 exact this.mono fun e w' ⟨hx,v,he,hr⟩=>⟨v,he,⟨Recs.of_row hr,fun k hk=>(hr.lt k hk).1⟩,hx⟩
end Go.Proofs.YtponihangpiooaaGreat
namespace Kv
def treeWants (E N:Nat):List Want:=List.replicate (E*(2 ^ levels N-1)) ⟨-1,1⟩
end Kv
namespace Go.Proofs.YtponihangpiooaaGreat
open Go.RowKit Kv
theorem each_le (kind:Int):3<=eachK kind/\eachK kind<=4:=by unfold eachK;split <;> omega
end Go.Proofs.YtponihangpiooaaGreat
namespace Kv
open Go Go.RowKit
def renW:Nat->Nat->List Want
 | 0,_=>[]
 | k+1,N=>renW k N++[⟨-1,(N:Int)⟩,⟨-1,1⟩]
theorem renW_len (N:Nat):∀ k:Nat,(renW k N).length=2*k
 | 0=>rfl
 | k+1=>by
   rw [renW,List.length_append,renW_len N k]
   rfl
def adWants (N:Nat):List Want:=renW (triN N) N++treeWants 3 (triN N)
theorem triN_le {N:Nat}(h1:1<=N)(h2:N<=8):1<=triN N/\triN N<=36:=by
 have a:=triN_mono h1
 have b:=triN_mono h2
 rw [show triN 1=1 from by decide] at a
 rw [show triN 8=36 from by decide] at b
 exact⟨a,b⟩
theorem adWants_len {N:Nat}:(adWants N).length=2*triN N+3*(2 ^ levels (triN N)-1):=by
 rw [adWants,List.length_append,renW_len,treeWants,List.length_replicate]
theorem adTree_le {N:Nat}(h1:1<=N)(h2:N<=8):3*(2 ^ levels (triN N:Nat)-1)<=189:=by
 obtain⟨_,q2⟩:=triN_le h1 h2
 obtain⟨p1,p2⟩:=pow_le (lev_le (m:=triN N) (by omega))
 omega
end Kv
namespace Go.Proofs.YtponihangpiooaaGreat
open Go.RowKit Kv
theorem each6:eachK 6=3:=by unfold eachK;rw [if_neg (by decide)]
set_option maxRecDepth 100000 in
set_option maxHeartbeats 1000000 in
theorem renwants_p (N:Nat)(w:World)(h1:1<=N)(h2:N<=8) :
  Calls Tryz.prog 195 #[.int .i64 N] w fun e w'=>∃ v,e=.returned v/\w'.ownsRow w.heap.size 228 2 v (2*triN N) ((renW (triN N) N).flatMap wantVals)/\Ext w w':=by
 have e1:min (max (N:Int) 1) 8=N:=by omega
 have hS:=fun w=>gsize_p N (by omega) w
 have hW:=fun w=>swants_p N w
 rw [show nM (N:Int)=N from nM_id (by omega) (by omega)] at hW
 obtain⟨q1,q2⟩:=triN_le h1 h2
 generalize triN N=M at *
 go_enter Tryz.func195,Tryz.ntmps195
 go_wp2_with fail
 refine (hS _).mono ?_
 rintro e w' ⟨rfl,rfl⟩
 go_wp2_with fail
 go_loopw [3,9] (fun v i wr=>∃ j:Nat,i=.int .i64 j/\j<=M/\wr.ownsRow w.heap.size 228 2 v (2*j) ((renW j N).flatMap wantVals)/\Ext w wr) (fun _ i _=>M-(intOf i).toNat)
 case atStart=>exact⟨0,rfl,by omega,World.ownsRow_nil _ _ _ _,Ext.refl _⟩
 case round =>
  obtain⟨j,rfl,hj,hown,hX⟩:=hrel
  by_cases hl:j<M
  · go_wp2_with fail
    refine (hW _).mono ?_
    rintro e w3 ⟨v2,rfl,hr2,hx3⟩
    replace hown:=row_ext hown hx3
    replace hX:=hX.trans hx3
    obtain⟨A,c,rfl,r1,r2,hV⟩:=hr2
    obtain⟨b,rfl,hb,hc⟩:=hV (by simp [wantVals])
    clear hV hx3
    go_wp2_with (at_builtin;refine append_recs info_want Tryz.underlying183 rfl (by decide) (by decide) rfl _ _ rfl _ (2*j) _ (([⟨-1,(N:Int)⟩,⟨-1,1⟩]:List Want).flatMap wantVals) ⟨b,0,none⟩ 2 c hX hown rfl rfl rfl (fun i u hu=>by rw [Addr.add_lit,Nat.zero_add];exact hc i u hu) (fun u hu=>by simp [wantVals] at hu;rcases hu with rfl | rfl | rfl | rfl <;> rfl) (by omega) (by omega) ?_)
    intro v' w' ho hx'
    have hoh:Hid (w'.ownsRow w.heap.size 228 2 v' (2*(j+1)) ((renW (j+1) N).flatMap wantVals)):=Lib.hid (by
     rw [renW,List.flatMap_append];exact ho)
    clear hown ho hc
    go_wp2_with fail
    refine⟨⟨j+1,by go_num,by omega,hoh.out,hx'⟩,?_⟩
    simp [intOf];omega
  · obtain rfl:j=M:=by omega
    have hownh:=Lib.hid hown
    clear hown
    go_wp2_with fail
    go_ret
    exact⟨_,rfl,hownh.out,hX⟩
theorem renwants_at {N:Nat}{w:World}{B:Nat}{v:Value}(h:w.ownsRow B 228 2 v (2*triN N) ((renW (triN N) N).flatMap wantVals)):WantsAt w v (renW (triN N) N):=by
 have:=Recs.of_row h
 unfold WantsAt
 rw [renW_len]
 exact this
theorem tree_pos {m:Nat}(h1:2<=m)(h2:m<=36):3*(2 ^ levels (m:Nat)-1)≠0:=by
 have:∀ m:Nat,m<37->2<=m->3*(2 ^ levels (m:Nat)-1)≠0:=by decide +kernel
 exact this m (by omega) h1
set_option maxRecDepth 100000 in
theorem twants1_p (w:World):Calls Tryz.prog 121 #[.int .i64 6,.int .i64 1] w fun e w'=>e=.returned (.slice none 0 0)/\Ext w w':=by
 have hlv:=fun w=>levels_p (1:Nat) (by omega) w
 rw [show levels ((1:Nat):Int)=0 from by decide] at hlv
 have hsh:Op.shift .shl .i64 1 .i64 0=pure (.int .i64 1):=by
  rw [Go.shift_shl_i64 (x:=1) (y:=0) (yk:=.i64) (by omega) (by omega)]
  rfl
 go_enter Tryz.func121,Tryz.ntmps121
 go_wp2_with fail
 refine (hlv _).mono ?_
 rintro e w' ⟨rfl,rfl⟩
 clear hlv
 go_wp2_with fail
 go_loopw [5,16] (fun v i wr=>i=.int .i64 0/\v=.slice none 0 0/\Ext w wr) (fun _ _ _=>0)
 case atStart=>exact⟨rfl,rfl,Ext.refl _⟩
 case round =>
  obtain⟨rfl,rfl,hX⟩:=hrel
  go_wp2_with fail
  go_ret
  exact⟨rfl,hX⟩
set_option maxRecDepth 100000 in
set_option maxHeartbeats 1000000 in
theorem adwants_p (N:Nat)(w:World)(h1:1<=N)(h2:N<=8) :
  Calls Tryz.prog 124 #[.int .i64 N] w fun e w'=>∃ v,e=.returned v/\WantsAt w' v (adWants N)/\Ext w w':=by
 have e1:min (max (N:Int) 1) 8=N:=by omega
 have hS:=fun w=>gsize_p N (by omega) w
 obtain⟨q1,q2⟩:=triN_le h1 h2
 have ht:=adTree_le h1 h2
 have hW:=fun w=>twants_p 6 (triN N) w q1 (by omega)
 rw [each6] at hW
 have hR:=fun w=>renwants_p N w h1 h2
 have hlen:=adWants_len (N:=N)
 have had:adWants N=renW (triN N) N++List.replicate (3*(2 ^ levels (triN N:Nat)-1)) (⟨-1,1⟩:Want):=rfl
 have hLh:=Lib.hid (show triN N≠1->3*(2 ^ levels (triN N:Nat)-1)≠0 from fun h=>tree_pos (by omega) q2)
 have hL1:=Lib.hid (show triN N=1->3*(2 ^ levels (triN N:Nat)-1)=0 from fun h=>by rw [h];decide)
 generalize 3*(2 ^ levels (triN N:Nat)-1)=L at *
 generalize hl1:renW (triN N) N=l1 at *
 generalize triN N=M at *
 have hlenh:=Lib.hid hlen
 have hadh:=Lib.hid had
 clear hlen had
 go_enter Tryz.func124,Tryz.ntmps124
 go_wp2_with fail
 refine (hR _).mono ?_
 rintro e w2 ⟨v,rfl,hown,hX⟩
 go_wp2_with fail
 refine (hS _).mono ?_
 rintro e w' ⟨rfl,rfl⟩
 go_wp2_with fail
 by_cases hM1:M=1
 · subst hM1
   obtain rfl:L=0:=hL1.out rfl
   clear hW
   refine (twants1_p _).mono ?_
   rintro e w3 ⟨rfl,hx3⟩
   replace hown:=row_ext hown hx3
   replace hX:=hX.trans hx3
   clear hx3
   go_wp2_with (at_builtin;refine append_none info_want Tryz.underlying183 rfl _ _ rfl w.heap.size _ (2*1) _ hown rfl rfl ?_)
   have hf:Hid (WantsAt w3 v (adWants N)):=Lib.hid (by
    have:=Recs.of_row hown
    unfold WantsAt
    rw [hlenh.out,hadh.out]
    simpa using this)
   clear hown
   go_wp2_with fail
   go_ret
   exact⟨_,rfl,hf.out,hX⟩
 · refine (hW _).mono ?_
   rintro e w3 ⟨v2,rfl,hr2,hx3⟩
   replace hown:=row_ext hown hx3
   replace hX:=hX.trans hx3
   clear hx3
   obtain⟨A,c,rfl,r1,r2,hV⟩:=hr2
   rw [List.length_replicate] at *
   have hfl:((List.replicate L (⟨-1,1⟩:Want)).flatMap wantVals).length=L*2:=by
    rw [List.length_flatMap]
    simp [wantVals]
   obtain⟨b,rfl,hb,hc⟩:=hV (by
    have hL0:=hLh.out hM1
    cases L with
    | zero=>exact absurd rfl hL0
    | succ L=>simp [wantVals,List.replicate])
   clear hV
   go_wp2_with (at_builtin;refine append_recs info_want Tryz.underlying183 rfl (by decide) (by decide) rfl _ _ rfl _ (2*M) _ ((List.replicate L (⟨-1,1⟩:Want)).flatMap wantVals) ⟨b,0,none⟩ L c hX hown rfl rfl hfl (fun i u hu=>by rw [Addr.add_lit,Nat.zero_add];exact hc i u hu) (fun u hu=>by
    obtain⟨q,_,hq⟩:=List.mem_flatMap.1 hu
    simp [wantVals] at hq;rcases hq with rfl | rfl <;> rfl) (by omega) (by omega) ?_)
   intro v' w' ho hx'
   have hf:Hid (WantsAt w' v' (adWants N)):=Lib.hid (by
    have:=Recs.of_row ho
    unfold WantsAt
    rw [hlenh.out,hadh.out,List.flatMap_append]
    exact this)
   clear hown ho hc
   go_wp2_with fail
   go_ret
   exact⟨_,rfl,hf.out,hx'⟩
end Go.Proofs.YtponihangpiooaaGreat
namespace Kv
inductive Prog.Sets {α:Type} (lo hi:Int):Prog α->Prop
 | ret (a:α):Sets lo hi (.ret a)
 | read (c:Int) {k:Int->Prog α}:(∀ x,Sets lo hi (k x))->Sets lo hi (.read c k)
 | write (c v:Int) {k:Unit->Prog α}:Sets lo hi (k ())->Sets lo hi (.write c v k)
 | get (i:Int) {k:Int->Prog α}:(∀ x,Sets lo hi (k x))->Sets lo hi (.get i k)
 | set (i v:Int) {k:Unit->Prog α}:lo<=i->i<hi->Sets lo hi (k ())->Sets lo hi (.set i v k)
 | note (m:Int) {k:Unit->Prog α}:Sets lo hi (k ())->Sets lo hi (.note m k)
theorem Prog.Sets.bind {α β:Type}{lo hi:Int}{p:Prog α}{f:α->Prog β}(h:p.Sets lo hi)(hf:∀ a,(f a).Sets lo hi):(p.bind f).Sets lo hi:=by
 induction h with
 | ret a=>exact hf a
 | read c _ ih=>exact .read c fun x=>ih x
 | write c v _ ih=>exact .write c v ih
 | get c _ ih=>exact .get c fun x=>ih x
 | set c v h1 h2 _ ih=>exact .set c v h1 h2 ih
 | note m _ ih=>exact .note m ih
theorem Prog.Sets.mono {α:Type}{lo hi lo' hi':Int}{p:Prog α}(h:p.Sets lo hi)(h1:lo'<=lo)(h2:hi<=hi'):p.Sets lo' hi':=by
 induction h with
 | ret a=>exact .ret a
 | read c _ ih=>exact .read c fun x=>ih x
 | write c v _ ih=>exact .write c v ih
 | get c _ ih=>exact .get c fun x=>ih x
 | set c v h3 h4 _ ih=>exact .set c v (by omega) (by omega) ih
 | note m _ ih=>exact .note m ih
theorem Prog.Sets.got {α:Type}{lo hi i:Int}{p:Prog α}(h:p.Sets lo hi)(hi2:i<lo∨hi<=i):∀ S:TS,(p.run S).2.got i=S.got i:=by
 induction h with
 | ret a=>intro S;rfl
 | read c _ ih =>
   intro S
   simp only [Prog.run]
   cases S.next with
   | none=>rfl
   | some v=>exact (ih v _).trans rfl
 | write c v _ ih =>
   intro S
   simp only [Prog.run]
   cases S.next with
   | none=>rfl
   | some _=>exact (ih _).trans rfl
 | get c _ ih=>intro S;exact ih _ _
 | set j v h1 h2 _ ih =>
   intro S
   refine (ih (S.upd j v)).trans ?_
   unfold TS.got TS.upd
   split
   · rfl
   · split
     · simp only
       rw [if_neg (by omega)]
     · rfl
 | note m _ ih=>intro S;exact (ih _).trans rfl
end Kv
namespace Go.Proofs.YtponihangpiooaaGreat
open Go.RowKit Kv
theorem may_r (va:Value)(l:List Want)(alg n mode base loc room:Int)(w:World)(h:WantsAt w va l)(hlen:l.length<=1000) :
  Calls Tryz.prog 200 #[va,.agg #[.int .i64 alg,.int .i64 n,.int .i64 mode,.int .i64 base,.int .i64 loc,.int .i64 room]] w fun e w'=>e=.returned (.bool (layM l n mode base loc).isSome)/\Ext w w':=by
 have hX:=Ext.refl w
 have b1:=Blk.new w (.cells #[.int .i64 alg,.int .i64 n,.int .i64 mode,.int .i64 base,.int .i64 loc,.int .i64 room] 23)
 replace hX:=hX.alloc (.cells #[.int .i64 alg,.int .i64 n,.int .i64 mode,.int .i64 base,.int .i64 loc,.int .i64 room] 23)
 have c_b1:=b1.cells
 have hL:=lay_r va l n mode base loc _ (h.ext hX) hlen
 obtain⟨A,c,rfl,_,_,_⟩:=h
 generalize hr:layM l n mode base loc=r at *
 go_enter Tryz.func200,Tryz.ntmps200
 go_wp2_with fail
 cases r with
 | none =>
   refine hL.mono ?_
   rintro e w1 ⟨hx,x,hx0,rfl⟩
   have dx:(x==0)=false:=by rw [beq_eq_false_iff_ne];exact hx0
   have hf:=Lib.hid (hX.trans hx)
   clear hL hx hr hx0
   go_wp2_with fail
   go_ret
   exact⟨rfl,hf.out⟩
 | some rs =>
   refine hL.mono ?_
   rintro e w1 ⟨hx,v,rfl,hrow⟩
   obtain⟨A',c',rfl,-⟩:=Recs.of_row hrow
   have hf:=Lib.hid (hX.trans hx)
   clear hL hx hr hrow
   go_wp2_with fail
   go_ret
   exact⟨rfl,hf.out⟩
theorem laid_all {l:List Want}{n mode b c:Int}{rs:List Reg}(h:layM l n mode b c=some rs):∀ r∈rs,r.ok/\r.n=n:=by
 intro r hr
 obtain⟨i,hi⟩:=List.getElem?_of_mem hr
 obtain⟨⟨_,_,n1,n2,_,_⟩,hw,_⟩:=layM_args h
 have hil:=(List.getElem?_eq_some_iff.1 hi).1
 rw [layM_len h] at hil
 obtain⟨r',hr',hL⟩:=layM_at h (List.getElem?_eq_getElem hil)
 obtain rfl:r=r':=by rw [hi] at hr';simpa using hr'
 obtain⟨h1,h2,_⟩:=hL.ok ⟨n1,n2⟩ (hw _ (List.getElem_mem hil))
 exact⟨h1,h2⟩
end Go.Proofs.YtponihangpiooaaGreat
namespace Kv
def TameA (S:TS):Prop:=∀ v∈S.ans,0<=v/\v<=1048576
theorem TameA.run {α:Type}{S S':TS}{p:Prog α}{a:Option α}(h:TameA S)(hr:p.run S=(a,S')):TameA S':=by
 have:=Prog.run_ans p S
 rw [hr] at this
 unfold TameA
 rw [this]
 exact h
def sumC (l:List Reg):Int:=(l.map cellsM).sum
def sumL (l:List Reg):Int:=(l.map localsM).sum
theorem sumC_next {l:List Reg}{j:Nat}{r:Reg}(h:l[j]?=some r):sumC (l.take (j+1))=sumC (l.take j)+cellsM r:=by
 unfold sumC
 rw [List.take_add_one,h]
 simp [List.sum_append]
theorem sumL_next {l:List Reg}{j:Nat}{r:Reg}(h:l[j]?=some r):sumL (l.take (j+1))=sumL (l.take j)+localsM r:=by
 unfold sumL
 rw [List.take_add_one,h]
 simp [List.sum_append]
theorem sum_bd {l:List Reg}(h:∀ r∈l,r.ok):∀ j:Nat,j<=l.length->(0<=sumC (l.take j)/\sumC (l.take j)<=6272*j)/\(0<=sumL (l.take j)/\sumL (l.take j)<=7072*j)
 | 0,_=>by simp [sumC,sumL]
 | j+1,hj=>by
   obtain⟨r,hr⟩:∃ r,l[j]?=some r:=⟨_,List.getElem?_eq_getElem (by omega)⟩
   have h1:=sum_bd h j (by omega)
   have h2:=cells_nat r (h r (List.mem_of_getElem? hr)).n
   rw [sumC_next hr,sumL_next hr]
   omega
end Kv
namespace Go.Proofs.YtponihangpiooaaGreat
open Go.RowKit Kv
set_option maxRecDepth 100000 in
set_option maxHeartbeats 1000000 in
theorem size_p (b c:Nat)(rs:List Reg)(w:World)(hb:b<w.heap.size)(hc:∀ (i:Nat) u,(rs.flatMap regVals)[i]?=some u->w.cell? ⟨b,i,none⟩=some u)(hok:∀ r∈rs,r.ok)(hl:rs.length<=300) :
  Calls Tryz.prog 154 #[.slice (some ⟨b,0,none⟩) rs.length c] w fun e w'=>e=.returned (.tuple #[.int .i64 (sumC rs),.int .i64 (sumL rs)])/\Ext w w':=by
 have hokh:=Lib.hid hok
 have hbd:=Lib.hid (sum_bd hok)
 have hch:=Lib.hid hc
 clear hok hc
 go_enter Tryz.func154,Tryz.ntmps154
 go_wp2_with fail
 go_loopw [4,5,10] (fun u v i wr=>∃ j:Nat,i=.int .i64 j/\j<=rs.length/\u=.int .i64 (sumC (rs.take j))/\v=.int .i64 (sumL (rs.take j))/\Ext w wr) (fun _ _ i _=>rs.length-(intOf i).toNat)
 case atStart=>exact⟨0,rfl,by omega,rfl,rfl,Ext.refl w⟩
 case round =>
  obtain⟨j,rfl,hj,rfl,rfl,hX⟩:=hrel
  by_cases hlt:j<rs.length
  · have dl:decide ((j:Int)<(rs.length:Int))=true:=by rw [decide_eq_true_eq];omega
    obtain⟨r,hr⟩:∃ r,rs[j]?=some r:=⟨_,List.getElem?_eq_getElem hlt⟩
    have hrk:=hokh.out r (List.mem_of_getElem? hr)
    have h1:=hbd.out j (by omega)
    have h2:=cells_nat r hrk.n
    have n1:=sumC_next hr
    have n2:=sumL_next hr
    obtain⟨a0,a1,a2,a3,a4,a5,a6⟩:=reg_cells (w:=wr) (b:=b) (fun i u hu=>(hX.cell (p:=⟨b,i,none⟩) hb).trans (hch.out i u hu)) hr
    have hC:=fun w=>cells_all r w hrk.kind hrk.n
    have hL:=fun w=>locals_p r w hrk.kind hrk.n
    unfold encR at hC hL
    have w1:IntKind.i64.wrap (sumC (rs.take j)+cellsM r)=sumC (rs.take (j+1)):=by rw [IntWalk.i64_in _ (by omega),n1]
    have w2:IntKind.i64.wrap (sumL (rs.take j)+localsM r)=sumL (rs.take (j+1)):=by rw [IntWalk.i64_in _ (by omega),n2]
    have c_n:=fun i=>cell_of_heap (heap_alloc_new wr (.cells #[.int .i64 r.kind,.int .i64 r.base,.int .i64 r.loc,.int .i64 r.n,.int .i64 r.wr,.int .i64 r.rd,.int .i64 r.top] 59)) i
    have hX1:=hX.alloc (.cells #[.int .i64 r.kind,.int .i64 r.base,.int .i64 r.loc,.int .i64 r.n,.int .i64 r.wr,.int .i64 r.rd,.int .i64 r.top] 59)
    have g1:=Blk.new wr (.cells #[.int .i64 r.kind,.int .i64 r.base,.int .i64 r.loc,.int .i64 r.n,.int .i64 r.wr,.int .i64 r.rd,.int .i64 r.top] 59)
    clear hr h1 h2 n1 n2
    go_wp2_with fail
    refine (hC _).mono ?_
    rintro e w2 ⟨rfl,hx2⟩
    clear c_n
    have g2:=g1.ext hx2
    have c_g:=g2.cells
    replace hX1:=hX1.trans hx2
    clear hx2 a0 a1 a2 a3 a4 a5 a6 g1
    go_wp2_with fail
    refine (hL _).mono ?_
    rintro e w3 ⟨rfl,hx3⟩
    replace hX1:=hX1.trans hx3
    clear hx3 c_g g2
    go_wp2_with fail
    refine⟨⟨j+1,by go_num,by omega,rfl,rfl,hX1⟩,?_⟩
    simp [intOf];omega
  · obtain rfl:j=rs.length:=by omega
    have dl:decide ((rs.length:Int)<(rs.length:Int))=false:=by rw [decide_eq_false_iff_not];omega
    rw [List.take_length]
    go_wp2_with fail
    first | go_ret2 | go_ret
    exact⟨rfl,hX⟩
set_option maxRecDepth 100000 in
set_option maxHeartbeats 1000000 in
theorem size_r (b c:Nat)(rs:List Reg)(w:World)(hb:b<w.heap.size)(hc:∀ (i:Nat) u,(rs.flatMap regVals)[i]?=some u->w.cell? ⟨b,i,none⟩=some u)(hok:∀ r∈rs,r.ok)(hl:rs.length<=300) :
  Calls Tryz.prog 140 #[.slice (some ⟨b,0,none⟩) rs.length c] w fun e w'=>e=.returned (.tuple #[.int .i64 (sumC rs),.int .i64 (sumL rs)])/\Ext w w':=by
 have hokh:=Lib.hid hok
 have hbd:=Lib.hid (sum_bd hok)
 have hch:=Lib.hid hc
 clear hok hc
 go_enter Tryz.func140,Tryz.ntmps140
 go_wp2_with fail
 go_loopw [4,5,6] (fun u v i wr=>∃ j:Nat,i=.int .i64 j/\j<=rs.length/\u=.int .i64 (sumC (rs.take j))/\v=.int .i64 (sumL (rs.take j))/\Ext w wr) (fun _ _ i _=>rs.length-(intOf i).toNat)
 case atStart=>exact⟨0,rfl,by omega,rfl,rfl,Ext.refl w⟩
 case round =>
  obtain⟨j,rfl,hj,rfl,rfl,hX⟩:=hrel
  by_cases hlt:j<rs.length
  · have dl:decide ((j:Int)<(rs.length:Int))=true:=by rw [decide_eq_true_eq];omega
    obtain⟨r,hr⟩:∃ r,rs[j]?=some r:=⟨_,List.getElem?_eq_getElem hlt⟩
    have hrk:=hokh.out r (List.mem_of_getElem? hr)
    have h1:=hbd.out j (by omega)
    have h2:=cells_nat r hrk.n
    have n1:=sumC_next hr
    have n2:=sumL_next hr
    obtain⟨a0,a1,a2,a3,a4,a5,a6⟩:=reg_cells (w:=wr) (b:=b) (fun i u hu=>(hX.cell (p:=⟨b,i,none⟩) hb).trans (hch.out i u hu)) hr
    have hC:=fun w=>cells_r r w hrk.kind hrk.n
    have hL:=fun w=>locals_r r w hrk.kind hrk.n
    unfold encR at hC hL
    have w1:IntKind.i64.wrap (sumC (rs.take j)+cellsM r)=sumC (rs.take (j+1)):=by rw [IntWalk.i64_in _ (by omega),n1]
    have w2:IntKind.i64.wrap (sumL (rs.take j)+localsM r)=sumL (rs.take (j+1)):=by rw [IntWalk.i64_in _ (by omega),n2]
    have hX1:=hX
    clear h1 h2 n1 n2
    go_wp2_with fail
    refine (hC _).mono ?_
    rintro e w2 ⟨rfl,hx2⟩
    replace hX1:=hX1.trans hx2
    clear hx2 a0 a1 a2 a3 a4 a5 a6
    obtain⟨a0,a1,a2,a3,a4,a5,a6⟩:=reg_cells (w:=w2) (b:=b) (fun i u hu=>(hX1.cell (p:=⟨b,i,none⟩) hb).trans (hch.out i u hu)) hr
    go_wp2_with fail
    refine (hL _).mono ?_
    rintro e w3 ⟨rfl,hx3⟩
    replace hX1:=hX1.trans hx3
    clear hx3 a0 a1 a2 a3 a4 a5 a6
    go_wp2_with fail
    refine⟨⟨j+1,by go_num,by omega,rfl,rfl,hX1⟩,?_⟩
    simp [intOf];omega
  · obtain rfl:j=rs.length:=by omega
    have dl:decide ((rs.length:Int)<(rs.length:Int))=false:=by rw [decide_eq_false_iff_not];omega
    rw [List.take_length]
    go_wp2_with fail
    first | go_ret2 | go_ret
    exact⟨rfl,hX⟩
end Go.Proofs.YtponihangpiooaaGreat
namespace Kv
theorem lev_least {m:Nat}(h:m<=64){j:Nat}(hj:j<levels m):2 ^ j<m:=by
 have:∀ m:Nat,m<65->∀ j:Nat,j<levels m->2 ^ j<m:=by decide +kernel
 exact this m (by omega) j hj
end Kv
namespace Go.Proofs.YtponihangpiooaaGreat
open Go.RowKit Kv
theorem leaves_r (m:Nat)(w:World)(h2:m<=64):Calls Tryz.prog 330 #[.int .i64 m] w fun e w'=>e=.returned (.int .i64 ((2 ^ levels m:Nat):Int))/\w=w':=by
 have hlt:=fun j (hj:j<levels m)=>lev_least h2 hj
 have hge:=lev_ge h2
 have hle:=lev_le h2
 generalize levels (m:Int)=L at *
 have hp2:=(pow_le hle).2
 obtain⟨P,hP⟩:∃ P,2 ^ L=P:=⟨_,rfl⟩
 rw [hP] at hge hp2 ⊢
 have hlth:=Lib.hid hlt
 have hgeh:=Lib.hid hge
 have hPh:=Lib.hid hP
 clear hlt hge hP
 go_enter Tryz.func330,Tryz.ntmps330
 go_wp2_with fail
 go_loop [3] (fun p=>∃ j q:Nat,p=.int .i64 q/\1<=q/\q<=128/\Hid (q=2 ^ j/\j<=L)) (fun p=>256-(intOf p).toNat)
 case atStart=>exact⟨0,1,rfl,by omega,by omega,Lib.hid ⟨rfl,by omega⟩⟩
 case round =>
  obtain⟨j,q,rfl,q1,q2,hq⟩:=hrel
  by_cases hm:q<m
  · have d1:decide ((q:Int)<(m:Int))=true:=by rw [decide_eq_true_eq];omega
    have hj:j<L:=by
     have h1:=hq.out.2
     have h3:=hgeh.out
     by_cases e:j=L
     · have h4:=hq.out.1
       rw [e,hPh.out] at h4
       omega
     · omega
    have hq2:Hid (2*q=2 ^ (j+1)/\j+1<=L):=Lib.hid ⟨by rw [hq.out.1,Nat.pow_succ];omega,by omega⟩
    clear hq
    go_wp2_with fail
    go_round
    case rel=>exact⟨j+1,2*q,by go_num,by omega,by omega,hq2⟩
    case measure=>simp [intOf];omega
  · have d1:decide ((q:Int)<(m:Int))=false:=by rw [decide_eq_false_iff_not];omega
    have hj:j=L:=by
     by_cases e:j=L
     · exact e
     · have:=hlth.out j (by have:=hq.out.2;omega)
       rw [<- hq.out.1] at this
       omega
    have hf:=hq.out.1
    rw [hj,hPh.out] at hf
    subst hf
    clear hq hPh hlth hgeh
    go_wp2_with fail
    go_ret
    exact⟨rfl,rfl⟩
theorem each_r (kind:Int)(w:World):Calls Tryz.prog 329 #[.int .i64 kind] w fun e w'=>e=.returned (.int .i64 ((eachK kind:Nat):Int))/\w=w':=by
 unfold eachK
 by_cases h:kind=7
 · have d:(kind==7)=true:=by simpa using h
   rw [if_pos h]
   clear h
   go_enter Tryz.func329,Tryz.ntmps329
   go_wp2_with fail
   go_ret
   exact⟨rfl,rfl⟩
 · have d:(kind==7)=false:=by simpa using h
   rw [if_neg h]
   clear h
   go_enter Tryz.func329,Tryz.ntmps329
   go_wp2_with fail
   go_ret
   exact⟨rfl,rfl⟩
theorem rtwants_r (kind:Int)(m:Nat)(w:World)(h2:m<=64) :
  Calls Tryz.prog 288 #[.int .i64 kind,.int .i64 m] w fun e w'=>∃ v,e=.returned v/\WantsAt w' v (treeWants (eachK kind) m)/\Ext w w':=by
 have hL:=fun w=>leaves_r m w h2
 have hE:=fun w=>each_r kind w
 obtain⟨p1,p2⟩:=pow_le (lev_le h2)
 obtain⟨e1,e2⟩:=each_le kind
 have hW:=fun w=>wants28_r (eachK kind*(2 ^ levels m-1)) w (by
  have:=Nat.mul_le_mul e2 (show 2 ^ levels (m:Int)-1<=63 by omega)
  omega)
 unfold treeWants
 generalize eachK kind=E at *
 generalize 2 ^ levels (m:Int)=P at *
 have hmul:(E:Int)*((P:Int)-1)=((E*(P-1):Nat):Int):=by
  obtain⟨M,rfl⟩:∃ M,P=M+1:=⟨P-1,by omega⟩
  rw [Int.natCast_mul]
  congr 1
  omega
 have hb:E*(P-1)<=4*63:=Nat.mul_le_mul e2 (by omega)
 have w1:IntKind.i64.wrap ((P:Int)-1)=(P:Int)-1:=IntWalk.i64_in _ (by omega)
 have w2:IntKind.i64.wrap ((E:Int)*((P:Int)-1))=((E*(P-1):Nat):Int):=by rw [hmul];exact IntWalk.i64_in _ (by omega)
 generalize E*(P-1)=M at *
 clear hmul
 go_enter Tryz.func288,Tryz.ntmps288
 go_wp2_with fail
 refine (hE _).mono ?_
 rintro e w' ⟨rfl,rfl⟩
 go_wp2_with fail
 refine (hL _).mono ?_
 rintro e w' ⟨rfl,rfl⟩
 go_wp2_with fail
 refine (hW _).mono ?_
 rintro e w3 ⟨v,rfl,hv,hx⟩
 have hf:=Lib.hid hv
 clear hv
 go_wp2_with fail
 go_ret
 exact⟨_,rfl,hf.out,hx⟩
end Go.Proofs.YtponihangpiooaaGreat
namespace Go.Proofs.YtponihangpiooaaGreat
open Kv
def lkWants (alg:Int) (N:Nat):List Want :=
 if alg=3 then bwWants N else if alg=4 then filWants N else if alg=5 then fastWants N else if alg=6∨alg=7 then treeWants (eachK alg) N else adWants N
def lkC (alg:Int) (N:Nat) (rs:List Reg):Int:=if alg=1 then 2*N else if alg=2 then N else sumC rs
def lkL (alg:Int) (rs:List Reg):Int:=if alg=1 then 1 else if alg=2 then 0 else if alg=3∨alg=8 then sumL rs+1 else sumL rs
structure LkOk (alg:Int) (N:Nat) (mode base loc room:Int) (rs:List Reg):Prop where
 halg:1<=alg/\alg<=8
 hn:1<=N/\N<=8
 hmode:1<=mode/\mode<=2
 hbase:0<=base/\base<=32768
 hloc:0<=loc/\loc<=32768
 hroom:1<=room/\room<=1048576
 hlay:3<=alg->layM (lkWants alg N) N mode base loc=some rs
 hcells:base+lkC alg N rs<=32768
 hlocals:loc+lkL alg rs<=32768
end Go.Proofs.YtponihangpiooaaGreat
namespace Go.Proofs.YtponihangpiooaaGreat
open Go.RowKit Kv
theorem sizes_p (alg N mode base loc room:Int)(w:World)(h1:1<=N/\N<=8)(h2:1<=room/\room<=1048576) :
  Calls Tryz.prog 361 #[.agg #[.int .i64 alg,.int .i64 N,.int .i64 mode,.int .i64 base,.int .i64 loc,.int .i64 room]] w fun e w'=>e=.returned (.tuple #[.int .i64 N,.int .i64 room])/\Ext w w':=by
 have e1:min (max N 1) 8=N:=by omega
 have e2:min (max room 1) 1048576=room:=by omega
 have hX:=Ext.refl w
 have b1:=Blk.new w (.cells #[.int .i64 alg,.int .i64 N,.int .i64 mode,.int .i64 base,.int .i64 loc,.int .i64 room] 23)
 replace hX:=hX.alloc (.cells #[.int .i64 alg,.int .i64 N,.int .i64 mode,.int .i64 base,.int .i64 loc,.int .i64 room] 23)
 have c_b1:=b1.cells
 go_enter Tryz.func361,Tryz.ntmps361
 go_wp2_with fail
 go_quiet (fail)
 go_wp2_with fail
 first | go_ret2 | go_ret
 exact⟨rfl,hX.drewN _⟩
theorem onethr_p (alg N mode base loc room:Int)(w:World)(h1:1<=N/\N<=8) :
  Calls Tryz.prog 369 #[.agg #[.int .i64 alg,.int .i64 N,.int .i64 mode,.int .i64 base,.int .i64 loc,.int .i64 room]] w fun e w'=>e=.returned (.int .i64 N)/\Ext w w':=by
 have e1:min (max N 1) 8=N:=by omega
 have hX:=Ext.refl w
 have b1:=Blk.new w (.cells #[.int .i64 alg,.int .i64 N,.int .i64 mode,.int .i64 base,.int .i64 loc,.int .i64 room] 23)
 replace hX:=hX.alloc (.cells #[.int .i64 alg,.int .i64 N,.int .i64 mode,.int .i64 base,.int .i64 loc,.int .i64 room] 23)
 have c_b1:=b1.cells
 go_enter Tryz.func369,Tryz.ntmps369
 go_wp2_with fail
 first | go_ret2 | go_ret
 exact⟨rfl,hX⟩
end Go.Proofs.YtponihangpiooaaGreat
namespace Kv
def szV:Option (Int × Int)->Go.Value
 | some (c,l)=>.tuple #[.int .i64 c,.int .i64 l,.bool true]
 | none=>.tuple #[.int .i64 0,.int .i64 0,.bool false]
end Kv
namespace Go.Proofs.YtponihangpiooaaGreat
open Go.RowKit Kv
def lockV (alg N mode base loc room:Int):Value:=.agg #[.int .i64 alg,.int .i64 N,.int .i64 mode,.int .i64 base,.int .i64 loc,.int .i64 room]
theorem psize0_p (A:Option Addr)(c:Nat)(w:World):Calls Tryz.prog 154 #[.slice A 0 c] w fun e w'=>e=.returned (.tuple #[.int .i64 0,.int .i64 0])/\Ext w w':=by
 go_enter Tryz.func154,Tryz.ntmps154
 go_wp2_with fail
 go_loopw [4,5,10] (fun u v i wr=>i=.int .i64 0/\u=.int .i64 0/\v=.int .i64 0/\Ext w wr) (fun _ _ _ _=>0)
 case atStart=>exact⟨rfl,rfl,rfl,Ext.refl w⟩
 case round =>
  obtain⟨rfl,rfl,rfl,hX⟩:=hrel
  go_wp2_with fail
  first | go_ret2 | go_ret
  exact⟨rfl,hX⟩
theorem sizeV_p (v:Value)(rs:List Reg)(w:World)(h:RegsV w v rs)(hok:∀ r∈rs,r.ok)(hl:rs.length<=300) :
  Calls Tryz.prog 154 #[v] w fun e w'=>e=.returned (.tuple #[.int .i64 (sumC rs),.int .i64 (sumL rs)])/\Ext w w':=by
 obtain⟨A,c,rfl,q1,q2,hV⟩:=h
 by_cases h0:rs=[]
 · subst h0
   exact psize0_p A c w
 · obtain⟨b,rfl,hb,hc⟩:=hV (by cases rs with | nil=>exact absurd rfl h0 | cons r l=>simp [regVals])
   exact size_p b c rs w hb hc hok hl
set_option maxRecDepth 100000 in
theorem count1_p (b c:Nat)(m k t:Int)(w:World)(hm:0<=m/\m<=1000000)(h:Blk w b (.cells #[.int .i64 m,.int .i64 k,.int .i64 t] 85)) :
  Calls Tryz.prog 358 #[.slice (some ⟨b,0,none⟩) 1 c] w fun e w'=>e=.returned (.int .i64 m)/\Ext w w':=by
 have cb:=h.cells
 have hb:=h.lt
 go_enter Tryz.func358,Tryz.ntmps358
 go_wp2_with fail
 go_loopw [3,8] (fun s i wr=>∃ j:Nat,i=.int .i64 j/\j<=1/\s=.int .i64 (if j=0 then 0 else m)/\Ext w wr) (fun _ i _=>1-(intOf i).toNat)
 case atStart=>exact⟨0,rfl,by omega,rfl,Ext.refl _⟩
 case round =>
  obtain⟨j,rfl,hj,rfl,hX⟩:=hrel
  by_cases hl:j<1
  · obtain rfl:j=0:=by omega
    rw [if_pos rfl]
    have e0:=(hX.cell (p:=⟨b,0,none⟩) hb).trans (cb 0)
    have e1:=(hX.cell (p:=⟨b,1,none⟩) hb).trans (cb 1)
    have e2:=(hX.cell (p:=⟨b,2,none⟩) hb).trans (cb 2)
    have hxa:=Lib.hid (hX.alloc (.cells #[.int .i64 m,.int .i64 k,.int .i64 t] 85))
    simp only [List.getElem?_toArray,List.getElem?_cons_zero,List.getElem?_cons_succ] at e0 e1 e2
    clear cb h
    go_wp2_with fail
    refine⟨⟨1,by go_num,by omega,by first | rfl | simp,hxa.out⟩,?_⟩
    simp [intOf]
  · obtain rfl:j=1:=by omega
    rw [if_neg (by omega)]
    clear cb h
    go_wp2_with fail
    go_ret
    exact⟨rfl,hX⟩
set_option maxRecDepth 100000 in
theorem count2_p (b c:Nat)(m k t m' k' t':Int)(w:World)(hm:0<=m/\m<=1000000)(hm':0<=m'/\m'<=1000000)(h:Blk w b (.cells #[.int .i64 m,.int .i64 k,.int .i64 t,.int .i64 m',.int .i64 k',.int .i64 t'] 85)) :
  Calls Tryz.prog 358 #[.slice (some ⟨b,0,none⟩) 2 c] w fun e w'=>e=.returned (.int .i64 (m+m'))/\Ext w w':=by
 have cb:=h.cells
 have hb:=h.lt
 go_enter Tryz.func358,Tryz.ntmps358
 go_wp2_with fail
 go_loopw [3,8] (fun s i wr=>∃ j:Nat,i=.int .i64 j/\j<=2/\s=.int .i64 (if j=0 then 0 else if j=1 then m else m+m')/\Ext w wr) (fun _ i _=>2-(intOf i).toNat)
 case atStart=>exact⟨0,rfl,by omega,rfl,Ext.refl _⟩
 case round =>
  obtain⟨j,rfl,hj,rfl,hX⟩:=hrel
  by_cases hl:j<2
  · by_cases hl0:j=0
    · subst hl0
      rw [if_pos rfl]
      have e0:=(hX.cell (p:=⟨b,0,none⟩) hb).trans (cb 0)
      have e1:=(hX.cell (p:=⟨b,1,none⟩) hb).trans (cb 1)
      have e2:=(hX.cell (p:=⟨b,2,none⟩) hb).trans (cb 2)
      have hxa:=Lib.hid (hX.alloc (.cells #[.int .i64 m,.int .i64 k,.int .i64 t] 85))
      simp only [List.getElem?_toArray,List.getElem?_cons_zero,List.getElem?_cons_succ] at e0 e1 e2
      clear cb h
      go_wp2_with fail
      refine⟨⟨1,by go_num,by omega,by first | rfl | simp,hxa.out⟩,?_⟩
      simp [intOf]
    · obtain rfl:j=1:=by omega
      rw [if_neg (by omega),if_pos rfl]
      have e0:=(hX.cell (p:=⟨b,3,none⟩) hb).trans (cb 3)
      have e1:=(hX.cell (p:=⟨b,4,none⟩) hb).trans (cb 4)
      have e2:=(hX.cell (p:=⟨b,5,none⟩) hb).trans (cb 5)
      have hxa:=Lib.hid (hX.alloc (.cells #[.int .i64 m',.int .i64 k',.int .i64 t'] 85))
      simp only [List.getElem?_toArray,List.getElem?_cons_zero,List.getElem?_cons_succ] at e0 e1 e2
      clear cb h
      go_wp2_with fail
      refine⟨⟨2,by go_num,by omega,by first | rfl | simp,hxa.out⟩,?_⟩
      simp [intOf]
  · obtain rfl:j=2:=by omega
    rw [if_neg (by omega),if_neg (by omega)]
    clear cb h
    go_wp2_with fail
    go_ret
    exact⟨rfl,hX⟩
set_option maxRecDepth 100000 in
theorem onestrips_p (alg N mode base loc room:Int)(w:World)(h1:1<=N/\N<=8) :
  Calls Tryz.prog 368 #[lockV alg N mode base loc room] w fun e w'=>∃ b:Nat,e=.returned (.slice (some ⟨b,0,none⟩) 1 1)/\w.heap.size<=b/\Blk w' b (.cells #[.int .i64 N,.int .i64 1,.int .i64 1] 85)/\Ext w w':=by
 have hT:=fun w=>onethr_p alg N mode base loc room w h1
 unfold lockV
 have hX:=Ext.refl w
 have b1:=Blk.new w (.cells #[.int .i64 alg,.int .i64 N,.int .i64 mode,.int .i64 base,.int .i64 loc,.int .i64 room] 23)
 replace hX:=hX.alloc (.cells #[.int .i64 alg,.int .i64 N,.int .i64 mode,.int .i64 base,.int .i64 loc,.int .i64 room] 23)
 have c_b1:=b1.cells
 go_enter Tryz.func368,Tryz.ntmps368
 go_wp2_with fail
 refine (hT _).mono ?_
 rintro e w2 ⟨rfl,hx⟩
 replace hX:=hX.trans hx
 have hb:=Lib.hid (Blk.new w2 (.cells #[.int .i64 N,.int .i64 1,.int .i64 1] 85))
 have hx2:=Lib.hid (hX.alloc (.cells #[.int .i64 N,.int .i64 1,.int .i64 1] 85))
 have hle:=hX.size
 clear hx hX
 go_wp2_with fail
 go_ret
 exact⟨_,rfl,hle,hb.out,hx2.out⟩
set_option maxRecDepth 100000 in
theorem bakstrips_p (alg N mode base loc room:Int)(w:World)(h1:1<=N/\N<=8)(h2:1<=room/\room<=1048576) :
  Calls Tryz.prog 359 #[lockV alg N mode base loc room] w fun e w'=>∃ b:Nat,e=.returned (.slice (some ⟨b,0,none⟩) 2 2)/\w.heap.size<=b/\Blk w' b (.cells #[.int .i64 N,.int .i64 1,.int .i64 1,.int .i64 N,.int .i64 1,.int .i64 room] 85)/\Ext w w':=by
 have hT:=fun w=>sizes_p alg N mode base loc room w h1 h2
 unfold lockV
 have hX:=Ext.refl w
 have b1:=Blk.new w (.cells #[.int .i64 alg,.int .i64 N,.int .i64 mode,.int .i64 base,.int .i64 loc,.int .i64 room] 23)
 replace hX:=hX.alloc (.cells #[.int .i64 alg,.int .i64 N,.int .i64 mode,.int .i64 base,.int .i64 loc,.int .i64 room] 23)
 have c_b1:=b1.cells
 go_enter Tryz.func359,Tryz.ntmps359
 go_wp2_with fail
 refine (hT _).mono ?_
 rintro e w2 ⟨rfl,hx⟩
 replace hX:=hX.trans hx
 have hb:=Lib.hid (Blk.new w2 (.cells #[.int .i64 N,.int .i64 1,.int .i64 1,.int .i64 N,.int .i64 1,.int .i64 room] 85))
 have hx2:=Lib.hid (hX.alloc (.cells #[.int .i64 N,.int .i64 1,.int .i64 1,.int .i64 N,.int .i64 1,.int .i64 room] 85))
 have hle:=hX.size
 clear hx hX
 go_wp2_with fail
 go_ret
 exact⟨_,rfl,hle,hb.out,hx2.out⟩
set_option maxRecDepth 100000 in
theorem baklocals_p (alg N mode base loc room:Int)(w:World) :
  Calls Tryz.prog 360 #[lockV alg N mode base loc room] w fun e w'=>e=.returned (.int .i64 1)/\Ext w w':=by
 unfold lockV
 go_enter Tryz.func360,Tryz.ntmps360
 have hX:=(Ext.refl w).alloc (.cells #[.int .i64 alg,.int .i64 N,.int .i64 mode,.int .i64 base,.int .i64 loc,.int .i64 room] 23)
 go_wp2_with fail
 go_ret
 exact⟨rfl,by first | exact hX | exact Ext.refl _⟩
theorem rows_lessZ {W:World}{B B' e size n:Nat}{v:Value}{xs:List Value}(h:W.ownsRow B e size v n xs)(hB:B'<=B):W.ownsRow B' e size v n xs:=by
 obtain⟨h1,h2⟩:=h
 refine⟨h1,?_⟩
 rcases h2 with h2 | ⟨g,cap,cur,e,hg2,rest⟩
 · exact .inl h2
 · exact .inr ⟨g,cap,cur,e,Nat.le_trans hB hg2,rest⟩
def laidV (F G H:FuncId) (cp:Array Value) (mo:Int):Value:=.agg #[.func (.func F) #[] cp,.int .i64 mo,.func (.func G) #[] #[],.func (.func H) #[] #[]]
set_option maxRecDepth 100000 in
set_option maxHeartbeats 1000000 in
theorem lregs_p (F G H:FuncId)(cp:Array Value)(mo:Int)(l:List Want)(hl:l.length<=1000)(alg N mode base loc room:Int)(w:World)
  (hcf:∀ (args:Array Value) (w:World),(callFunc F args).run Tryz.prog w=.ok (.enter F args) w)
  (hW:∀ W,Ext w W->Calls Tryz.prog F (#[.int .i64 N]++cp) W fun e w'=>∃ v,e=.returned v/\WantsAt w' v l/\Ext W w') :
  Calls Tryz.prog 374 #[laidV F G H cp mo,lockV alg N mode base loc room] w (LayPost w.heap.size w (layM l N mode base loc)):=by
 have hP:=fun v w h=>plan_p v l N mode base loc w h hl
 unfold laidV lockV
 have hX:=Ext.refl w
 have b1:=Blk.new w (.cells #[.func (.func F) #[] cp,.int .i64 mo,.func (.func G) #[] #[],.func (.func H) #[] #[]] 182)
 replace hX:=hX.alloc (.cells #[.func (.func F) #[] cp,.int .i64 mo,.func (.func G) #[] #[],.func (.func H) #[] #[]] 182)
 have b2:=Blk.new (w.alloc (.cells #[.func (.func F) #[] cp,.int .i64 mo,.func (.func G) #[] #[],.func (.func H) #[] #[]] 182)) (.cells #[.int .i64 alg,.int .i64 N,.int .i64 mode,.int .i64 base,.int .i64 loc,.int .i64 room] 23)
 simp only [World.size_alloc] at b2
 replace b1:=b1.alloc (.cells #[.int .i64 alg,.int .i64 N,.int .i64 mode,.int .i64 base,.int .i64 loc,.int .i64 room] 23)
 replace hX:=hX.alloc (.cells #[.int .i64 alg,.int .i64 N,.int .i64 mode,.int .i64 base,.int .i64 loc,.int .i64 room] 23)
 have c_b1:=b1.cells
 have c_b2:=b2.cells
 generalize layM l N mode base loc=o at *
 go_enter Tryz.func374,Tryz.ntmps374
 go_wp2_with fail
 have hX0:=hX
 clear c_b1 c_b2
 have hS:∀ w',Ext w w'->(∀ i,w'.cell? ⟨w.heap.size,i,none⟩=(#[.func (.func F) #[] cp,.int .i64 mo,.func (.func G) #[] #[],.func (.func H) #[] #[]]:Array Value)[i]?)->True:=fun _ _ _=>trivial
 clear hS
 generalize hWW:World.alloc (World.alloc w _) _=W at *
 have hS:∀ w',Ext W w'->(∀ i,w'.cell? ⟨w.heap.size,i,none⟩=(#[.func (.func F) #[] cp,.int .i64 mo,.func (.func G) #[] #[],.func (.func H) #[] #[]]:Array Value)[i]?)/\(∀ i,w'.cell? ⟨w.heap.size+1,i,none⟩=(#[.int .i64 alg,.int .i64 N,.int .i64 mode,.int .i64 base,.int .i64 loc,.int .i64 room]:Array Value)[i]?):=fun w' hx=>⟨(b1.ext hx).cells,(b2.ext hx).cells⟩
 clear hWW
 refine wp_region_held_drew (S:=fun w'=>(∀ i,w'.cell? ⟨w.heap.size,i,none⟩=(#[.func (.func F) #[] cp,.int .i64 mo,.func (.func G) #[] #[],.func (.func H) #[] #[]]:Array Value)[i]?)/\(∀ i,w'.cell? ⟨w.heap.size+1,i,none⟩=(#[.int .i64 alg,.int .i64 N,.int .i64 mode,.int .i64 base,.int .i64 loc,.int .i64 room]:Array Value)[i]?)) rfl (hS _ (Ext.refl W).drew) (fun hHeld=>?_)
 refine tkb 0 ?_
 iterate 4
  refine tkn (v:=?_) rfl (by kernel_rfl) (fun _ _ _ h=>h) (by assumption) ?_ ?_
  rotate_left
  · (intro w hSw;(try dsimp only at hSw);go_simp;try with_reducible rfl)
  try simp only [put_pack]
 refine tke ?_
 refine tkb 5 ?_
 iterate 8
  refine tkn (v:=?_) rfl (by kernel_rfl) (fun _ _ _ h=>h) (by assumption) ?_ ?_
  rotate_left
  · (intro w hSw;(try dsimp only at hSw);go_simp;try with_reducible rfl)
  try simp only [put_pack]
 refine tke ?_
 refine wpAnyH_ready (rs:=[4]) (by kernel_rfl) (by simp) ?_
 refine AllReadyH.cons rfl (fun K hKK=>?_) (AllReadyH.nil)
 go_simp
 refine (hW _ hX0.drew).mono ?_
 rintro e w2 ⟨v,rfl,hw,hx⟩
 have hx2:=(Ext.refl W).drew.trans hx
 clear hx hW
 refine hKK.out _ _ (hS _ hx2) (fun hHeld=>?_)
 clear hKK K
 try dsimp only
 refine wpAnyH_ready (rs:=[13]) (by kernel_rfl) (by simp) ?_
 refine AllReadyH.cons rfl (fun K hKK=>?_) (AllReadyH.nil)
 go_simp
 refine (hP v _ hw).mono ?_
 rintro e w3 ⟨hx,hr⟩
 have hx3:=hx2.trans hx
 have hle:w.heap.size<=w2.heap.size:=(hX0.trans hx2).size
 have hXf:=Lib.hid (hX0.trans hx3)
 cases o with
 | none =>
   obtain⟨x,hx0,rfl⟩:=hr
   have hx0h:=Lib.hid hx0
   clear hx0
   refine hKK.out _ _ (hS _ hx3) (fun hHeld=>?_)
   clear hKK K
   try dsimp only
   refine tkb 14 ?_
   iterate 4
    refine tkn (v:=?_) rfl (by kernel_rfl) (fun _ _ _ h=>h) (by assumption) ?_ ?_
    rotate_left
    · (intro w hSw;(try dsimp only at hSw);go_simp;try with_reducible rfl)
    try simp only [put_pack]
   refine tke ?_
   refine wpAnyH_done (by kernel_rfl) ?_ _
   go_simp
   go_wp2_with fail
   refine bodyPost_ret (v:=.tuple #[.slice none 0 0,.int .i64 x]) (by simp [results,Tryz.results374,go_sem]) rfl ?_
   exact⟨hXf.out,x,hx0h.out,rfl⟩
 | some rs =>
   obtain⟨v3,rfl,hr3⟩:=hr
   have hr3h:=Lib.hid hr3
   clear hr3
   refine hKK.out _ _ (hS _ hx3) (fun hHeld=>?_)
   clear hKK K
   try dsimp only
   refine tkb 14 ?_
   iterate 4
    refine tkn (v:=?_) rfl (by kernel_rfl) (fun _ _ _ h=>h) (by assumption) ?_ ?_
    rotate_left
    · (intro w hSw;(try dsimp only at hSw);go_simp;try with_reducible rfl)
    try simp only [put_pack]
   refine tke ?_
   refine wpAnyH_done (by kernel_rfl) ?_ _
   go_simp
   go_wp2_with fail
   refine bodyPost_ret (v:=.tuple #[v3,.int .i64 0]) (by simp [results,Tryz.results374,go_sem]) rfl ?_
   exact⟨hXf.out,v3,rfl,rows_lessZ hr3h.out hle⟩
theorem lkWants_leP (alg:Int){N:Nat}(h1:1<=N)(h2:N<=8):(lkWants alg N).length<=300:=by
 unfold lkWants
 split
 · rw [bwWants_len];omega
 · split
   · rw [filWants_len];omega
   · split
     · rw [fastWants_len];omega
     · split
       · unfold treeWants
         rw [List.length_replicate]
         have hE:=(each_le alg).2
         have hle:=(pow_le (lev_le (show N<=64 by omega))).2
         have:=Nat.mul_le_mul hE (show 2 ^ levels (N:Int)-1<=63 by omega)
         omega
       · rw [adWants_len]
         have:=adTree_le h1 h2
         have:=(triN_le h1 h2).2
         omega
set_option maxRecDepth 100000 in
set_option maxHeartbeats 1000000 in
theorem laidsize_p (F G H:FuncId)(cp:Array Value)(mo:Int)(hmo:0<=mo/\mo<=1)(l:List Want)(hl:l.length<=300)(alg N mode base loc room:Int)(w:World)
  (hcf:∀ (args:Array Value) (w:World),(callFunc F args).run Tryz.prog w=.ok (.enter F args) w)
  (hW:∀ W,Ext w W->Calls Tryz.prog F (#[.int .i64 N]++cp) W fun e w'=>∃ v,e=.returned v/\WantsAt w' v l/\Ext W w') :
  Calls Tryz.prog 372 #[laidV F G H cp mo,lockV alg N mode base loc room] w fun e w'=>e=.returned (szV ((layM l N mode base loc).map fun rs=>(sumC rs,sumL rs+mo)))/\Ext w w':=by
 have hR:=fun W (hx:Ext w W)=>lregs_p F G H cp mo l (by omega) alg N mode base loc room W hcf fun V hV=>hW V (hx.trans hV)
 have hok:∀ rs,layM l N mode base loc=some rs->(∀ r∈rs,r.ok)/\rs.length<=300:=fun rs h=>⟨fun r hr=>(laid_all h r hr).1,by rw [layM_len h];exact hl⟩
 unfold laidV lockV at hR ⊢
 have hX:=Ext.refl w
 have b1:=Blk.new w (.cells #[.func (.func F) #[] cp,.int .i64 mo,.func (.func G) #[] #[],.func (.func H) #[] #[]] 182)
 replace hX:=hX.alloc (.cells #[.func (.func F) #[] cp,.int .i64 mo,.func (.func G) #[] #[],.func (.func H) #[] #[]] 182)
 have b2:=Blk.new (w.alloc (.cells #[.func (.func F) #[] cp,.int .i64 mo,.func (.func G) #[] #[],.func (.func H) #[] #[]] 182)) (.cells #[.int .i64 alg,.int .i64 N,.int .i64 mode,.int .i64 base,.int .i64 loc,.int .i64 room] 23)
 simp only [World.size_alloc] at b2
 replace b1:=b1.alloc (.cells #[.int .i64 alg,.int .i64 N,.int .i64 mode,.int .i64 base,.int .i64 loc,.int .i64 room] 23)
 replace hX:=hX.alloc (.cells #[.int .i64 alg,.int .i64 N,.int .i64 mode,.int .i64 base,.int .i64 loc,.int .i64 room] 23)
 have c_b1:=b1.cells
 have c_b2:=b2.cells
 generalize layM l N mode base loc=o at *
 clear hW
 go_enter Tryz.func372,Tryz.ntmps372
 go_wp2_with fail
 refine (hR _ hX).mono ?_
 rintro e w2 ⟨hx,hr⟩
 replace b1:=b1.ext hx
 replace hX:=hX.trans hx
 clear c_b1 c_b2 hR hx
 cases o with
 | none =>
   obtain⟨x,hx0,rfl⟩:=hr
   have d0:(x==0)=false:=by rw [beq_eq_false_iff_ne];exact hx0
   have d1:(x != 0)=true:=by rw [bne_iff_ne];exact hx0
   clear hx0 hok
   go_wp2_with fail
   exact bodyPost_ret (v:=.tuple #[.int .i64 0,.int .i64 0,.bool false]) (by simp [results,Tryz.results372,go_sem]) rfl ⟨rfl,hX⟩
 | some rs =>
   obtain⟨v3,rfl,hr3⟩:=hr
   obtain⟨hok1,hok2⟩:=hok rs rfl
   have hbd:=(sum_bd hok1 rs.length (Nat.le_refl _)).2
   rw [List.take_length] at hbd
   have hS:=fun w h=>sizeV_p v3 rs w h hok1 hok2
   have hr4:=Lib.hid (Recs.of_row hr3)
   clear hok hok1 hr3
   go_wp2_with fail
   refine (hS _ hr4.out).mono ?_
   rintro e w3 ⟨rfl,hx⟩
   replace b1:=b1.ext hx
   replace hX:=hX.trans hx
   have wr1:IntKind.i64.wrap (sumL rs+mo)=sumL rs+mo:=IntWalk.i64_in _ (by omega)
   clear hS hx
   have hS:∀ w',Ext w3 w'->w'.cell? ⟨w.heap.size,1,none⟩=some (.int .i64 mo):=fun w' hx=>(b1.ext hx).cells 1
   have hXf:=Lib.hid hX.drew
   go_wp2_with fail
   refine wp_region_held_drew (S:=fun w'=>w'.cell? ⟨w.heap.size,1,none⟩=some (.int .i64 mo)) rfl (hS _ (Ext.refl w3).drew) (fun hHeld=>?_)
   refine tkb 0 ?_
   iterate 8
    refine tkn (v:=?_) rfl (by kernel_rfl) (fun _ _ _ h=>h) (by assumption) ?_ ?_
    rotate_left
    · (intro w hSw;(try dsimp only at hSw);go_simp;try with_reducible rfl)
    try simp only [put_pack]
   refine tke ?_
   refine wpAnyH_done (by kernel_rfl) ?_ _
   go_simp
   go_wp2_with fail
   exact bodyPost_ret (v:=.tuple #[.int .i64 (sumC rs),.int .i64 (sumL rs+mo),.bool true]) (by simp [results,Tryz.results372,go_sem]) rfl ⟨rfl,hXf.out⟩
set_option maxRecDepth 100000 in
set_option maxHeartbeats 1000000 in
theorem laidstrips_p (F G H:FuncId)(cp:Array Value)(mo:Int)(l:List Want)(hl:l.length<=300)(alg N mode base loc room:Int)(w:World)(rs:List Reg)(hrs:layM l N mode base loc=some rs)
  (hcf:∀ (args:Array Value) (w:World),(callFunc F args).run Tryz.prog w=.ok (.enter F args) w)
  (hW:∀ W,Ext w W->Calls Tryz.prog F (#[.int .i64 N]++cp) W fun e w'=>∃ v,e=.returned v/\WantsAt w' v l/\Ext W w') :
  Calls Tryz.prog 373 #[laidV F G H cp mo,lockV alg N mode base loc room] w fun e w'=>∃ v,e=.returned v/\FRecs w.heap.size w' v (sumN rs) (rs.flatMap svals)/\Ext w w':=by
 have hR:=fun W (hx:Ext w W)=>lregs_p F G H cp mo l (by omega) alg N mode base loc room W hcf fun V hV=>hW V (hx.trans hV)
 rw [hrs] at hR
 have hok1:∀ r∈rs,(r.kind=1∨r.kind=6∨r.kind=7)/\1<=r.n/\r.n<=8:=fun r hr=>⟨(laid_all hrs r hr).1.kind,(laid_all hrs r hr).1.n⟩
 have hok2:rs.length<=1000:=by rw [layM_len hrs];omega
 unfold laidV lockV at hR ⊢
 have hX:=Ext.refl w
 have b1:=Blk.new w (.cells #[.func (.func F) #[] cp,.int .i64 mo,.func (.func G) #[] #[],.func (.func H) #[] #[]] 182)
 replace hX:=hX.alloc (.cells #[.func (.func F) #[] cp,.int .i64 mo,.func (.func G) #[] #[],.func (.func H) #[] #[]] 182)
 have b2:=Blk.new (w.alloc (.cells #[.func (.func F) #[] cp,.int .i64 mo,.func (.func G) #[] #[],.func (.func H) #[] #[]] 182)) (.cells #[.int .i64 alg,.int .i64 N,.int .i64 mode,.int .i64 base,.int .i64 loc,.int .i64 room] 23)
 simp only [World.size_alloc] at b2
 replace b1:=b1.alloc (.cells #[.int .i64 alg,.int .i64 N,.int .i64 mode,.int .i64 base,.int .i64 loc,.int .i64 room] 23)
 replace hX:=hX.alloc (.cells #[.int .i64 alg,.int .i64 N,.int .i64 mode,.int .i64 base,.int .i64 loc,.int .i64 room] 23)
 have c_b1:=b1.cells
 have c_b2:=b2.cells
 clear hW hrs
 go_enter Tryz.func373,Tryz.ntmps373
 go_wp2_with fail
 refine (hR _ hX).mono ?_
 rintro e w2 ⟨hx,v3,rfl,hr3⟩
 replace hX:=hX.trans hx
 have hr4:=Lib.hid (Recs.of_row hr3)
 clear c_b1 c_b2 hR hx hr3
 go_wp2_with fail
 refine (pstrips_p v3 rs _ hr4.out hok1 hok2).mono ?_
 rintro e w3 ⟨v,rfl,hf,hx⟩
 have hff:=Lib.hid (And.intro (hf.less hX.size) (hX.trans hx))
 clear hf hx hr4
 go_wp2_with fail
 go_ret
 exact⟨_,rfl,hff.out.1,hff.out.2⟩
end Go.Proofs.YtponihangpiooaaGreat
namespace Kv
def lkSz (lay:Option (List Reg)) (alg:Int) (N:Nat):Option (Int × Int) :=
 if alg=1 then some (2*(N:Int),1) else if alg=2 then some ((N:Int),0) else lay.map fun rs=>(sumC rs,sumL rs+(if alg=3∨alg=8 then 1 else 0))
end Kv
namespace Go.Proofs.YtponihangpiooaaGreat
open Go.RowKit Kv
def lkS (alg:Int) (N:Nat) (room:Int) (rs:List Reg):List Value :=
 if alg=1 then [.int .i64 N,.int .i64 1,.int .i64 1,.int .i64 N,.int .i64 1,.int .i64 room] else if alg=2 then [.int .i64 N,.int .i64 1,.int .i64 1] else rs.flatMap svals
def lkM (alg:Int) (rs:List Reg):Nat:=if alg=1 then 2 else if alg=2 then 1 else sumN rs
set_option maxRecDepth 100000 in
theorem baksize_p (alg N mode base loc room:Int)(w:World)(h1:1<=N/\N<=8)(h2:1<=room/\room<=1048576) :
  Calls Tryz.prog 354 #[.agg #[],lockV alg N mode base loc room] w fun e w'=>e=.returned (szV (some (2*N,1)))/\Ext w w':=by
 have hS:=fun w=>bakstrips_p alg N mode base loc room w h1 h2
 have hL:=fun w=>baklocals_p alg N mode base loc room w
 unfold lockV at *
 have hw:N+N=2*N:=by omega
 have hX:=Ext.refl w
 have b1:=Blk.new w (.cells #[] 178)
 replace hX:=hX.alloc (.cells #[] 178)
 have b2:=Blk.new (w.alloc (.cells #[] 178)) (.cells #[.int .i64 alg,.int .i64 N,.int .i64 mode,.int .i64 base,.int .i64 loc,.int .i64 room] 23)
 simp only [World.size_alloc] at b2
 replace b1:=b1.alloc (.cells #[.int .i64 alg,.int .i64 N,.int .i64 mode,.int .i64 base,.int .i64 loc,.int .i64 room] 23)
 replace hX:=hX.alloc (.cells #[.int .i64 alg,.int .i64 N,.int .i64 mode,.int .i64 base,.int .i64 loc,.int .i64 room] 23)
 have c_b1:=b1.cells
 have c_b2:=b2.cells
 go_enter Tryz.func354,Tryz.ntmps354
 go_wp2_with fail
 generalize hWW:World.alloc (World.alloc w _) _=W at *
 clear hWW c_b1 c_b2 b1
 have hS2:∀ w',Ext W w'->∀ i,w'.cell? ⟨w.heap.size+1,i,none⟩=(#[.int .i64 alg,.int .i64 N,.int .i64 mode,.int .i64 base,.int .i64 loc,.int .i64 room]:Array Value)[i]?:=fun w' hx=>(b2.ext hx).cells
 refine wp_region_held_drew (S:=fun w'=>∀ i,w'.cell? ⟨w.heap.size+1,i,none⟩=(#[.int .i64 alg,.int .i64 N,.int .i64 mode,.int .i64 base,.int .i64 loc,.int .i64 room]:Array Value)[i]?) rfl (hS2 _ (Ext.refl W).drew) (fun hHeld=>?_)
 refine tk 0 (v:=?_) rfl (by kernel_rfl) (fun _ _ _ h=>h) (by assumption) ?_ ?_
 rotate_left
 · (intro w hSw;(try dsimp only at hSw);go_simp;try with_reducible rfl)
 try simp only [put_pack]
 refine tk 3 (v:=?_) rfl (by kernel_rfl) (fun _ _ _ h=>h) (by assumption) ?_ ?_
 rotate_left
 · (intro w hSw;(try dsimp only at hSw);go_simp;try with_reducible rfl)
 try simp only [put_pack]
 refine wpAnyH_ready (rs:=[1]) (by kernel_rfl) (by simp) ?_
 refine AllReadyH.cons rfl (fun K hKK=>?_) (AllReadyH.nil)
 go_simp
 refine (hS _).mono ?_
 rintro e w2 ⟨b,rfl,-,hb,hx⟩
 have hx2:=(Ext.refl W).drew.trans hx
 clear hx hS
 refine hKK.out _ _ (hS2 _ hx2) (fun hHeld=>?_)
 clear hKK K
 try dsimp only
 refine wpAnyH_ready (rs:=[2]) (by kernel_rfl) (by simp) ?_
 refine AllReadyH.cons rfl (fun K hKK=>?_) (AllReadyH.nil)
 go_simp
 refine (count2_p b 2 N 1 1 N 1 room _ (by omega) (by omega) hb).mono ?_
 rintro e w3 ⟨rfl,hx⟩
 rw [hw]
 replace hx2:=hx2.trans hx
 clear hx hb
 refine hKK.out _ _ (hS2 _ hx2) (fun hHeld=>?_)
 clear hKK K
 try dsimp only
 refine wpAnyH_ready (rs:=[4]) (by kernel_rfl) (by simp) ?_
 refine AllReadyH.cons rfl (fun K hKK=>?_) (AllReadyH.nil)
 go_simp
 refine (hL _).mono ?_
 rintro e w4 ⟨rfl,hx⟩
 replace hx2:=hx2.trans hx
 clear hx hL
 refine hKK.out _ _ (hS2 _ hx2) (fun hHeld=>?_)
 clear hKK K
 try dsimp only
 have hf:=Lib.hid (hX.trans hx2)
 refine tkb 5 ?_
 iterate 3
  refine tkn (v:=?_) rfl (by kernel_rfl) (fun _ _ _ h=>h) (by assumption) ?_ ?_
  rotate_left
  · (intro w hSw;(try dsimp only at hSw);go_simp;try with_reducible rfl)
  try simp only [put_pack]
 refine tke ?_
 refine wpAnyH_done (by kernel_rfl) ?_ _
 go_simp
 go_wp2_with fail
 exact bodyPost_ret (v:=.tuple #[.int .i64 (2*N),.int .i64 1,.bool true]) (by simp [results,Tryz.results354,go_sem]) rfl ⟨rfl,hf.out⟩
set_option maxRecDepth 100000 in
theorem bitsize_p (alg N mode base loc room:Int)(w:World)(h1:1<=N/\N<=8) :
  Calls Tryz.prog 364 #[.agg #[],lockV alg N mode base loc room] w fun e w'=>e=.returned (szV (some (N,0)))/\Ext w w':=by
 have hS:=fun w=>onestrips_p alg N mode base loc room w h1
 unfold lockV at *
 have hX:=Ext.refl w
 have b1:=Blk.new w (.cells #[] 179)
 replace hX:=hX.alloc (.cells #[] 179)
 have b2:=Blk.new (w.alloc (.cells #[] 179)) (.cells #[.int .i64 alg,.int .i64 N,.int .i64 mode,.int .i64 base,.int .i64 loc,.int .i64 room] 23)
 simp only [World.size_alloc] at b2
 replace b1:=b1.alloc (.cells #[.int .i64 alg,.int .i64 N,.int .i64 mode,.int .i64 base,.int .i64 loc,.int .i64 room] 23)
 replace hX:=hX.alloc (.cells #[.int .i64 alg,.int .i64 N,.int .i64 mode,.int .i64 base,.int .i64 loc,.int .i64 room] 23)
 have c_b1:=b1.cells
 have c_b2:=b2.cells
 go_enter Tryz.func364,Tryz.ntmps364
 go_wp2_with fail
 refine (hS _).mono ?_
 rintro e w2 ⟨b,rfl,-,hb,hx⟩
 replace hX:=hX.trans hx
 clear hx hS c_b1 c_b2
 go_wp2_with fail
 refine (count1_p b 1 N 1 1 _ (by omega) hb).mono ?_
 rintro e w3 ⟨rfl,hx⟩
 replace hX:=hX.trans hx
 clear hx hb
 go_wp2_with fail
 exact bodyPost_ret (v:=.tuple #[.int .i64 N,.int .i64 0,.bool true]) (by simp [results,Tryz.results364,go_sem]) rfl ⟨rfl,hX⟩
theorem FRecs.of_blk {B b n:Nat}{w:World}{vals:List Value}{t:TypeId}(h:Blk w b (.cells vals.toArray t))(hb:B<=b)(hn:n<=1000000):FRecs B w (.slice (some ⟨b,0,none⟩) n n) n vals :=
 ⟨_,_,rfl,Nat.le_refl _,by omega,(fun h=>nomatch h),fun ad he=>⟨b,(Option.some.inj he).symm,hb,h.lt⟩,fun g hg i u hu=>by
  obtain rfl:b=g:=by simpa using hg
  rw [h.cells i,<- hu]
  exact List.getElem?_toArray ..⟩
set_option maxRecDepth 100000 in
theorem bakstr_p (alg N mode base loc room:Int)(w:World)(h1:1<=N/\N<=8)(h2:1<=room/\room<=1048576) :
  Calls Tryz.prog 355 #[.agg #[],lockV alg N mode base loc room] w fun e w'=>∃ v,e=.returned v/\FRecs w.heap.size w' v 2 [.int .i64 N,.int .i64 1,.int .i64 1,.int .i64 N,.int .i64 1,.int .i64 room]/\Ext w w':=by
 have hS:=fun w=>bakstrips_p alg N mode base loc room w h1 h2
 unfold lockV at *
 have hX:=Ext.refl w
 have b1:=Blk.new w (.cells #[] 178)
 replace hX:=hX.alloc (.cells #[] 178)
 have b2:=Blk.new (w.alloc (.cells #[] 178)) (.cells #[.int .i64 alg,.int .i64 N,.int .i64 mode,.int .i64 base,.int .i64 loc,.int .i64 room] 23)
 simp only [World.size_alloc] at b2
 replace b1:=b1.alloc (.cells #[.int .i64 alg,.int .i64 N,.int .i64 mode,.int .i64 base,.int .i64 loc,.int .i64 room] 23)
 replace hX:=hX.alloc (.cells #[.int .i64 alg,.int .i64 N,.int .i64 mode,.int .i64 base,.int .i64 loc,.int .i64 room] 23)
 have c_b1:=b1.cells
 have c_b2:=b2.cells
 go_enter Tryz.func355,Tryz.ntmps355
 go_wp2_with fail
 refine (hS _).mono ?_
 rintro e w2 ⟨b,rfl,hb0,hb,hx⟩
 have hle:=hX.size
 replace hX:=hX.trans hx
 have hf:=Lib.hid (FRecs.of_blk (B:=w.heap.size) (n:=2) (vals:=[.int .i64 N,.int .i64 1,.int .i64 1,.int .i64 N,.int .i64 1,.int .i64 room]) hb (by omega) (by omega))
 clear hx hS c_b1 c_b2 hb
 go_wp2_with fail
 go_ret
 exact⟨_,rfl,hf.out,hX⟩
set_option maxRecDepth 100000 in
theorem bitstr_p (alg N mode base loc room:Int)(w:World)(h1:1<=N/\N<=8) :
  Calls Tryz.prog 365 #[.agg #[],lockV alg N mode base loc room] w fun e w'=>∃ v,e=.returned v/\FRecs w.heap.size w' v 1 [.int .i64 N,.int .i64 1,.int .i64 1]/\Ext w w':=by
 have hS:=fun w=>onestrips_p alg N mode base loc room w h1
 unfold lockV at *
 have hX:=Ext.refl w
 have b1:=Blk.new w (.cells #[] 179)
 replace hX:=hX.alloc (.cells #[] 179)
 have b2:=Blk.new (w.alloc (.cells #[] 179)) (.cells #[.int .i64 alg,.int .i64 N,.int .i64 mode,.int .i64 base,.int .i64 loc,.int .i64 room] 23)
 simp only [World.size_alloc] at b2
 replace b1:=b1.alloc (.cells #[.int .i64 alg,.int .i64 N,.int .i64 mode,.int .i64 base,.int .i64 loc,.int .i64 room] 23)
 replace hX:=hX.alloc (.cells #[.int .i64 alg,.int .i64 N,.int .i64 mode,.int .i64 base,.int .i64 loc,.int .i64 room] 23)
 have c_b1:=b1.cells
 have c_b2:=b2.cells
 go_enter Tryz.func365,Tryz.ntmps365
 go_wp2_with fail
 refine (hS _).mono ?_
 rintro e w2 ⟨b,rfl,hb0,hb,hx⟩
 have hle:=hX.size
 replace hX:=hX.trans hx
 have hf:=Lib.hid (FRecs.of_blk (B:=w.heap.size) (n:=1) (vals:=[.int .i64 N,.int .i64 1,.int .i64 1]) hb (by omega) (by omega))
 clear hx hS c_b1 c_b2 hb
 go_wp2_with fail
 go_ret
 exact⟨_,rfl,hf.out,hX⟩
set_option maxRecDepth 100000 in
theorem of1_w (alg:Int)(N x:Nat)(w:World)(h1:1<=N)(h2:N<=8)(hx:w.cell? ⟨x,0,none⟩=some (.int .i64 alg)) :
  Calls Tryz.prog 120 #[.int .i64 N,.pointer (some ⟨x,0,none⟩)] w fun e w'=>∃ v,e=.returned v/\WantsAt w' v (treeWants (eachK alg) N)/\Ext w w':=by
 go_enter Tryz.func120,Tryz.ntmps120
 go_wp2_with fail
 refine (twants_p alg N _ h1 (by omega)).mono ?_
 rintro e w2 ⟨v,rfl,hw,hx2⟩
 have hf:=Lib.hid hw
 clear hw
 go_wp2_with fail
 go_ret
 exact⟨_,rfl,hf.out,hx2⟩
structure LkIs (W1:World) (alg:Int) (N:Nat) (mode base loc room:Int) (Y:TypeId) (a:Array Value):Prop where
 size:∃ M,(∀ w,(method 437 Y (.agg a) "kevel/lock.size").run Tryz.prog w=.ok (M,.agg a) w)/\(∀ (args:Array Value) (w:World),(callFunc M args).run Tryz.prog w=.ok (.enter M args) w) /\
  ∀ W,Ext W1 W->Calls Tryz.prog M #[.agg a,lockV alg N mode base loc room] W fun e w'=>e=.returned (szV (lkSz (layM (lkWants alg N) N mode base loc) alg N))/\Ext W w'
 strips:∃ M,(∀ w,(method 437 Y (.agg a) "kevel/lock.strips").run Tryz.prog w=.ok (M,.agg a) w)/\(∀ (args:Array Value) (w:World),(callFunc M args).run Tryz.prog w=.ok (.enter M args) w) /\
  ∀ W,Ext W1 W->∀ rs,(3<=alg->layM (lkWants alg N) N mode base loc=some rs)->Calls Tryz.prog M #[.agg a,lockV alg N mode base loc room] W fun e w'=>∃ v,e=.returned v/\FRecs W.heap.size w' v (lkM alg rs) (lkS alg N room rs)/\Ext W w'
set_option maxRecDepth 100000 in
theorem lkis_bak (W1:World)(N:Nat)(mode base loc room:Int)(h1:1<=N/\N<=8)(h2:1<=room/\room<=1048576):LkIs W1 1 N mode base loc room 178 #[] :=
 ⟨⟨354,fun _=>by kernel_rfl,fun _ _=>by kernel_rfl,fun W _=>baksize_p 1 N mode base loc room W (by omega) h2⟩,
  ⟨355,fun _=>by kernel_rfl,fun _ _=>by kernel_rfl,fun W _ _ _=>bakstr_p 1 N mode base loc room W (by omega) h2⟩⟩
set_option maxRecDepth 100000 in
theorem lkis_bit (W1:World)(N:Nat)(mode base loc room:Int)(h1:1<=N/\N<=8):LkIs W1 2 N mode base loc room 179 #[] :=
 ⟨⟨364,fun _=>by kernel_rfl,fun _ _=>by kernel_rfl,fun W _=>bitsize_p 2 N mode base loc room W (by omega)⟩,
  ⟨365,fun _=>by kernel_rfl,fun _ _=>by kernel_rfl,fun W _ _ _=>bitstr_p 2 N mode base loc room W (by omega)⟩⟩
set_option maxRecDepth 100000 in
theorem lkis_laid (W1:World)(alg:Int)(h3:3<=alg)(N:Nat)(mode base loc room:Int)(h1:1<=N/\N<=8)(F G H:FuncId)(cp:Array Value)(mo:Int)(hmo:mo=if alg=3∨alg=8 then 1 else 0)
  (hcf:∀ (args:Array Value) (w:World),(callFunc F args).run Tryz.prog w=.ok (.enter F args) w)
  (hW:∀ W,Ext W1 W->Calls Tryz.prog F (#[.int .i64 N]++cp) W fun e w'=>∃ v,e=.returned v/\WantsAt w' v (lkWants alg N)/\Ext W w') :
  LkIs W1 alg N mode base loc room 182 #[.func (.func F) #[] cp,.int .i64 mo,.func (.func G) #[] #[],.func (.func H) #[] #[]]:=by
 have hl:=lkWants_leP alg h1.1 h1.2
 have hm:0<=mo/\mo<=1:=by rw [hmo];split <;> omega
 refine⟨⟨372,fun _=>by kernel_rfl,fun _ _=>by kernel_rfl,fun W hX=>?_⟩,⟨373,fun _=>by kernel_rfl,fun _ _=>by kernel_rfl,fun W hX rs hrs=>?_⟩⟩
 · have h:=laidsize_p F G H cp mo hm (lkWants alg N) hl alg N mode base loc room W hcf fun V hV=>hW V (hX.trans hV)
   unfold lkSz
   rw [if_neg (by omega),if_neg (by omega),<- hmo]
   exact h
 · have h:=laidstrips_p F G H cp mo (lkWants alg N) hl alg N mode base loc room W rs (hrs h3) hcf fun V hV=>hW V (hX.trans hV)
   unfold lkM lkS
   rw [if_neg (by omega),if_neg (by omega),if_neg (by omega),if_neg (by omega)]
   exact h
set_option maxRecDepth 100000 in
theorem lof_p (alg:Int)(N:Nat)(mode base loc room:Int)(w:World)(ha:1<=alg/\alg<=8)(h1:1<=N/\N<=8)(h2:1<=room/\room<=1048576) :
  Calls Tryz.prog 52 #[.int .i64 alg] w fun e w'=>∃ Y a,e=.returned (.iface Y (.agg a))/\Ext w w'/\LkIs w' alg N mode base loc room Y a:=by
 have hX:=(Ext.refl w).alloc (.cells #[.int .i64 alg] 3)
 have hx:=(Blk.new w (.cells #[.int .i64 alg] 3))
 have:alg=1∨alg=2∨alg=3∨alg=4∨alg=5∨alg=6∨alg=7∨alg=8:=by omega
 rcases this with rfl | rfl | rfl | rfl | rfl | rfl | rfl | rfl
 · have hL:=Lib.hid (lkis_bak (w.alloc (.cells #[.int .i64 1] 3)) N mode base loc room h1 h2)
   clear hx
   go_enter Tryz.func52,Tryz.ntmps52
   go_wp2_with fail
   go_ret
   exact⟨_,_,rfl,hX,hL.out⟩
 · have hL:=Lib.hid (lkis_bit (w.alloc (.cells #[.int .i64 2] 3)) N mode base loc room h1)
   clear hx
   go_enter Tryz.func52,Tryz.ntmps52
   go_wp2_with fail
   go_ret
   exact⟨_,_,rfl,hX,hL.out⟩
 · have hL:=Lib.hid (lkis_laid (w.alloc (.cells #[.int .i64 3] 3)) 3 (by omega) N mode base loc room h1 111 112 113 #[] 1 rfl (fun _ _=>by kernel_rfl) fun W _=>bwwants_p N W h1.1 h1.2)
   clear hx
   go_enter Tryz.func52,Tryz.ntmps52
   go_wp2_with fail
   go_ret
   exact⟨_,_,rfl,hX,hL.out⟩
 · have hL:=Lib.hid (lkis_laid (w.alloc (.cells #[.int .i64 4] 3)) 4 (by omega) N mode base loc room h1 114 115 116 #[] 0 rfl (fun _ _=>by kernel_rfl) fun W _=>filwants_p N W h1.1 h1.2)
   clear hx
   go_enter Tryz.func52,Tryz.ntmps52
   go_wp2_with fail
   go_ret
   exact⟨_,_,rfl,hX,hL.out⟩
 · have hL:=Lib.hid (lkis_laid (w.alloc (.cells #[.int .i64 5] 3)) 5 (by omega) N mode base loc room h1 117 118 119 #[] 0 rfl (fun _ _=>by kernel_rfl) fun W _=>fastwants_p N W h1.1 h1.2)
   clear hx
   go_enter Tryz.func52,Tryz.ntmps52
   go_wp2_with fail
   go_ret
   exact⟨_,_,rfl,hX,hL.out⟩
 · have hL:=Lib.hid (lkis_laid (w.alloc (.cells #[.int .i64 6] 3)) 6 (by omega) N mode base loc room h1 120 122 123 #[.pointer (some ⟨w.heap.size,0,none⟩)] 0 rfl (fun _ _=>by kernel_rfl) fun W hXW=>of1_w 6 N w.heap.size W h1.1 h1.2 ((hx.ext hXW).cells 0))
   clear hx
   go_enter Tryz.func52,Tryz.ntmps52
   go_wp2_with fail
   go_ret
   exact⟨_,_,rfl,hX,hL.out⟩
 · have hL:=Lib.hid (lkis_laid (w.alloc (.cells #[.int .i64 7] 3)) 7 (by omega) N mode base loc room h1 120 122 123 #[.pointer (some ⟨w.heap.size,0,none⟩)] 0 rfl (fun _ _=>by kernel_rfl) fun W hXW=>of1_w 7 N w.heap.size W h1.1 h1.2 ((hx.ext hXW).cells 0))
   clear hx
   go_enter Tryz.func52,Tryz.ntmps52
   go_wp2_with fail
   go_ret
   exact⟨_,_,rfl,hX,hL.out⟩
 · have hL:=Lib.hid (lkis_laid (w.alloc (.cells #[.int .i64 8] 3)) 8 (by omega) N mode base loc room h1 124 125 126 #[] 1 rfl (fun _ _=>by kernel_rfl) fun W _=>adwants_p N W h1.1 h1.2)
   clear hx
   go_enter Tryz.func52,Tryz.ntmps52
   go_wp2_with fail
   go_ret
   exact⟨_,_,rfl,hX,hL.out⟩
theorem lkSz_some {alg:Int}{N:Nat}{lay:Option (List Reg)}{rs:List Reg}(h:3<=alg->lay=some rs)(ha:1<=alg):lkSz lay alg N=some (lkC alg N rs,lkL alg rs):=by
 unfold lkSz lkC lkL
 by_cases h1:alg=1
 · rw [if_pos h1,if_pos h1,if_pos h1]
 · by_cases h2:alg=2
   · rw [if_neg h1,if_pos h2,if_neg h1,if_pos h2,if_neg h1,if_pos h2]
   · rw [if_neg h1,if_neg h2,if_neg h1,if_neg h2,if_neg h1,if_neg h2,h (by omega)]
     simp only [Option.map_some,Option.some.injEq,Prod.mk.injEq,true_and]
     split <;> omega
theorem lkSz_bd {alg:Int}{N:Nat}{mode base loc:Int}{c l:Int}(h1:1<=N/\N<=8)(h:lkSz (layM (lkWants alg N) N mode base loc) alg N=some (c,l)):0<=c/\c<=2000000/\0<=l/\l<=3000000:=by
 unfold lkSz at h
 split at h
 · cases h;omega
 · split at h
   · cases h;omega
   · cases hl:layM (lkWants alg N) N mode base loc with
     | none=>rw [hl] at h;cases h
     | some rs =>
       rw [hl] at h
       have hok:∀ r∈rs,r.ok:=fun r hr=>(laid_all hl r hr).1
       have hb:=sum_bd hok rs.length (Nat.le_refl _)
       rw [List.take_length] at hb
       have hle:=lkWants_leP alg h1.1 h1.2
       rw [<- layM_len hl] at hle
       simp only [Option.map_some,Option.some.injEq,Prod.mk.injEq] at h
       obtain⟨rfl,rfl⟩:=h
       split <;> omega
@[go_sem] theorem eql_held (Y:TypeId) (a:Value) (w:World):(binOp .eql 104 (.iface Y a) .nilIface).run Tryz.prog w=.ok (.bool false) w:=by
 first | exact run_eql_held_nil _ _ _ (by kernel_rfl) | (simp [binOp,Op.equal];try kernel_rfl)
set_option maxRecDepth 100000 in
set_option maxHeartbeats 1000000 in
theorem lfine_some (alg:Int)(N:Nat)(mode base loc room:Int)(w:World)(ha:1<=alg/\alg<=8)(h1:1<=N/\N<=8)(h2:1<=room/\room<=1048576)(hm:mode=1∨mode=2)(hb:0<=base/\base<=32768)(hl:0<=loc/\loc<=32768)(c l:Int)(hz:lkSz (layM (lkWants alg N) N mode base loc) alg N=some (c,l)) :
  Calls Tryz.prog 9 #[lockV alg N mode base loc room] w fun e w'=>∃ b,e=.returned (.bool b)/\b=(decide (base+c<=32768)&&decide (loc+l<=32768))/\Ext w w':=by
 have hO:=fun w=>lof_p alg N mode base loc room w ha h1 h2
 have hcl:=lkSz_bd h1 hz
 have hX:=Ext.refl w
 have b1:=Blk.new w (.cells #[.int .i64 alg,.int .i64 N,.int .i64 mode,.int .i64 base,.int .i64 loc,.int .i64 room] 23)
 replace hX:=hX.alloc (.cells #[.int .i64 alg,.int .i64 N,.int .i64 mode,.int .i64 base,.int .i64 loc,.int .i64 room] 23)
 have c_b1:=b1.cells
 unfold lockV
 have d1:decide ((N:Int)<1)=false:=by rw [decide_eq_false_iff_not];omega
 have d2:decide ((8:Int)<N)=false:=by rw [decide_eq_false_iff_not];omega
 have d3:decide (room<1)=false:=by rw [decide_eq_false_iff_not];omega
 have d4:decide ((1048576:Int)<room)=false:=by rw [decide_eq_false_iff_not];omega
 have d6:decide (base<0)=false:=by rw [decide_eq_false_iff_not];omega
 have d7:decide ((32768:Int)<base)=false:=by rw [decide_eq_false_iff_not];omega
 have d8:decide (loc<0)=false:=by rw [decide_eq_false_iff_not];omega
 have d9:decide ((32768:Int)<loc)=false:=by rw [decide_eq_false_iff_not];omega
 have w1:IntKind.i64.wrap (base+c)=base+c:=IntWalk.i64_in _ (by omega)
 have w2:IntKind.i64.wrap (loc+l)=loc+l:=IntWalk.i64_in _ (by omega)
 obtain⟨f1,hf1⟩:∃ f1,decide (base+c<=32768)=f1:=⟨_,rfl⟩
 obtain⟨f2,hf2⟩:∃ f2,decide (loc+l<=32768)=f2:=⟨_,rfl⟩
 rw [hf1,hf2]
 rcases hm with rfl | rfl
 all_goals
  cases f1 <;> cases f2
  all_goals
   go_enter Tryz.func9,Tryz.ntmps9
   go_wp2_with fail
   refine (hO _).mono ?_
   rintro e w2 ⟨Y,a,rfl,hx,⟨M,hmt,hcf,hq⟩,-⟩
   have hq2:=hq _ (Ext.refl w2)
   rw [hz] at hq2
   unfold lockV szV at hq2
   simp only at hq2
   replace b1:=b1.ext hx
   replace hX:=hX.trans hx
   clear hx hO hq c_b1 hz
   have c_b1:=b1.cells
   go_wp2_with fail
   refine hq2.mono ?_
   rintro e w3 ⟨rfl,hx⟩
   replace b1:=b1.ext hx
   replace hX:=hX.trans hx
   clear hx c_b1 hq2 hmt hcf
   have c_b1:=b1.cells
   go_wp2_with fail
   go_ret
   exact⟨_,rfl,rfl,hX⟩
set_option maxRecDepth 100000 in
set_option maxHeartbeats 1000000 in
theorem lfine_none (alg:Int)(N:Nat)(mode base loc room:Int)(w:World)(ha:1<=alg/\alg<=8)(h1:1<=N/\N<=8)(h2:1<=room/\room<=1048576)(hm:mode=1∨mode=2)(hb:0<=base/\base<=32768)(hl:0<=loc/\loc<=32768)(hz:lkSz (layM (lkWants alg N) N mode base loc) alg N=none) :
  Calls Tryz.prog 9 #[lockV alg N mode base loc room] w fun e w'=>e=.returned (.bool false)/\Ext w w':=by
 have hO:=fun w=>lof_p alg N mode base loc room w ha h1 h2
 have hX:=Ext.refl w
 have b1:=Blk.new w (.cells #[.int .i64 alg,.int .i64 N,.int .i64 mode,.int .i64 base,.int .i64 loc,.int .i64 room] 23)
 replace hX:=hX.alloc (.cells #[.int .i64 alg,.int .i64 N,.int .i64 mode,.int .i64 base,.int .i64 loc,.int .i64 room] 23)
 have c_b1:=b1.cells
 unfold lockV
 have d1:decide ((N:Int)<1)=false:=by rw [decide_eq_false_iff_not];omega
 have d2:decide ((8:Int)<N)=false:=by rw [decide_eq_false_iff_not];omega
 have d3:decide (room<1)=false:=by rw [decide_eq_false_iff_not];omega
 have d4:decide ((1048576:Int)<room)=false:=by rw [decide_eq_false_iff_not];omega
 have d6:decide (base<0)=false:=by rw [decide_eq_false_iff_not];omega
 have d7:decide ((32768:Int)<base)=false:=by rw [decide_eq_false_iff_not];omega
 have d8:decide (loc<0)=false:=by rw [decide_eq_false_iff_not];omega
 have d9:decide ((32768:Int)<loc)=false:=by rw [decide_eq_false_iff_not];omega
 rcases hm with rfl | rfl
 all_goals
  go_enter Tryz.func9,Tryz.ntmps9
  go_wp2_with fail
  refine (hO _).mono ?_
  rintro e w2 ⟨Y,a,rfl,hx,⟨M,hmt,hcf,hq⟩,-⟩
  have hq2:=hq _ (Ext.refl w2)
  rw [hz] at hq2
  unfold lockV szV at hq2
  simp only at hq2
  replace b1:=b1.ext hx
  replace hX:=hX.trans hx
  clear hx hO hq c_b1 hz
  have c_b1:=b1.cells
  go_wp2_with fail
  refine hq2.mono ?_
  rintro e w3 ⟨rfl,hx⟩
  replace b1:=b1.ext hx
  replace hX:=hX.trans hx
  clear hx c_b1 hq2 hmt hcf
  have c_b1:=b1.cells
  go_wp2_with fail
  go_ret
  exact⟨rfl,hX⟩
theorem lfine_yes (alg:Int)(N:Nat)(mode base loc room:Int)(w:World)(ha:1<=alg/\alg<=8)(h1:1<=N/\N<=8)(h2:1<=room/\room<=1048576)(hm:mode=1∨mode=2)(hb:0<=base/\base<=32768)(hl:0<=loc/\loc<=32768) :
  Calls Tryz.prog 9 #[lockV alg N mode base loc room] w fun e w'=>e=.returned (.bool (match lkSz (layM (lkWants alg N) N mode base loc) alg N with | some (c,l)=>decide (base+c<=32768)&&decide (loc+l<=32768) | none=>false))/\Ext w w':=by
 cases hz:lkSz (layM (lkWants alg N) N mode base loc) alg N with
 | none=>exact lfine_none alg N mode base loc room w ha h1 h2 hm hb hl hz
 | some cl =>
   obtain⟨c,l⟩:=cl
   refine (lfine_some alg N mode base loc room w ha h1 h2 hm hb hl c l hz).mono ?_
   rintro e w' ⟨b,rfl,rfl,hx⟩
   exact⟨rfl,hx⟩
theorem lfine_ok (alg:Int)(N:Nat)(mode base loc room:Int)(rs:List Reg)(w:World)(hk:LkOk alg N mode base loc room rs) :
  Calls Tryz.prog 9 #[lockV alg N mode base loc room] w fun e w'=>e=.returned (.bool true)/\Ext w w':=by
 have hs:=lkSz_some (N:=N) (rs:=rs) (lay:=layM (lkWants alg N) N mode base loc) hk.hlay hk.halg.1
 have h:=lfine_yes alg N mode base loc room w hk.halg hk.hn hk.hroom (by have:=hk.hmode;omega) hk.hbase hk.hloc
 rw [hs] at h
 simp only [decide_eq_true hk.hcells,decide_eq_true hk.hlocals,Bool.and_self] at h
 exact h
end Go.Proofs.YtponihangpiooaaGreat
namespace Kv
def Cst (b e L:Int) {α:Type}:Prog α->Nat->Prop
 | .ret _,_=>True
 | .read c k,n=>b<=c/\c<e/\1<=n/\∀ x,Cst b e L (k x) (n-1)
 | .write c _ k,n=>b<=c/\c<e/\1<=n/\Cst b e L (k ()) (n-1)
 | .get _ k,n=>∀ x,Cst b e L (k x) n
 | .set i _ k,n=>i<L/\Cst b e L (k ()) n
 | .note _ k,n=>Cst b e L (k ()) n
theorem Cst.mono {b e L b' e' L':Int}(hb:b'<=b)(he:e<=e')(hL:L<=L'){α:Type}:∀ {p:Prog α} {n m:Nat},n<=m->Cst b e L p n->Cst b' e' L' p m
 | .ret _,_,_,_,_=>trivial
 | .read c k,n,m,hn,⟨h1,h2,h3,h4⟩=>⟨by omega,by omega,by omega,fun x=>Cst.mono hb he hL (by omega) (h4 x)⟩
 | .write c _ k,n,m,hn,⟨h1,h2,h3,h4⟩=>⟨by omega,by omega,by omega,Cst.mono hb he hL (by omega) h4⟩
 | .get _ k,n,m,hn,h=>fun x=>Cst.mono hb he hL hn (h x)
 | .set i _ k,n,m,hn,⟨h1,h2⟩=>⟨by omega,Cst.mono hb he hL hn h2⟩
 | .note _ k,n,m,hn,h=>Cst.mono (p:=k ()) hb he hL hn h
theorem Cst.bind {b e L:Int}{α β:Type}{f:α->Prog β}{m:Nat}(hf:∀ a,Cst b e L (f a) m):∀ {p:Prog α} {n:Nat},Cst b e L p n->Cst b e L (p.bind f) (n+m)
 | .ret a,n,_=>Cst.mono (Int.le_refl _) (Int.le_refl _) (Int.le_refl _) (by omega) (hf a)
 | .read c k,n,⟨h1,h2,h3,h4⟩=>⟨h1,h2,by omega,fun x=>Cst.mono (Int.le_refl _) (Int.le_refl _) (Int.le_refl _) (by omega) (Cst.bind hf (h4 x))⟩
 | .write c _ k,n,⟨h1,h2,h3,h4⟩=>⟨h1,h2,by omega,Cst.mono (Int.le_refl _) (Int.le_refl _) (Int.le_refl _) (by omega) (Cst.bind hf h4)⟩
 | .get _ k,n,h=>fun x=>Cst.bind hf (h x)
 | .set i _ k,n,⟨h1,h2⟩=>⟨h1,Cst.bind hf h2⟩
 | .note _ k,n,h=>Cst.bind (p:=k ()) hf h
theorem upd_loc_ge {S:TS}{i v L:Int}(h:i<L)(j:Nat)(hj:L<=j):(S.upd i v).loc j=S.loc j:=by
 unfold TS.upd
 split
 · show (if j=i.toNat then v else S.loc j)=_
   rw [if_neg (by omega)]
 · rfl
theorem left_updC (S:TS)(i v:Int):(S.upd i v).left=S.left:=by unfold TS.left;rw [TS.upd_ans,TS.upd_acc]
theorem left_put2 {S:TS}{v:Int}(h:S.next=some v)(a:Acc):(S.put a).left+1=S.left:=by
 have h1:S.acc.length<S.ans.length:=(List.getElem?_eq_some_iff.1 (show S.ans[S.acc.length]?=some v from h)).1
 unfold TS.left TS.put
 simp only [List.length_append,List.length_cons,List.length_nil]
 omega
theorem next_left2 {S:TS}(h:0<S.left):∃ v,S.next=some v:=by
 unfold TS.left at h
 exact⟨_,List.getElem?_eq_getElem (show S.acc.length<S.ans.length by omega)⟩
theorem Cst.run {b e L:Int}{α:Type}:∀ {p:Prog α} {n:Nat} (S:TS),Cst b e L p n->n<=S.left ->
  ∃ a S',p.run S=(some a,S')/\(∃ l,S'.acc=S.acc++l/\l.length<=n/\∀ x∈l,b<=x.cell/\x.cell<e)/\∀ j:Nat,L<=j->S'.loc j=S.loc j
 | .ret a,n,S,_,_=>⟨a,S,rfl,⟨[],by simp,by simp,by simp⟩,fun _ _=>rfl⟩
 | .read c k,n,S,⟨h1,h2,h3,h4⟩,hl=>by
   obtain⟨v,hv⟩:=next_left2 (S:=S) (by omega)
   have hp:=left_put2 hv ⟨1,c,0⟩
   obtain⟨a,S',hr,⟨l,g1,g2,g3⟩,g4⟩:=Cst.run (S.put ⟨1,c,0⟩) (h4 v) (by omega)
   refine⟨a,S',by simp only [Prog.run,hv];exact hr,⟨⟨1,c,0⟩ :: l,by rw [g1];simp [TS.put],by simp;omega,fun x hx=>?_⟩,g4⟩
   rcases List.mem_cons.1 hx with rfl | hx
   · exact⟨h1,h2⟩
   · exact g3 x hx
 | .write c w k,n,S,⟨h1,h2,h3,h4⟩,hl=>by
   obtain⟨v,hv⟩:=next_left2 (S:=S) (by omega)
   have hp:=left_put2 hv ⟨2,c,w⟩
   obtain⟨a,S',hr,⟨l,g1,g2,g3⟩,g4⟩:=Cst.run (S.put ⟨2,c,w⟩) h4 (by omega)
   refine⟨a,S',by simp only [Prog.run,hv];exact hr,⟨⟨2,c,w⟩ :: l,by rw [g1];simp [TS.put],by simp;omega,fun x hx=>?_⟩,g4⟩
   rcases List.mem_cons.1 hx with rfl | hx
   · exact⟨h1,h2⟩
   · exact g3 x hx
 | .get i k,n,S,h,hl=>Cst.run (p:=k (S.got i)) S (h _) hl
 | .set i v k,n,S,⟨h1,h2⟩,hl=>by
   obtain⟨a,S',hr,⟨l,g1,g2,g3⟩,g4⟩:=Cst.run (S.upd i v) h2 (by rw [left_updC];exact hl)
   exact⟨a,S',hr,⟨l,by rw [g1,TS.upd_acc],g2,g3⟩,fun j hj=>(g4 j hj).trans (upd_loc_ge h1 j hj)⟩
 | .note m k,n,S,h,hl=>Cst.run (p:=k ()) (S.noted m) h hl
def tabR (k:Nat):Nat:=18*k+14*(k-1)
end Kv
namespace Kv
open Go Go.RowKit
def mostT (top:Int):Int:=max 0 (min top 255)
theorem mostT_bd (t:Int):0<=mostT t/\mostT t<=255:=by unfold mostT;omega
def oth (r:Reg):Nat:=(r.n-1).toNat
def cells7 (r:Reg):Int :=
 if r.kind=1 then 1 else if r.kind=2 then 1 else if r.kind=3 then mostT r.top+1 else if r.kind=4 then 3 else if r.kind=5 then 16 else if r.kind=6 then 16*(oth r*oth r:Nat) else 16*(oth r*oth r*(oth r+1):Nat)
def locals7 (r:Reg):Int :=
 if r.kind=1 then 0 else if r.kind=2 then 1 else if r.kind=3 then mostT r.top+1 else if r.kind=4 then 4 else if r.kind=5 then 18 else if r.kind=6 then 2+18*(oth r*oth r:Nat) else ((oth r+1)*(2+18*(oth r*oth r)):Nat)
def costW7 (r:Reg):Nat :=
 if r.kind=1 then 1 else if r.kind=2 then 1 else if r.kind=3 then (mostT r.top+1).toNat else if r.kind=4 then 3 else if r.kind=5 then 14 else if r.kind=6 then 14*oth r else oth r*tabR (oth r)+14*oth r
def costR7 (r:Reg):Nat :=
 if r.kind=1 then 1 else if r.kind=2 then 1 else if r.kind=3 then (mostT r.top+1).toNat else if r.kind=4 then 7 else if r.kind=5 then 18 else if r.kind=6 then tabR (oth r) else oth r*tabR (oth r)
structure Fine7 (r:Reg):Prop where
 kind:r.kind=1∨r.kind=2∨r.kind=3∨r.kind=4∨r.kind=5∨r.kind=6∨r.kind=7
 base:0<=r.base/\r.base<=32768
 loc:0<=r.loc/\r.loc<=32768
 n:1<=r.n/\r.n<=8
 wr:r.kind=6->0<=r.wr/\r.wr<r.n
end Kv
namespace Kv
end Kv
namespace Go.Proofs.YtponihangpiooaaGreat
open Go.RowKit Kv
theorem umost_p (t:Int)(w:World):Calls Tryz.prog 293 #[.int .i64 t] w fun e w'=>e=.returned (.int .i64 (mostT t))/\w=w':=by
 unfold mostT
 go_enter Tryz.func293,Tryz.ntmps293
 go_wp2_with fail
 go_ret
 exact⟨ret_int (by show _=_;omega),rfl⟩
end Go.Proofs.YtponihangpiooaaGreat
