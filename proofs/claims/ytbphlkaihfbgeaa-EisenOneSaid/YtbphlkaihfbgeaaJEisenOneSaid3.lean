/-
  EisenOneSaid: part 3 of its proof.
-/
import Derived.Test.YtbphlkaihfbgeaaJEisenOneSaid2
import Derived.Defers
import Derived.Recover
import Derived.LaidEqlPtr
import Derived.Deep.RegionHeld3
import Derived.Laws.AppendOwnNone
import Derived.Deep.QuietTactic
import Derived.BigQuiet
import Derived.ProofKit
import Derived.OpenShut
import Derived.Deep.DeepHandedRow
import Derived.WideKeyArgs
import Derived.Carry
import Derived.ChangeSame
import Derived.Lib.SmallJoins
import Derived.Test.YtbphlkaihfbgeaaRows
import Derived.Deep.DeepCutAuto
import Derived.Deep.RegionHeld2
import Derived.ScopeJumps
import Derived.WalkMore
import Derived.Laws.MakeOwn
namespace Go.Proofs.Ytbphlkaihfbgeaa
open Go.RowKit Kv
@[go_sem] theorem build_out (x:Bool) (A1 A2 A3:Option Addr) (n1 n2 n3 c1 c2 c3:Nat) (w:World):(Instr.build 30 #[(0,.bool x),(1,.slice A1 n1 c1),(2,.slice A2 n2 c2),(3,.slice A3 n3 c3)]).run Try.prog w=.ok (.agg #[.bool x,.slice A1 n1 c1,.slice A2 n2 c2,.slice A3 n3 c3]) w:=run_build w 30 _ _ (by kernel_rfl)
@[go_sem] theorem as_stop (v:Value) (w:World):(Instr.typeAssert (.iface 81 v) 20 81 true).run Try.prog w=.ok (.tuple #[v,.bool true]) w:=by kernel_rfl
@[go_sem] theorem ne_mem (a:Addr) (w:World):(binOp .neq 33 (.pointer (some a)) (.pointer (some a))).run Try.prog w=.ok (.bool false) w:=by
 have hs:(Try.prog.info? 78).isSome=true:=by kernel_rfl
 obtain⟨j,hj⟩:=Option.isSome_iff_exists.1 hs
 have h:∀ d:Nat,(Op.equalIn (d+1) 33 (.pointer (some a)) (.pointer (some a))).run Try.prog w=.ok true w:=fun d=>by
  simp [Op.equalIn,run_underlying Try.underlying33,sizeOf,typeInfo,hj,run_sameAddr_same]
 simp only [binOp]
 simp [Op.equal,Op.maxDepth,h 9999]
section
variable {B p b bo:Nat} {w w' W:World} {S:TS} {st:Int} {vA vL vC vN vs:Value} {L:List Int}
theorem PMem.setO (h:PMem B w p S st vA vL vC vN L)(hn:¬ ownR [2,3,4] w p b)(hb:B<=b)(i:Nat)(u:Value):PMem B (w.setCell ⟨b,i,none⟩ u) p S st vA vL vC vN L:=by
 have hp:p≠b:=fun e=>hn (.inl e.symm)
 refine { h with heap:=(heap_setCell_ne _ _ hp).trans h.heap,ans:=ints_set h.ans _ _ ?_,rowL:=row_set h.rowL ?_,rowC:=row_set h.rowC ?_,rowN:=row_set h.rowN ?_ }
 · intro k hk e
   have:=h.ansB k hk
   simp only at e
   omega
 · exact fun e=>hn (ownR_at (i:=2) h.heap (by simp) rfl e)
 · exact fun e=>hn (ownR_at (i:=3) h.heap (by simp) rfl e)
 · exact fun e=>hn (ownR_at (i:=4) h.heap (by simp) rfl e)
theorem Held.setO {ix:List Nat}{k:Nat}{o:Obj}(h:Held ix w p k o)(hk:k≠b)(hn:¬ ownR ix w p b)(i:Nat)(u:Value):Held ix (w.setCell ⟨b,i,none⟩ u) p k o :=
 ⟨(heap_setCell_ne _ _ hk).trans h.1,fun h'=>h.2 ((ownR_same (heap_setCell_ne _ _ (fun e=>hn (.inl e.symm))) k).1 h')⟩
theorem end_out {d x0:Bool}{x1 x2 x3:Value}(HM:PMem B W p S st vA vL vC vN L)(ho:W.heap[bo]?=some (.cells #[.bool x0,x1,x2,x3] 30 (0,0)))(h2:Ext W w')(h1:IntRow w' W.heap.size vs (shortL L)) :
  ((((w'.setCell ⟨bo,0,none⟩ (.bool d)).setCell ⟨bo,1,none⟩ vC).setCell ⟨bo,2,none⟩ vN).setCell ⟨bo,3,none⟩ vs).heap[bo]?=some (.cells #[.bool d,vC,vN,vs] 30 (0,0)) /\
    Outs ((((w'.setCell ⟨bo,0,none⟩ (.bool d)).setCell ⟨bo,1,none⟩ vC).setCell ⟨bo,2,none⟩ vN).setCell ⟨bo,3,none⟩ vs) (.agg #[.bool d,vC,vN,vs]) d S:=by
 have hlt:=(Array.getElem?_eq_some_iff.1 ho).1
 have e0:=(Below.block h2 bo hlt).trans ho
 have rC:=row_ext HM.rowC h2
 have rN:=row_ext HM.rowN h2
 have nC:=row_not rC e0 (by decide)
 have nN:=row_not rN e0 (by decide)
 have hv:∀ k,vs.ownBlock=some k->k≠bo:=fun k hk=>by have:=(h1.lt k hk).1;omega
 have e4:=heap_setCell (i:=3) (heap_setCell (i:=2) (heap_setCell (i:=1) (heap_setCell (i:=0) e0 (.bool d)) vC) vN) vs
 refine⟨e4,outs_of (L:=L) (row_set (row_set (row_set (row_set rC nC) nC) nC) nC) (row_set (row_set (row_set (row_set rN nN) nN) nN) nN) (ints_set (ints_set (ints_set (ints_set h1.ints _ _ hv) _ _ hv) _ _ hv) _ _ hv) HM.loc HM.locN⟩
end
def EndAt (B:Nat) (w w':World) (bg bo:Nat) (v:Value) (d:Bool) (S:TS):Prop :=
 w'.heap[bg]?=some (.cells #[v] 3 (0,0))/\(∃ vC vN vs,w'.heap[bo]?=some (.cells #[.bool d,vC,vN,vs] 30 (0,0))/\Outs w' (.agg #[.bool d,vC,vN,vs]) d S)/\Below B w w'
set_option maxRecDepth 100000 in
set_option maxHeartbeats 1000000 in
theorem end_ok (B p:Nat)(S:TS)(bm bg bo:Nat)(v:Value)(w:World)(h:Plays B w p S)(hm:HeldP w p bm (.cells #[.pointer (some ⟨p,0,none⟩)] 33 (0,0)))(hg:HeldP w p bg (.cells #[v] 3 (0,0)))
  (ho:HeldP w p bo (.cells #[.bool false,.slice none 0 0,.slice none 0 0,.slice none 0 0] 30 (0,0)))(hB2:B<=bo) :
  CallsD Try.prog 65 #[.pointer (some ⟨bm,0,none⟩),.pointer (some ⟨bg,0,none⟩),.pointer (some ⟨bo,0,none⟩)] .returning w fun e u' w'=>e=.returned (.tuple #[])/\u'=.returning/\EndAt B w w' bg bo v true S:=by
 obtain⟨h1,vA,vL,vC,vN,L,h⟩:=h
 have hc:=cell_of_heap h.heap
 have hfz:=frozen_of_heap h.heap
 have cm:=hm.cells
 refine callsD_of_wpS Try.func65 rfl fun c₀ cs hu=>?_
 simp only [Try.ntmps65,List.size_toArray,List.length_cons,List.length_nil,Nat.reduceAdd,Nat.reduceSub,Array.replicate_succ,Array.replicate_zero,List.push_toArray,List.append_toArray,List.nil_append,List.cons_append]
 apply wpS_seq
 refine wpS_of_wp ?_
 go_wp2_with fail
 simp only [Exit.thenS]
 apply wpS_seq
 refine wpS_of_wp ?_
 go_wp2_with fail
 simp only [Exit.thenS]
 obtain⟨HM,HK⟩:=h.state 0
 have hmh:=Lib.hid (hm.keep HK)
 have hgh:=Lib.hid (hg.keep HK).1
 have hoh:=Lib.hid (ho.keep HK)
 have hq:=cell_of_heap HM.heap
 have cm2:=hmh.out.cells
 have HMh:=Lib.hid HM
 have hbel:=Lib.hid HK.below
 clear HM HK hc hfz cm hm hg ho h
 generalize w.setCell ⟨p,0,none⟩ (.int .i64 0)=W at *
 apply wpS_seq
 apply wpS_seq
 apply wpS_region
 simp [wpOpsS,go_sem,recoverD,hu,Exit.thenS]
 refine wpS_of_wp ?_
 go_wp2_with fail
 simp only [Exit.thenS]
 refine wpS_of_wp ?_
 go_wp2_with fail
 have hI:Ints W vL L:=IntRow.ints HMh.out.rowL
 obtain⟨Al,cl,rfl,q1,q2⟩:=hI.slice
 have hIh:=Lib.hid hI
 obtain⟨Ac,cc,rfl,-,-,-⟩:=vals_row HMh.out.rowC
 obtain⟨An,cn,rfl,-,-,-⟩:=vals_row HMh.out.rowN
 have hlen:=HMh.out.locN
 have hplt:=HMh.out.lt
 have hmlt:=hmh.out.lt
 clear hI
 have hpo:p≠bo:=fun e=>hoh.out.2 (.inl e.symm)
 have hmo:bm≠bo:=fun e=>by
  have h1:=hmh.out.1
  rw [e,hoh.out.1] at h1
  injection h1 with h1
  injection h1 with _ h2
  cases h2
 have hlo:(Value.slice Al L.length cl).ownBlock≠some bo:=row_not HMh.out.rowL hoh.out.1 (by decide)
 have hS:∀ w',Near W bo 4 30 w'->((∀ i,w'.cell? ⟨p,i,none⟩=(#[.int .i64 0,vA,.slice Al L.length cl,.slice Ac S.acc.length cc,.slice An S.nts.length cn]:Array Value)[i]?)/\(∀ i,w'.cell? ⟨bm,i,none⟩=(#[.pointer (some ⟨p,0,none⟩)]:Array Value)[i]?)/\(∀ i,w'.cell? ⟨bo,i,none⟩=(#[cellD w' bo 0,cellD w' bo 1,cellD w' bo 2,cellD w' bo 3]:Array Value)[i]?)/\(∀ i,w'.frozen? ⟨bo,i,none⟩=false)/\Near W bo 4 30 w'):=fun w' hx =>
  ⟨fun i=>(hx.cell hplt hpo).trans (hq i),fun i=>(hx.cell hmlt hmo).trans (cm2 i),hx.four,hx.frozen,hx⟩
 have hN:Near W bo 4 30 W:=Near.new hoh.out.1 rfl
 go_region_held2 (fun w'=>(∀ i,w'.cell? ⟨p,i,none⟩=(#[.int .i64 0,vA,.slice Al L.length cl,.slice Ac S.acc.length cc,.slice An S.nts.length cn]:Array Value)[i]?)/\(∀ i,w'.cell? ⟨bm,i,none⟩=(#[.pointer (some ⟨p,0,none⟩)]:Array Value)[i]?)/\(∀ i,w'.cell? ⟨bo,i,none⟩=(#[cellD w' bo 0,cellD w' bo 1,cellD w' bo 2,cellD w' bo 3]:Array Value)[i]?)/\(∀ i,w'.frozen? ⟨bo,i,none⟩=false)/\Near W bo 4 30 w') (first | exact hS _ hN.drew | (refine hS _ ?_;(repeat refine Near.set ?_ _ _);exact hN.drew.ext h2))
  (first
    | (go_at_call 61
       refine (tshort_p Al cl L _ (hIh.out.ext (Ext.refl W).drew) q1 q2 (by omega)).mono ?_
       rintro e w' ⟨v',rfl,h1,h2⟩
       obtain⟨As,cs,rfl,hs1,hs2⟩:=h1.ints.slice))
 obtain⟨f1,f2⟩:=end_out (d:=true) HMh.out hoh.out.1 ((Ext.refl W).drew.trans h2) h1
 have fg:bg≠bo:=fun e=>by
  have h1:=hgh.out
  rw [e,hoh.out.1] at h1
  injection h1 with h1
  injection h1 with _ h2
  cases h2
 refine⟨rfl,FrameMode.returning,(by cases c₀;simp only at hu;subst hu;rfl),.tuple #[],(by simp [results,Try.results65,go_sem]),rfl,rfl,?_,⟨_,_,_,f1,f2⟩,?_⟩
 · rw [heap_setCell_ne _ _ fg,heap_setCell_ne _ _ fg,heap_setCell_ne _ _ fg,heap_setCell_ne _ _ fg]
   exact (Below.block ((Ext.refl W).drew.trans h2) bg (Array.getElem?_eq_some_iff.1 hgh.out).1).trans hgh.out
 · exact ((((hN.drew.ext h2).set _ _).set _ _).set _ _ |>.set _ _).below hbel.out hB2 (by have:=HMh.out.ge;omega)
set_option maxRecDepth 100000 in
set_option maxHeartbeats 1000000 in
theorem end_stop (B p:Nat)(S:TS)(bm bg bo:Nat)(v:Value)(older:List PanicEntry)(w:World)(h:Stops B w p S)(hm:HeldP w p bm (.cells #[.pointer (some ⟨p,0,none⟩)] 33 (0,0)))(hg:HeldP w p bg (.cells #[v] 3 (0,0)))
  (ho:HeldP w p bo (.cells #[.bool false,.slice none 0 0,.slice none 0 0,.slice none 0 0] 30 (0,0)))(hB1:B<=bg)(hB2:B<=bo) :
  CallsD Try.prog 65 #[.pointer (some ⟨bm,0,none⟩),.pointer (some ⟨bg,0,none⟩),.pointer (some ⟨bo,0,none⟩)] (.panicking ({ v:=.iface 81 (.agg #[.pointer (some ⟨p,0,none⟩)]),recovered:=false } :: older)) w fun e u' w' =>
   e=.returned (.tuple #[])/\u'=.panicking ({ v:=.iface 81 (.agg #[.pointer (some ⟨p,0,none⟩)]),recovered:=true } :: older)/\EndAt B w w' bg bo (.int .i64 0) false S:=by
 obtain⟨vA,vL,vC,vN,L,h⟩:=h
 have hc:=cell_of_heap h.heap
 have hfz:=frozen_of_heap h.heap
 have cm:=hm.cells
 refine callsD_of_wpS Try.func65 rfl fun c₀ cs hu=>?_
 simp only [Try.ntmps65,List.size_toArray,List.length_cons,List.length_nil,Nat.reduceAdd,Nat.reduceSub,Array.replicate_succ,Array.replicate_zero,List.push_toArray,List.append_toArray,List.nil_append,List.cons_append]
 apply wpS_seq
 refine wpS_of_wp ?_
 go_wp2_with fail
 simp only [Exit.thenS]
 apply wpS_seq
 refine wpS_of_wp ?_
 go_wp2_with fail
 simp only [Exit.thenS]
 obtain⟨HM,HK⟩:=h.state 0
 have hm2:=hm.keep HK
 have hg2:=hg.keep HK
 have ho2:=ho.keep HK
 clear hc hfz cm hm hg ho h
 generalize w.setCell ⟨p,0,none⟩ (.int .i64 0)=W0 at *
 have hX:=(Ext.refl W0).alloc (.cells #[.agg #[.pointer (some ⟨p,0,none⟩)]] 81)
 have hq0:=cell_of_heap HM.heap
 have cm0:=hm2.cells
 have hqa:Hid (∀ O,∀ i,(W0.alloc O).cell? ⟨bm,i,none⟩=(#[.pointer (some ⟨p,0,none⟩)]:Array Value)[i]?):=Lib.hid fun O i=>(((Ext.refl W0).alloc O).cell (p:=⟨bm,i,none⟩) hm2.lt).trans (hm2.cells i)
 have cma:=hqa.out
 have fga:=frozen_of_heap hg2.1
 have cg0:=hg2.cells
 have W0lt:=hg2.lt
 have fgb:Hid (∀ O i,(W0.alloc O).frozen? ⟨bg,i,none⟩=false):=Lib.hid fun O i=>frozen_of_heap ((Below.block ((Ext.refl W0).alloc O) bg hg2.lt).trans hg2.1) i
 have cgb:Hid (∀ O i,(W0.alloc O).cell? ⟨bg,i,none⟩=(#[v]:Array Value)[i]?):=Lib.hid fun O i=>(((Ext.refl W0).alloc O).cell (p:=⟨bg,i,none⟩) hg2.lt).trans (hg2.cells i)
 have fgb':=fgb.out
 have cgb':=cgb.out
 have HMh0:=Lib.hid HM
 have HKh:=Lib.hid HK
 have hmh0:=Lib.hid hm2
 have hgh0:=Lib.hid hg2
 have hoh0:=Lib.hid ho2
 clear HM HK hm2 hg2 ho2
 apply wpS_seq
 apply wpS_seq
 apply wpS_region
 simp [wpOpsS,go_sem,recoverD,hu,Exit.thenS]
 refine wpS_of_wp ?_
 go_wp2_with fail
 simp only [Exit.thenS]
 refine wpS_of_wp ?_
 go_wp2_with fail
 have hgp:=hgh0.out.2
 have hmg:bm≠bg:=fun e=>by
  have h1:=hmh0.out.1
  rw [e,hgh0.out.1] at h1
  injection h1 with h1
  injection h1 with _ h2
  cases h2
 have hog:bo≠bg:=fun e=>by
  have h1:=hoh0.out.1
  rw [e,hgh0.out.1] at h1
  injection h1 with h1
  injection h1 with _ h2
  cases h2
 have HM1:=HMh0.out.setO hgp hB1 0 (.int .i64 0)
 have hm1:=hmh0.out.setO hmg hgp 0 (.int .i64 0)
 have ho1:=hoh0.out.setO hog hgp 0 (.int .i64 0)
 have hg1:=heap_setCell (i:=0) hgh0.out.1 (.int .i64 0)
 have hb1:Below B w (W0.setCell ⟨bg,0,none⟩ (.int .i64 0)):=Below.setCell HKh.out.below (by show B<=bg;exact hB1) _
 have HMh:=Lib.hid (HM1.ext ((Ext.refl _).alloc (.cells #[.pointer (some ⟨p,0,none⟩)] 81)))
 have hmh:=Lib.hid (hm1.alloc (.cells #[.pointer (some ⟨p,0,none⟩)] 81) HM1.lt)
 have hoh:=Lib.hid (ho1.alloc (.cells #[.pointer (some ⟨p,0,none⟩)] 81) HM1.lt)
 have hgh:=Lib.hid ((Below.block ((Ext.refl _).alloc (.cells #[.pointer (some ⟨p,0,none⟩)] 81)) bg (Array.getElem?_eq_some_iff.1 hg1).1).trans hg1)
 have hbel:=Lib.hid (Below.alloc hb1 (by have:=HM1.ge;have:=HM1.lt;omega) (.cells #[.pointer (some ⟨p,0,none⟩)] 81))
 clear hX hq0 cm0 hqa cma fga cg0 fgb cgb fgb' cgb' HMh0 hmh0 hgh0 hoh0 HKh HM1 hm1 ho1 hg1 hb1 hgp W0lt
 generalize (World.alloc (W0.setCell ⟨bg,0,none⟩ (.int .i64 0)) (.cells #[.pointer (some ⟨p,0,none⟩)] 81))=W at *
 have hq:=cell_of_heap HMh.out.heap
 have cm2:=hmh.out.cells
 have hI:Ints W vL L:=IntRow.ints HMh.out.rowL
 obtain⟨Al,cl,rfl,q1,q2⟩:=hI.slice
 have hIh:=Lib.hid hI
 obtain⟨Ac,cc,rfl,-,-,-⟩:=vals_row HMh.out.rowC
 obtain⟨An,cn,rfl,-,-,-⟩:=vals_row HMh.out.rowN
 have hlen:=HMh.out.locN
 have hplt:=HMh.out.lt
 have hmlt:=hmh.out.lt
 clear hI
 have hpo:p≠bo:=fun e=>hoh.out.2 (.inl e.symm)
 have hmo:bm≠bo:=fun e=>by
  have h1:=hmh.out.1
  rw [e,hoh.out.1] at h1
  injection h1 with h1
  injection h1 with _ h2
  cases h2
 have hlo:(Value.slice Al L.length cl).ownBlock≠some bo:=row_not HMh.out.rowL hoh.out.1 (by decide)
 have hS:∀ w',Near W bo 4 30 w'->((∀ i,w'.cell? ⟨p,i,none⟩=(#[.int .i64 0,vA,.slice Al L.length cl,.slice Ac S.acc.length cc,.slice An S.nts.length cn]:Array Value)[i]?)/\(∀ i,w'.cell? ⟨bm,i,none⟩=(#[.pointer (some ⟨p,0,none⟩)]:Array Value)[i]?)/\(∀ i,w'.cell? ⟨bo,i,none⟩=(#[cellD w' bo 0,cellD w' bo 1,cellD w' bo 2,cellD w' bo 3]:Array Value)[i]?)/\(∀ i,w'.frozen? ⟨bo,i,none⟩=false)/\Near W bo 4 30 w'):=fun w' hx =>
  ⟨fun i=>(hx.cell hplt hpo).trans (hq i),fun i=>(hx.cell hmlt hmo).trans (cm2 i),hx.four,hx.frozen,hx⟩
 have hN:Near W bo 4 30 W:=Near.new hoh.out.1 rfl
 go_region_held2 (fun w'=>(∀ i,w'.cell? ⟨p,i,none⟩=(#[.int .i64 0,vA,.slice Al L.length cl,.slice Ac S.acc.length cc,.slice An S.nts.length cn]:Array Value)[i]?)/\(∀ i,w'.cell? ⟨bm,i,none⟩=(#[.pointer (some ⟨p,0,none⟩)]:Array Value)[i]?)/\(∀ i,w'.cell? ⟨bo,i,none⟩=(#[cellD w' bo 0,cellD w' bo 1,cellD w' bo 2,cellD w' bo 3]:Array Value)[i]?)/\(∀ i,w'.frozen? ⟨bo,i,none⟩=false)/\Near W bo 4 30 w') (first | exact hS _ hN.drew | (refine hS _ ?_;(repeat refine Near.set ?_ _ _);exact hN.drew.ext h2))
  (first
    | (go_at_call 61
       refine (tshort_p Al cl L _ (hIh.out.ext (Ext.refl W).drew) q1 q2 (by omega)).mono ?_
       rintro e w' ⟨v',rfl,h1,h2⟩
       obtain⟨As,cs,rfl,hs1,hs2⟩:=h1.ints.slice))
 obtain⟨f1,f2⟩:=end_out (d:=false) HMh.out hoh.out.1 ((Ext.refl W).drew.trans h2) h1
 have fg:bg≠bo:=fun e=>by
  have h1:=hgh.out
  rw [e,hoh.out.1] at h1
  injection h1 with h1
  injection h1 with _ h2
  cases h2
 refine⟨rfl,FrameMode.panicking ({ v:=.iface 81 (.agg #[.pointer (some ⟨p,0,none⟩)]),recovered:=true } :: older),(by cases c₀;simp only at hu;subst hu;rfl),.tuple #[],(by simp [results,Try.results65,go_sem]),rfl,rfl,?_,⟨_,_,_,f1,f2⟩,?_⟩
 · rw [heap_setCell_ne _ _ fg,heap_setCell_ne _ _ fg,heap_setCell_ne _ _ fg,heap_setCell_ne _ _ fg]
   exact (Below.block ((Ext.refl W).drew.trans h2) bg (Array.getElem?_eq_some_iff.1 hgh.out).1).trans hgh.out
 · exact ((((hN.drew.ext h2).set _ _).set _ _).set _ _ |>.set _ _).below hbel.out hB2 (by have:=HMh.out.ge;omega)
theorem row_base {w:World}{B B' e size n:Nat}{v:Value}{xs:List Value}(h:w.ownsRow B' e size v n xs)(hB:B<=B'):w.ownsRow B e size v n xs:=by
 obtain⟨h1,h2⟩:=h
 rcases h2 with h2 | ⟨g,cap,cur,rfl,hg,r⟩
 · exact⟨h1,.inl h2⟩
 · exact⟨h1,.inr ⟨g,cap,cur,rfl,Nat.le_trans hB hg,r⟩⟩
theorem four_boxes (w:World)(o1 o2 o3 o4:Obj):Ext w ((((w.alloc o1).alloc o2).alloc o3).alloc o4)/\((((w.alloc o1).alloc o2).alloc o3).alloc o4).heap[w.heap.size]?=some o1/\((((w.alloc o1).alloc o2).alloc o3).alloc o4).heap[w.heap.size+1]?=some o2 /\
  ((((w.alloc o1).alloc o2).alloc o3).alloc o4).heap[w.heap.size+1+1]?=some o3/\((((w.alloc o1).alloc o2).alloc o3).alloc o4).heap[w.heap.size+1+1+1]?=some o4:=by
 refine⟨((((Ext.refl w).alloc o1).alloc o2).alloc o3).alloc o4,?_,?_,?_,?_⟩
 · exact (Below.block ((((Ext.refl (w.alloc o1)).alloc o2).alloc o3).alloc o4) _ (by simp)).trans (heap_alloc_new w o1)
 · have:=heap_alloc_new (w.alloc o1) o2
   rw [World.size_alloc] at this
   exact (Below.block (((Ext.refl ((w.alloc o1).alloc o2)).alloc o3).alloc o4) _ (by simp)).trans this
 · have:=heap_alloc_new ((w.alloc o1).alloc o2) o3
   rw [World.size_alloc,World.size_alloc] at this
   exact (Below.block ((Ext.refl (((w.alloc o1).alloc o2).alloc o3)).alloc o4) _ (by simp)).trans this
 · have:=heap_alloc_new (((w.alloc o1).alloc o2).alloc o3) o4
   rw [World.size_alloc,World.size_alloc,World.size_alloc] at this
   exact this
structure SameW (w w':World):Prop where
 os:w'.os=w.os
 tape:w'.tape=w.tape
 output:w'.output=w.output
 size:w'.heap.size=w.heap.size
 blocks:∀ k:Nat,w'.heap[k]?=w.heap[k]?
theorem SameW.drew (w:World):SameW w w.drew:=⟨rfl,rfl,rfl,rfl,fun _=>rfl⟩
theorem SameW.drew2 {w w':World}(h:SameW w w'):SameW w w'.drew:=⟨h.os,h.tape,h.output,h.size,h.blocks⟩
theorem SameW.refl (w:World):SameW w w:=⟨rfl,rfl,rfl,rfl,fun _=>rfl⟩
theorem SameW.ext {w w':World}(h:SameW w w'):Ext w w':=⟨h.os,h.tape,h.output,Nat.le_of_eq h.size.symm,fun k _=>h.blocks k⟩
theorem SameW.set {w w':World}{b:Nat}{cs:Array Value}{t:TypeId}(h:SameW w w')(g:w.heap[b]?=some (.cells cs t (0,0))){i:Nat}{v:Value}(hv:cs[i]?=some v):SameW w (w'.setCell ⟨b,i,none⟩ v):=by
 refine⟨h.os,h.tape,h.output,by rw [<- h.size];simp,fun k=>?_⟩
 by_cases e:k=b
 · subst e
   rw [heap_setCell ((h.blocks k).trans g) v,g]
   congr 2
   apply Array.ext_getElem?
   intro j
   rw [Array.getElem?_setIfInBounds]
   split
   · rename_i e
     subst e
     rw [hv]
     split
     · rfl
     · rename_i h2
       rw [Array.getElem?_eq_none (by omega)] at hv
       cases hv
   · rfl
 · rw [heap_setCell_ne _ _ e]
   exact h.blocks k
theorem play_start {w W w':World}{p:Nat}{Aa:Option Addr}{ca:Nat}{ans L:List Int}{v':Value}(hx:Ext w W)(hp:w.heap.size<=p)(g:W.heap[p]?=some (.cells #[.int .i64 1,.slice Aa ans.length ca,.slice none 0 0,.slice none 0 0,.slice none 0 0] 78 (0,0)))
  (h2:Ext W w')(h1:IntRow w' W.heap.size v' L)(hl:L.length<=32768)(ha:Ints w (.slice Aa ans.length ca) ans)(hn:ans.length<=maxAns)(hb:∀ b,(Value.slice Aa ans.length ca).ownBlock=some b->b<w.heap.size) :
  Plays w.heap.size (w'.setCell ⟨p,2,none⟩ v') p (TS0 L ans)/\(∀ b o,W.heap[b]?=some o->b≠p->HeldP (w'.setCell ⟨p,2,none⟩ v') p b o)/\Ext w (w'.setCell ⟨p,2,none⟩ v'):=by
 have hlt:=(Array.getElem?_eq_some_iff.1 g).1
 have g':=heap_setCell (i:=2) ((Below.block h2 p hlt).trans g) v'
 have hv:∀ k,v'.ownBlock=some k->W.heap.size<=k:=fun k hk=>(h1.lt k hk).1
 have ha':=(ha.ext hx).ext h2
 refine⟨⟨Nat.zero_le _,.slice Aa ans.length ca,v',.slice none 0 0,.slice none 0 0,L,{ ge:=hp,heap:=g',ans:=ints_set ha' _ _ ?_,ansB:=hb,rowL:=row_base (row_set h1 ?_) hx.size,rowC:=World.ownsRow_nil _ _ _ _,rowN:=World.ownsRow_nil _ _ _ _,loc:=fun _=>rfl,locN:=hl,accN:=Nat.zero_le _,ansN:=hn,ntsN:=Nat.zero_le _ }⟩,?_,(hx.trans h2).setCell hp _⟩
 · intro k hk e
   have:=hb k hk
   simp only at e
   omega
 · intro e
   have:=hv p e
   omega
 · intro b o hb ho
   have hbl:=(Array.getElem?_eq_some_iff.1 hb).1
   refine⟨(heap_setCell_ne _ _ ho).trans ((Below.block h2 b hbl).trans hb),fun h'=>?_⟩
   rcases h' with e | ⟨i,hi,v,hv1,hv2⟩
   · exact ho e
   · rw [cell_of_heap g'] at hv1
     simp only [List.mem_cons,List.not_mem_nil,or_false] at hi
     rcases hi with rfl | rfl | rfl
     · obtain rfl:v'=v:=by simpa using hv1
       have:=hv b hv2
       omega
     · obtain rfl:Value.slice none 0 0=v:=by simpa using hv1
       simp [Value.ownBlock] at hv2
     · obtain rfl:Value.slice none 0 0=v:=by simpa using hv1
       simp [Value.ownBlock] at hv2
set_option maxRecDepth 100000 in
set_option maxHeartbeats 1000000 in
theorem play_int (f:FuncId)(cap:Array Value)(T:Prog Int)(Al:Option Addr)(cl:Nat)(L:List Int)(Aa:Option Addr)(ca:Nat)(ans:List Int)(w:World)(h:Ints w (.slice Al L.length cl) L)(hl:L.length<=32768)(ha:Ints w (.slice Aa ans.length ca) ans)(hn:ans.length<=maxAns)
  (hb:∀ b,(Value.slice Aa ans.length ca).ownBlock=some b->b<w.heap.size)
  (hcf:∀ (args:Array Value) (w:World),(callFunc f args).run Try.prog w=.ok (.enter f args) w)
  (hdo:∀ w1 p,Ext w w1->Plays w.heap.size w1 p (TS0 L ans)->Calls Try.prog f (#[.pointer (some ⟨p,0,none⟩)]++cap) w1 (Post encI w.heap.size p w1 (T.run (TS0 L ans)))) :
  Calls Try.prog 15 #[.func (.func f) #[] cap,.slice Al L.length cl,.slice Aa ans.length ca] w fun e w'=>∃ v,e=.returned (.tuple #[.int .i64 ((T.run (TS0 L ans)).1.getD 0),v])/\Outs w' v (T.run (TS0 L ans)).1.isSome (T.run (TS0 L ans)).2/\Ext w w':=by
 obtain⟨q1,q2⟩:L.length<=cl/\cl<=9223372036854775807:=by
  obtain⟨A',c',he,q1,q2,_⟩:=h
  injection he with e1 e2 e3
  subst e3
  exact⟨q1,q2⟩
 generalize hR:(fun e w'=>∃ v,e=Ending.returned (.tuple #[.int .i64 ((T.run (TS0 L ans)).1.getD 0),v])/\Outs w' v (T.run (TS0 L ans)).1.isSome (T.run (TS0 L ans)).2/\Ext w w')=R
 have hfin:∀ v w',Outs w' v (T.run (TS0 L ans)).1.isSome (T.run (TS0 L ans)).2->Ext w w'->R (.returned (.tuple #[.int .i64 ((T.run (TS0 L ans)).1.getD 0),v])) w':=fun v w' h1 h2=>hR▸⟨v,rfl,h1,h2⟩
 clear hR
 have hmf:∀ (fn:Fn) (first cap:Array Value) (w:World),(Instr.makeFunc fn first cap).run Try.prog w=.ok (.func fn first cap) w:=fun _ _ _ _=>rfl
 go_enter_defers Try.func15,Try.ntmps15
 go_wp2_with fail
 obtain⟨hx,g1,g2,g3,g4⟩:=four_boxes w (.cells #[.int .i64 0] 3) (.cells #[.bool false,.slice none 0 0,.slice none 0 0,.slice none 0 0] 30) (.cells #[.int .i64 1,.slice Aa ans.length ca,.slice none 0 0,.slice none 0 0,.slice none 0 0] 78) (.cells #[.pointer (some ⟨w.heap.size+1+1,0,none⟩)] 33)
 generalize hW:World.alloc (World.alloc (World.alloc (World.alloc w _) _) _) _=W at *
 clear hW
 have hI:=h.ext hx
 have cm:=cell_of_heap g4
 have hN:Near W (w.heap.size+1+1) 5 78 W:=Near.new g3 rfl
 have hmlt:=(Array.getElem?_eq_some_iff.1 g4).1
 have hmin:min (L.length:Int) 32768=(L.length:Int):=by omega
 have hS:∀ w',Near W (w.heap.size+1+1) 5 78 w'->((∀ i,w'.cell? ⟨w.heap.size+1+1+1,i,none⟩=(#[.pointer (some ⟨w.heap.size+1+1,0,none⟩)]:Array Value)[i]?)/\(∀ i,w'.cell? ⟨w.heap.size+1+1,i,none⟩=(#[cellD w' (w.heap.size+1+1) 0,cellD w' (w.heap.size+1+1) 1,cellD w' (w.heap.size+1+1) 2,cellD w' (w.heap.size+1+1) 3,cellD w' (w.heap.size+1+1) 4]:Array Value)[i]?)/\(∀ i,w'.frozen? ⟨w.heap.size+1+1,i,none⟩=false)):=fun w' hx =>
  ⟨fun i=>(hx.cell hmlt (by omega)).trans (cm i),hx.five,hx.frozen⟩
 go_region_held3 (fun w'=>(∀ i,w'.cell? ⟨w.heap.size+1+1+1,i,none⟩=(#[.pointer (some ⟨w.heap.size+1+1,0,none⟩)]:Array Value)[i]?)/\(∀ i,w'.cell? ⟨w.heap.size+1+1,i,none⟩=(#[cellD w' (w.heap.size+1+1) 0,cellD w' (w.heap.size+1+1) 1,cellD w' (w.heap.size+1+1) 2,cellD w' (w.heap.size+1+1) 3,cellD w' (w.heap.size+1+1) 4]:Array Value)[i]?)/\(∀ i,w'.frozen? ⟨w.heap.size+1+1,i,none⟩=false)) (first | exact hS _ hN.drew | (refine hS _ ?_;(repeat refine Near.set ?_ _ _);exact hN.drew.ext h2))
  (first
    | (go_at_call 59
       refine (clone_any Al cl L _ (hI.ext (Ext.refl W).drew) (by omega)).mono ?_
       rintro e w' ⟨v',rfl,h1,h2⟩
       obtain⟨As,cs,rfl,hs1,hs2⟩:=h1.ints.slice))
 obtain⟨hP,hH,hE⟩:=play_start (p:=w.heap.size+1+1) hx (by omega) g3 ((Ext.refl W).drew.trans h2) h1 hl ha hn hb
 have hbg:=hH _ _ g1 (by omega)
 have hbo:=hH _ _ g2 (by omega)
 have hbm:=hH _ _ g4 (by omega)
 clear hH g1 g2 g3 g4 hS hN h1 h2 hI cm hmin hmlt
 rename_i hh
 clear hh
 have hT:=hdo _ _ hE hP
 clear hdo
 generalize World.setCell _ _ _=W2 at *
 have cbm:=hbm.cells
 have hnf:(binOp .neq 39 (.func (.func f) #[] cap) .nilFunc).run Try.prog W2=.ok (.bool true) W2:=by kernel_rfl
 go_wp2_with fail
 generalize hr:T.run (TS0 L ans)=r at hT hfin
 obtain⟨o,S⟩:=r
 clear hr
 cases o with
 | some a =>
   refine hT.mono ?_
   rintro e w3 ⟨rfl,hP3,hK3⟩
   have hbg3:=hbg.keep hK3
   have hbo3:=hbo.keep hK3
   have hbm3:=hbm.keep hK3
   have hE3:Ext w w3:=Below.trans hE hK3.below
   clear hbg hbo hbm hE hK3 hT hP cbm hnf
   have cbg:=hbg3.cells
   have fbg:=frozen_of_heap hbg3.1
   have cbo:=hbo3.cells
   have fbo:=frozen_of_heap hbo3.1
   go_wp2_with fail
   have fgo:w.heap.size≠w.heap.size+1:=by omega
   have hg4:=heap_setCell (i:=0) hbg3.1 (.int .i64 a)
   have hP4:Plays w.heap.size (w3.setCell ⟨w.heap.size,0,none⟩ (.int .i64 a)) (w.heap.size+1+1) S:=by
    obtain⟨q,vA,vL,vC,vN,L',hM⟩:=hP3
    exact⟨q,vA,vL,vC,vN,L',hM.setO hbg3.2 (Nat.le_refl _) _ _⟩
   have hbm4:=hbm3.setO (b:=w.heap.size) (by omega) hbg3.2 0 (.int .i64 a)
   have hbo4:=hbo3.setO (b:=w.heap.size) (by omega) hbg3.2 0 (.int .i64 a)
   have hbg4:HeldP (w3.setCell ⟨w.heap.size,0,none⟩ (.int .i64 a)) (w.heap.size+1+1) w.heap.size (.cells #[.int .i64 a] 3 (0,0)):=⟨hg4,fun h'=>hbg3.2 ((ownR_same (heap_setCell_ne _ _ (by omega)) _).1 h')⟩
   have hE4:Ext w (w3.setCell ⟨w.heap.size,0,none⟩ (.int .i64 a)):=hE3.setCell (Nat.le_refl _) _
   clear hP3 hbg3 hbo3 hbm3 hE3 cbg fbg cbo fbo hg4
   generalize World.setCell _ _ _=w4 at *
   generalize hbq:w.heap.size+1=bo at hbm4 hbo4 hP4 ⊢
   have fgo1:w.heap.size≠bo:=by omega
   have fgo2:bo≠w.heap.size:=by omega
   clear fgo
   have cbg:=hbg4.cells
   have fbg:=frozen_of_heap hbg4.1
   have cbo:=hbo4.cells
   have fbo:=frozen_of_heap hbo4.1
   go_region
   all_goals
    generalize hW5:World.drew _=W5
    have hsm:SameW w4 W5:=by
     rw [<- hW5]
     repeat first | with_reducible exact SameW.refl _ | with_reducible refine SameW.drew2 ?_ | refine SameW.set ?_ hbg4.1 rfl | refine SameW.set ?_ hbo4.1 rfl
    clear hW5 cbg fbg cbo fbo
    have hP5:=hP4.ext hsm.ext
    have hbm5:=hbm4.ext hsm.ext hP4.lt
    have hbg5:=hbg4.ext hsm.ext (by rw [hbq];exact hP4.lt)
    have hbo5:=hbo4.ext hsm.ext hP4.lt
    have hE5:Ext w W5:=hE4.trans hsm.ext
    clear hP4 hbm4 hbg4 hbo4 hE4 hsm
    go_wp2_with fail
    refine leaves_cons (f:=65) (args:=#[.pointer (some ⟨bo+1+1,0,none⟩),.pointer (some ⟨w.heap.size,0,none⟩),.pointer (some ⟨bo,0,none⟩)]) (by simp) (by simp [go_sem]) ?_
    refine (end_ok w.heap.size _ S _ _ _ _ _ hP5 hbm5 (by rw [<- hbq];exact hbg5) hbo5 (by omega)).mono ?_
    rintro e u' w4 ⟨rfl,rfl,hg,⟨vC,vN,vs,ho,hO⟩,hB⟩
    have cg:=cell_of_heap hg
    have co:=cell_of_heap ho
    have cg0:=cg 0
    have co0:=co 0
    have co1:=co 1
    have co2:=co 2
    have co3:=co 3
    refine⟨.tuple #[.int .i64 a,.agg #[.bool true,vC,vN,vs]],?_,hfin _ _ hO (Below.trans hE5 hB)⟩
    simp [results,Try.results15,go_sem,cg0,co0,co1,co2,co3]
 | none =>
   refine hT.mono ?_
   rintro e w3 ⟨rfl,hP3,hK3⟩
   have hbg3:=hbg.keep hK3
   have hbo3:=hbo.keep hK3
   have hbm3:=hbm.keep hK3
   have hE3:Ext w w3:=Below.trans hE hK3.below
   clear hbg hbo hbm hE hK3 hT hP cbm hnf
   refine leaves_cons (f:=65) (args:=#[.pointer (some ⟨w.heap.size+1+1+1,0,none⟩),.pointer (some ⟨w.heap.size,0,none⟩),.pointer (some ⟨w.heap.size+1,0,none⟩)]) (by simp) (by simp [go_sem]) ?_
   refine (end_stop w.heap.size _ S _ _ _ _ [] _ hP3 hbm3 hbg3 hbo3 (Nat.le_refl _) (by omega)).mono ?_
   rintro e u' w4 ⟨rfl,rfl,hg,⟨vC,vN,vs,ho,hO⟩,hB⟩
   have cg:=cell_of_heap hg
   have co:=cell_of_heap ho
   have cg0:=cg 0
   have co0:=co 0
   have co1:=co 1
   have co2:=co 2
   have co3:=co 3
   refine⟨.tuple #[.int .i64 0,.agg #[.bool false,vC,vN,vs]],?_,hfin _ _ hO (Below.trans hE3 hB)⟩
   simp [results,Try.results15,go_sem,cg0,co0,co1,co2,co3]
   trace_state
theorem row_new (w:World)(xs:List Value)(e size n:Nat)(h:xs.length=n*size)(hn:n<=1000000):(w.alloc (.cells xs.toArray e)).ownsRow w.heap.size e size (.slice (some ⟨w.heap.size,0,none⟩) n n) n xs :=
 ⟨h,.inr ⟨w.heap.size,n,xs.toArray,rfl,Nat.le_refl _,heap_alloc_new _ _,Nat.le_refl _,by unfold maxLen;omega,by simpa using h,by simp [<- h]⟩⟩
@[go_sem] theorem build_strip (a b c:Int) (w:World):(Instr.build 109 #[(0,.int .i64 a),(1,.int .i64 b),(2,.int .i64 c)]).run Try.prog w=.ok (.agg #[.int .i64 a,.int .i64 b,.int .i64 c]) w:=run_build w 109 _ _ (by kernel_rfl)
end Go.Proofs.Ytbphlkaihfbgeaa
namespace Kv
end Kv
namespace Go.Proofs.Ytbphlkaihfbgeaa
open Go.RowKit Kv
def wantRow (f:Nat->Want) (n:Nat):List Value:=((List.range n).map f).flatMap wantVals
theorem wants_succ (f:Nat->Want)(j:Nat):wantRow f (j+1)=wantRow f j++wantVals (f j):=by
 unfold wantRow
 rw [List.range_succ,List.map_append,List.flatMap_append]
 simp
theorem wants_row {w:World}{B:Nat}{v:Value}{n:Nat}{f:Nat->Want}(h:w.ownsRow B 91 2 v n (wantRow f n)):WantsAt w v ((List.range n).map f):=by
 have:=Recs.of_row h
 unfold WantsAt
 rw [List.length_map,List.length_range]
 exact this
@[go_sem] theorem build_regw (a b c d e:Int) (w:World):(Instr.build 56 #[(0,.int .i64 a),(3,.int .i64 b),(4,.int .i64 c),(5,.int .i64 d),(6,.int .i64 e)]).run Try.prog w=.ok (.agg #[.int .i64 a,.int .i64 0,.int .i64 0,.int .i64 b,.int .i64 c,.int .i64 d,.int .i64 e]) w:=run_build w 56 _ _ (by kernel_rfl)
theorem RegsAt.ext {ix:List Nat}{p b:Nat}{w w':World}{l:List Reg}(h:RegsAt ix w p b l)(hx:Ext w w')(hp:p<w.heap.size):RegsAt ix w' p b l:=h.keep (B:=0) (Keep.of_ext hx hp (Nat.zero_le _))
end Go.Proofs.Ytbphlkaihfbgeaa
namespace Go.Proofs.Ytbphlkaihfbgeaa
open Go.RowKit Go.WideShapes Go.ChangeShapes
section
variable {H:Type} {enc:TypeId × Value->H} {P:Program}
theorem post_of_below {f:Func}{s:ChangeSpec}{apart fresh handsOn again:Bool}{W W':World}{args:Array Value}{v:Value}{ds gs:List (DataW H)}{before pa pv:List MemPlace}
  (hW:DataW.Whole enc P f.params.toList s.vars apart W args.toList ds gs before)
  (hres:∀ (b:Nat) (sp:Nat->Bool) (hd:Bool),DataW.TrodAll enc P W' b sp hd f.resultTypes.toList (v.resultList f.resultTypes.size) (s.fn H (ds++gs)).results [])
  (hargs:∀ sp:Nat->Bool,(∀ p∈before,sp p.block=true)->DataW.TrodAll enc P W' 0 sp true f.params.toList args.toList (s.fn H (ds++gs)).args pa)
  (hvars:∀ sp:Nat->Bool,(∀ p∈before,sp p.block=true)->DataW.TrodVars enc P W' sp s.vars (s.fn H (ds++gs)).vars pv)
  (hps:before=pa++pv)(hb:Below W.heap.size W W')
  (hok:∀ (j:Nat) (t:TypeId) (r:Value),f.resultTypes[j]?=some t->(v.resultList f.resultTypes.size)[j]?=some r->Value.okWide P W' .any 0 t r) :
  s.post enc P f apart fresh handsOn again W args v W':=by
 have hlt:∀ p∈before,p.block<W.heap.size:=fun p hp=>hW.lt p hp
 have hold:∀ p∈before,(fun b=>decide (b<W.heap.size)) p.block=true:=fun p hp=>by simpa using hlt p hp
 refine⟨ds,gs,before,[],pa,pv,hW,hres _ _ _,hargs _ hold,hvars _ hold,World.keptBut_mono (fun p hp=>⟨hp,?_⟩) (hb.frame (·∈before)),fun _=>?_⟩
 · rw [hps,List.mem_append] at hp
   exact Or.inr hp
 · obtain⟨_,_,_,_,_,hz,hn⟩:=hW
   refine⟨hok,_,_,([]++pa)++pv,⟨[]++pa,pv,trodAll_append (hargs _ (fun _ _=>rfl)) (hres _ _ _),hvars _ (fun _ _=>rfl),rfl,?_,?_⟩,?_⟩
   · intro b off hp
     have hin:MemPlace.cell b off∈before:=by rw [hps];simpa using hp
     rw [hb.frozen (hlt _ hin)]
     exact hz b off hin
   · intro ha
     have:=hn ha
     rw [hps] at this
     simpa using this
   · intro p hp _
     rw [hps]
     simpa using hp
end
section
variable {H:Type} {enc:TypeId × Value->H} {P:Program}
theorem trodAll_stays (hl:laidOutB P=true):∀ (ts:List TypeId),(∀ t∈ts,P.readableRec t=true/\t<P.types.size)->∀ {W W':World} {sp:Nat->Bool} {vs:List Value} {ds:List (DataW H)} {ps:List MemPlace},
  DataW.TrodAll enc P W 0 (fun _=>true) true ts vs ds ps->(∀ p∈ps,W.sameAt W' p)->(∀ p∈ps,sp p.block=true)->DataW.TrodAll enc P W' 0 sp true ts vs ds ps
 | [],_,W,W',sp,vs,ds,ps,h,_,_=>by
   cases vs <;> cases ds <;> simp_all [DataW.TrodAll]
 | t :: ts,ht,W,W',sp,vs,ds,ps,h,hs,hsp=>by
   obtain⟨v,vs',d,ds',p,q,rfl,rfl,rfl,hp,hq⟩:=trodAll_cons h
   have h1:=ht t (by simp)
   refine trodAll_cons_mk (WideElems.Trod_stays hl h1.1 h1.2 hp (fun x hx=>hs x (by simp [hx])) (fun x hx=>hsp x (by simp [hx]))) ?_
   exact trodAll_stays hl ts (fun t' h'=>ht t' (by simp [h'])) hq (fun x hx=>hs x (by simp [hx])) (fun x hx=>hsp x (by simp [hx]))
theorem trodAll_length:∀ (ts:List TypeId) {W:World} {b:Nat} {sp:Nat->Bool} {held:Bool} {vs:List Value} {ds:List (DataW H)} {ps:List MemPlace},DataW.TrodAll enc P W b sp held ts vs ds ps->ds.length=ts.length
 | [],W,b,sp,held,vs,ds,ps,h=>by cases vs <;> cases ds <;> simp_all [DataW.TrodAll]
 | t :: ts,W,b,sp,held,vs,ds,ps,h=>by
   obtain⟨v,vs',d,ds',p,q,rfl,rfl,rfl,hp,hq⟩:=trodAll_cons h
   simp [trodAll_length ts hq]
theorem law_post {f:Func}{s:ChangeSpec}{W W':World}{args:Array Value}{ds gs:List (DataW H)}{before:List MemPlace}{tb:TypeId}
  (hl:laidOutB P=true)(hr:∀ t∈f.params.toList,P.readableRec t=true/\t<P.types.size)(hres:f.resultTypes=#[tb])(htb:P.underlying tb=some .bool)
  (hvars:s.vars=[])(hspec:∀ ds:List (DataW H),ds.length=f.params.size->s.fn H ds={ results:=[.lit (.bool true)],args:=ds })
  (hW:DataW.Whole enc P f.params.toList s.vars false W args.toList ds gs before)(hx:Ext W W') :
  s.post enc P f false true false false W args (.bool true) W':=by
 have hWlt:∀ p∈before,p.block<W.heap.size:=fun p hp=>hW.lt p hp
 obtain⟨p,q,hA,hV,hpq,hfz,hnd⟩:=hW
 rw [hvars] at hV
 have hgs:gs=[]/\q=[]:=trodVars_none hV
 obtain⟨rfl,rfl⟩:=hgs
 have hlen:=trodAll_length _ hA
 have hsp:=hspec ds (by rw [hlen];simp)
 have hb:before=p:=by rw [hpq];simp
 subst hb
 have hn:f.resultTypes.size=1:=by rw [hres];rfl
 have hlo:(Value.bool true).resultList f.resultTypes.size=[Value.bool true]:=by rw [hn];rfl
 have e0:ds++([]:List (DataW H))=ds:=List.append_nil _
 refine post_of_below (pa:=before) (pv:=[]) (ds:=ds) (gs:=[]) ⟨before,[],hA,by rw [hvars];exact hV,hpq,hfz,hnd⟩ ?_ ?_ ?_ hpq hx ?_
 · intro b sp hd
   rw [e0,hsp,hlo,hres]
   exact trodAll_cons_mk (shut_bool htb _) trodAll_mk0
 · intro sp hsp'
   rw [e0,hsp]
   exact trodAll_stays hl _ hr hA (fun p hp=>Below.same hx (hWlt p hp)) hsp'
 · intro sp _
   rw [e0,hsp,hvars]
   rfl
 · intro j t r ht hr'
   rw [hres] at ht
   rw [hlo] at hr'
   cases j with
   | zero =>
     obtain rfl:tb=t:=by simpa using ht
     obtain rfl:Value.bool true=r:=by simpa using hr'
     exact okWide_bool_mk htb _
   | succ j=>simp at ht
end
end Go.Proofs.Ytbphlkaihfbgeaa
namespace Go.Proofs.Ytbphlkaihfbgeaa
open Go.ChangeShapes Go.WideShapes Go.ChangeAt Go.RowKit Kv
theorem cell_lt {w:World}{a:Addr}{v:Value}(h:w.cell? a=some v):a.block<w.heap.size:=by
 rcases Nat.lt_or_ge a.block w.heap.size with hlt | hge
 · exact hlt
 · simp [World.cell?,Array.getElem?_eq_none hge] at h
end Go.Proofs.Ytbphlkaihfbgeaa
namespace Go.Proofs.Ytbphlkaihfbgeaa
theorem own:ownKnob Try.prog.godebug=none:=by kernel_rfl
end Go.Proofs.Ytbphlkaihfbgeaa
namespace Go.Proofs.Ytbphlkaihfbgeaa
open Go.RowKit Kv
theorem regsP {w0 w1:World}{B p b:Nat}{S:TS}{rs:List Reg}(hb:b<w0.heap.size)(hc:∀ (i:Nat) u,(rs.flatMap regVals)[i]?=some u->w0.cell? ⟨b,i,none⟩=some u)(hx:Ext w0 w1)(hP:Plays B w1 p S)(hB:w0.heap.size<=B):RegsAt [2,3,4] w1 p b rs:=by
 refine⟨Nat.lt_of_lt_of_le hb hx.size,fun ho=>?_,fun j u hu=>(hx.cell (p:=⟨b,j,none⟩) hb).trans (hc j u hu)⟩
 obtain⟨_,_,_,_,_,_,h⟩:=hP
 have:=(h.own ho).1
 omega
theorem ints_new (w:World)(l:List Int)(h:l.length<=9223372036854775807):Ints (w.alloc (.cells (l.map (Value.int .i64)).toArray 3)) (.slice (some ⟨w.heap.size,0,none⟩) l.length l.length) l:=by
 refine⟨_,_,rfl,Nat.le_refl _,h,fun _=>⟨w.heap.size,0,rfl,by simp,fun i x hi=>?_⟩⟩
 have hh:=World.alloc_heap_new w (.cells (l.map (Value.int .i64)).toArray 3)
 simp only [World.cell?,hh,Nat.zero_add]
 simp [hi]
theorem Outs.parts {w:World}{v:Value}{d:Bool}{S:TS}(h:Outs w v d S):∃ A c A' c' As k n,v=.agg #[.bool d,.slice A S.acc.length c,.slice A' S.nts.length c',.slice As n k]:=by
 obtain⟨A,c,A',c',vs,L,rfl,hO⟩:=h
 obtain⟨As,k,rfl,_,_⟩:=hO.locs.slice
 exact⟨A,c,A',c',As,k,_,rfl⟩
end Go.Proofs.Ytbphlkaihfbgeaa
namespace Kv
theorem Prog.bind_some {α β:Type}{p:Prog α}{f:α->Prog β}{S S':TS}{b:β}(h:(p.bind f).run S=(some b,S')):∃ a S1,p.run S=(some a,S1)/\(f a).run S1=(some b,S'):=by
 rw [Prog.run_bind] at h
 rcases hr:p.run S with⟨o,S1⟩
 rw [hr] at h
 cases o with
 | none=>simp [thenR] at h
 | some a=>exact⟨a,S1,rfl,h⟩
end Kv
namespace Go.Proofs.Ytbphlkaihfbgeaa
open Kv
end Go.Proofs.Ytbphlkaihfbgeaa
namespace Kv
def TameA (S:TS):Prop:=∀ v∈S.ans,0<=v/\v<=1048576
theorem TameA.run {α:Type}{S S':TS}{p:Prog α}{a:Option α}(h:TameA S)(hr:p.run S=(a,S')):TameA S':=by
 have:=Prog.run_ans p S
 rw [hr] at this
 unfold TameA
 rw [this]
 exact h
end Kv
namespace Go.Proofs.Ytbphlkaihfbgeaa
open Go.RowKit Kv
theorem regR_cell {r:Reg}(h:r.kind=1)(me:Int):regR r me=rd r.base:=if_pos h
theorem regW_cell {r:Reg}(h:r.kind=1)(me v:Int):regW r me v=wr r.base v:=if_pos h
set_option maxRecDepth 100000 in
set_option maxHeartbeats 1000000 in
theorem bflag_p (B p n me j:Nat)(S:TS)(rs:List Reg)(b c:Nat)(r:Reg)(w:World)(h:Plays B w p S)(hl:RegsAt [2,3,4] w p b rs)(hj:j<n)(hr:rs[1+j]?=some r)(hok:r.ok)(hk:r.kind=1)(hbase:r.base=4+(j:Int))(hme:(me:Int)<r.n)(hn:n<=8) :
  Calls Try.prog 79 #[.agg #[.pointer (some ⟨p,0,none⟩),.slice (some ⟨b,0,none⟩) (n+1) c,.int .i64 n,.int .i64 me],.int .i64 j] w (Post encI B p w ((rd (4+(j:Int))).run S)):=by
 have hq0:∀ W,Plays B W p S->Calls Try.prog 44 #[.pointer (some ⟨p,0,none⟩),.agg #[.int .i64 r.kind,.int .i64 r.base,.int .i64 r.loc,.int .i64 r.n,.int .i64 r.wr,.int .i64 r.rd,.int .i64 r.top],.int .i64 me] W (Post encI B p W ((rd (4+(j:Int))).run S)):=fun W hP=>by
  have h:=reg_read_p B p S r me W hP hok ⟨by omega,hme⟩
  rw [regR_cell hk,hbase] at h
  exact h
 have hq:=Lib.hid hq0
 clear hq0 hok hk hbase hme
 generalize hR:Post encI B p w ((rd (4+(j:Int))).run S)=R
 have hO:Owes R encI B p w ((rd (4+(j:Int))).run S):=hR▸owes _ _ _ _ _
 clear hR
 obtain⟨b1,hK,hP⟩:=h.entry (.cells #[.pointer (some ⟨p,0,none⟩),.slice (some ⟨b,0,none⟩) (n+1) c,.int .i64 n,.int .i64 me] 93)
 have c_b1:=b1.cells
 replace hl:=hl.extL ((Ext.refl w).alloc (.cells #[.pointer (some ⟨p,0,none⟩),.slice (some ⟨b,0,none⟩) (n+1) c,.int .i64 n,.int .i64 me] 93)) h.lt
 clear h
 have hw1:=IntWalk.i64_in (1+(j:Int)) (by omega)
 have hj0:(0:Int)<=1+(j:Int):=by omega
 have hj1:(1:Int)+(j:Int)<(n:Int)+1:=by omega
 have hjt:(1+(j:Int)).toNat=1+j:=by omega
 go_enter Try.func79,Try.ntmps79
 go_wp2_with fail
 generalize World.alloc w _=W0 at *
 have hlt:=hP.lt
 replace hP:=hP.drew
 replace hK:=hK.drew
 replace b1:=b1.drew
 replace hl:=hl.extL (Ext.refl _).drew hlt
 obtain⟨a0,a1,a2,a3,a4,a5,a6⟩:=hl.nth hr
 clear c_b1
 have hS:((_:World).cell? ⟨w.heap.size,0,none⟩=some (.pointer (some ⟨p,0,none⟩))/\(_:World).cell? ⟨w.heap.size,1,none⟩=some (.slice (some ⟨b,0,none⟩) (n+1) c)/\(_:World).cell? ⟨w.heap.size,2,none⟩=some (.int .i64 n)/\(_:World).cell? ⟨w.heap.size,3,none⟩=some (.int .i64 me))/\((_:World).cell? ⟨b,(1+j)*7,none⟩=some (.int .i64 r.kind)/\(_:World).cell? ⟨b,(1+j)*7+1,none⟩=some (.int .i64 r.base)/\(_:World).cell? ⟨b,(1+j)*7+2,none⟩=some (.int .i64 r.loc)/\(_:World).cell? ⟨b,(1+j)*7+3,none⟩=some (.int .i64 r.n)/\(_:World).cell? ⟨b,(1+j)*7+4,none⟩=some (.int .i64 r.wr)/\(_:World).cell? ⟨b,(1+j)*7+5,none⟩=some (.int .i64 r.rd)/\(_:World).cell? ⟨b,(1+j)*7+6,none⟩=some (.int .i64 r.top)):=⟨⟨b1.cells 0,b1.cells 1,b1.cells 2,b1.cells 3⟩,a0,a1,a2,a3,a4,a5,a6⟩
 clear a0 a1 a2 a3 a4 a5 a6
 refine wp_region_held_drew (S:=fun w'=>(w'.cell? ⟨w.heap.size,0,none⟩=some (.pointer (some ⟨p,0,none⟩))/\w'.cell? ⟨w.heap.size,1,none⟩=some (.slice (some ⟨b,0,none⟩) (n+1) c)/\w'.cell? ⟨w.heap.size,2,none⟩=some (.int .i64 n)/\w'.cell? ⟨w.heap.size,3,none⟩=some (.int .i64 me))/\(w'.cell? ⟨b,(1+j)*7,none⟩=some (.int .i64 r.kind)/\w'.cell? ⟨b,(1+j)*7+1,none⟩=some (.int .i64 r.base)/\w'.cell? ⟨b,(1+j)*7+2,none⟩=some (.int .i64 r.loc)/\w'.cell? ⟨b,(1+j)*7+3,none⟩=some (.int .i64 r.n)/\w'.cell? ⟨b,(1+j)*7+4,none⟩=some (.int .i64 r.wr)/\w'.cell? ⟨b,(1+j)*7+5,none⟩=some (.int .i64 r.rd)/\w'.cell? ⟨b,(1+j)*7+6,none⟩=some (.int .i64 r.top))) rfl hS (fun hHeld=>?_)
 refine tkb 0 ?_
 iterate 10
  refine tkn (v:=?_) rfl (by kernel_rfl) (fun _ _ _ h=>h) (by assumption) ?_ ?_
  rotate_left
  · (intro w hSw;(try dsimp only at hSw);go_simp;try with_reducible rfl)
  try simp only [put_pack]
 refine tke ?_
 refine wpAnyH_ready (rs:=[10]) (by kernel_rfl) (by simp) ?_
 refine AllReadyH.cons rfl (fun K hKK=>?_) (AllReadyH.nil)
 go_simp
 refine tlast hO hK (hq.out _ hP) (fun _ h=>⟨rfl,h⟩) ?_
 clear hO hK hP hS
 intro v S1 w1 hrun hP hk1 hK hO
 replace b1:=b1.keep hk1
 replace hl:=hl.keep hk1
 obtain⟨a0,a1,a2,a3,a4,a5,a6⟩:=hl.nth hr
 refine hKK.out _ _ ⟨⟨b1.cells 0,b1.cells 1,b1.cells 2,b1.cells 3⟩,a0,a1,a2,a3,a4,a5,a6⟩ (fun hHeld=>?_)
 clear hKK K a0 a1 a2 a3 a4 a5 a6
 try dsimp only
 refine tk 11 (v:=?_) rfl (by kernel_rfl) (fun _ _ _ h=>h) (by assumption) ?_ ?_
 rotate_left
 · (intro w hSw;(try dsimp only at hSw);go_simp;try with_reducible rfl)
 try simp only [put_pack]
 refine wpAnyH_done (by kernel_rfl) ?_ _
 go_simp
 have hf:=hO.done hP hK
 clear hO hP hK b1 hl
 go_wp2_with fail
 first | with_reducible exact hf | (go_simp;exact hf) | (go_ret;exact hf) | (go_ret2;exact hf)
set_option maxRecDepth 100000 in
set_option maxHeartbeats 1000000 in
theorem bturn_p (B p n me:Nat)(S:TS)(rs:List Reg)(b c:Nat)(r:Reg)(w:World)(h:Plays B w p S)(hl:RegsAt [2,3,4] w p b rs)(hj:me<n)(hr:rs[0]?=some r)(hok:r.ok)(hk:r.kind=1)(hbase:r.base=3)(hme:(me:Int)<r.n)(hn:n<=8) :
  Calls Try.prog 78 #[.agg #[.pointer (some ⟨p,0,none⟩),.slice (some ⟨b,0,none⟩) (n+1) c,.int .i64 n,.int .i64 me]] w (Post (fun v=>.int .i64 (eturn n v:Nat)) B p w ((rd 3).run S)):=by
 have hq0:∀ W,Plays B W p S->Calls Try.prog 44 #[.pointer (some ⟨p,0,none⟩),.agg #[.int .i64 r.kind,.int .i64 r.base,.int .i64 r.loc,.int .i64 r.n,.int .i64 r.wr,.int .i64 r.rd,.int .i64 r.top],.int .i64 me] W (Post encI B p W ((rd 3).run S)):=fun W hP=>by
  have h:=reg_read_p B p S r me W hP hok ⟨by omega,hme⟩
  rw [regR_cell hk,hbase] at h
  exact h
 have hq:=Lib.hid hq0
 clear hq0 hok hk hbase hme
 generalize hR:Post (fun v=>Value.int IntKind.i64 (eturn n v:Nat)) B p w ((rd 3).run S)=R
 have hO:Owes R (fun v=>Value.int IntKind.i64 (eturn n v:Nat)) B p w ((rd 3).run S):=hR▸owes _ _ _ _ _
 clear hR
 obtain⟨b1,hK,hP⟩:=h.entry (.cells #[.pointer (some ⟨p,0,none⟩),.slice (some ⟨b,0,none⟩) (n+1) c,.int .i64 n,.int .i64 me] 93)
 have c_b1:=b1.cells
 replace hl:=hl.extL ((Ext.refl w).alloc (.cells #[.pointer (some ⟨p,0,none⟩),.slice (some ⟨b,0,none⟩) (n+1) c,.int .i64 n,.int .i64 me] 93)) h.lt
 clear h
 have hw1:=IntWalk.i64_in (1+(me:Int)) (by omega)
 have hj0:(0:Int)<=1+(me:Int):=by omega
 have hj1:(1:Int)+(me:Int)<(n:Int)+1:=by omega
 have hjt:(1+(me:Int)).toNat=1+me:=by omega
 go_enter Try.func78,Try.ntmps78
 go_wp2_with fail
 generalize World.alloc w _=W0 at *
 have hlt:=hP.lt
 replace hP:=hP.drew
 replace hK:=hK.drew
 replace b1:=b1.drew
 replace hl:=hl.extL (Ext.refl _).drew hlt
 obtain⟨a0,a1,a2,a3,a4,a5,a6⟩:=hl.nth hr
 clear c_b1
 have hS:((_:World).cell? ⟨w.heap.size,0,none⟩=some (.pointer (some ⟨p,0,none⟩))/\(_:World).cell? ⟨w.heap.size,1,none⟩=some (.slice (some ⟨b,0,none⟩) (n+1) c)/\(_:World).cell? ⟨w.heap.size,2,none⟩=some (.int .i64 n)/\(_:World).cell? ⟨w.heap.size,3,none⟩=some (.int .i64 me))/\((_:World).cell? ⟨b,0*7,none⟩=some (.int .i64 r.kind)/\(_:World).cell? ⟨b,0*7+1,none⟩=some (.int .i64 r.base)/\(_:World).cell? ⟨b,0*7+2,none⟩=some (.int .i64 r.loc)/\(_:World).cell? ⟨b,0*7+3,none⟩=some (.int .i64 r.n)/\(_:World).cell? ⟨b,0*7+4,none⟩=some (.int .i64 r.wr)/\(_:World).cell? ⟨b,0*7+5,none⟩=some (.int .i64 r.rd)/\(_:World).cell? ⟨b,0*7+6,none⟩=some (.int .i64 r.top)):=⟨⟨b1.cells 0,b1.cells 1,b1.cells 2,b1.cells 3⟩,a0,a1,a2,a3,a4,a5,a6⟩
 clear a0 a1 a2 a3 a4 a5 a6
 refine wp_region_held_drew (S:=fun w'=>(w'.cell? ⟨w.heap.size,0,none⟩=some (.pointer (some ⟨p,0,none⟩))/\w'.cell? ⟨w.heap.size,1,none⟩=some (.slice (some ⟨b,0,none⟩) (n+1) c)/\w'.cell? ⟨w.heap.size,2,none⟩=some (.int .i64 n)/\w'.cell? ⟨w.heap.size,3,none⟩=some (.int .i64 me))/\(w'.cell? ⟨b,0*7,none⟩=some (.int .i64 r.kind)/\w'.cell? ⟨b,0*7+1,none⟩=some (.int .i64 r.base)/\w'.cell? ⟨b,0*7+2,none⟩=some (.int .i64 r.loc)/\w'.cell? ⟨b,0*7+3,none⟩=some (.int .i64 r.n)/\w'.cell? ⟨b,0*7+4,none⟩=some (.int .i64 r.wr)/\w'.cell? ⟨b,0*7+5,none⟩=some (.int .i64 r.rd)/\w'.cell? ⟨b,0*7+6,none⟩=some (.int .i64 r.top))) rfl hS (fun hHeld=>?_)
 refine tkb 0 ?_
 iterate 8
  refine tkn (v:=?_) rfl (by kernel_rfl) (fun _ _ _ h=>h) (by assumption) ?_ ?_
  rotate_left
  · (intro w hSw;(try dsimp only at hSw);go_simp;try with_reducible rfl)
  try simp only [put_pack]
 refine tke ?_
 refine tk 9 (v:=?_) rfl (by kernel_rfl) (fun _ _ _ h=>h) (by assumption) ?_ ?_
 rotate_left
 · (intro w hSw;(try dsimp only at hSw);go_simp;try with_reducible rfl)
 try simp only [put_pack]
 refine tk 10 (v:=?_) rfl (by kernel_rfl) (fun _ _ _ h=>h) (by assumption) ?_ ?_
 rotate_left
 · (intro w hSw;(try dsimp only at hSw);go_simp;try with_reducible rfl)
 try simp only [put_pack]
 refine wpAnyH_ready (rs:=[8]) (by kernel_rfl) (by simp) ?_
 refine AllReadyH.cons rfl (fun K hKK=>?_) (AllReadyH.nil)
 go_simp
 have hO2:Owes R (fun v=>Value.int IntKind.i64 (eturn n v:Nat)) B p w (((rd 3).bind fun v=>.ret v).run S):=hO
 refine tstep hO2 hK (hq.out _ hP) (fun _ h=>⟨rfl,h⟩) ?_
 clear hO hO2 hK hP hS
 intro v S1 w1 hrun hP hk1 hK hO
 replace b1:=b1.keep hk1
 replace hl:=hl.keep hk1
 obtain⟨a0,a1,a2,a3,a4,a5,a6⟩:=hl.nth hr
 have hn0:¬ n=0:=by omega
 obtain⟨m1,hm1⟩:∃ m1:Int,v.tmod (n:Int)=m1:=⟨_,rfl⟩
 have hml:-(n:Int)<m1/\m1<n:=by
  have h1:=Int.tmod_lt_of_pos v (show (0:Int)<(n:Int) by omega)
  have h2:=Int.lt_tmod_of_pos v (show (0:Int)<(n:Int) by omega)
  omega
 have hw2:=IntWalk.i64_in (m1+(n:Int)) (by omega)
 obtain⟨m2,hm2⟩:∃ m2:Nat,(m1+(n:Int)).tmod (n:Int)=m2:=⟨((m1+(n:Int)).tmod (n:Int)).toNat,by
  have:=Int.tmod_nonneg (n:Int) (show 0<=m1+(n:Int) by omega)
  omega⟩
 have het:eturn n v=m2:=by unfold eturn;rw [hm1,hm2];omega
 clear hml
 refine hKK.out _ _ ⟨⟨b1.cells 0,b1.cells 1,b1.cells 2,b1.cells 3⟩,a0,a1,a2,a3,a4,a5,a6⟩ (fun hHeld=>?_)
 clear hKK K a0 a1 a2 a3 a4 a5 a6 hrun hk1
 try dsimp only
 refine tk 11 (v:=?_) rfl (by kernel_rfl) (fun _ _ _ h=>h) (by assumption) ?_ ?_
 rotate_left
 · (intro w hSw;(try dsimp only at hSw);go_simp;try with_reducible rfl)
 try simp only [put_pack]
 refine tk 12 (v:=?_) rfl (by kernel_rfl) (fun _ _ _ h=>h) (by assumption) ?_ ?_
 rotate_left
 · (intro w hSw;(try dsimp only at hSw);go_simp;try with_reducible rfl)
 try simp only [put_pack]
 refine wpAnyH_done (by kernel_rfl) ?_ _
 go_simp
 have hf:=hO.done hP hK
 rw [het] at hf
 have c_b1:=b1.cells
 clear hO hP hK b1 hl het
 go_wp2_with fail
 first | with_reducible exact hf | (go_simp;exact hf) | (go_ret;exact hf) | (go_ret2;exact hf)
set_option maxRecDepth 100000 in
set_option maxHeartbeats 1000000 in
theorem braise_p (B p n me:Nat)(u:Int)(S:TS)(rs:List Reg)(b c:Nat)(r:Reg)(w:World)(h:Plays B w p S)(hl:RegsAt [2,3,4] w p b rs)(hj:me<n)(hr:rs[1+me]?=some r)(hok:r.ok)(hk:r.kind=1)(hbase:r.base=4+(me:Int))(hme:(me:Int)<r.n)(hn:n<=8) :
  Calls Try.prog 81 #[.agg #[.pointer (some ⟨p,0,none⟩),.slice (some ⟨b,0,none⟩) (n+1) c,.int .i64 n,.int .i64 me],.int .i64 u] w (Post encU B p w ((wr (4+(me:Int)) u).run S)):=by
 have hq0:∀ W,Plays B W p S->Calls Try.prog 42 #[.pointer (some ⟨p,0,none⟩),.agg #[.int .i64 r.kind,.int .i64 r.base,.int .i64 r.loc,.int .i64 r.n,.int .i64 r.wr,.int .i64 r.rd,.int .i64 r.top],.int .i64 me,.int .i64 u] W (Post encU B p W ((wr (4+(me:Int)) u).run S)):=fun W hP=>by
  have h:=reg_write_p B p S r me u W hP hok ⟨by omega,hme⟩
  rw [regW_cell hk,hbase] at h
  exact h
 have hq:=Lib.hid hq0
 clear hq0 hok hk hbase hme
 generalize hR:Post encU B p w ((wr (4+(me:Int)) u).run S)=R
 have hO:Owes R encU B p w ((wr (4+(me:Int)) u).run S):=hR▸owes _ _ _ _ _
 clear hR
 obtain⟨b1,hK,hP⟩:=h.entry (.cells #[.pointer (some ⟨p,0,none⟩),.slice (some ⟨b,0,none⟩) (n+1) c,.int .i64 n,.int .i64 me] 93)
 have c_b1:=b1.cells
 replace hl:=hl.extL ((Ext.refl w).alloc (.cells #[.pointer (some ⟨p,0,none⟩),.slice (some ⟨b,0,none⟩) (n+1) c,.int .i64 n,.int .i64 me] 93)) h.lt
 clear h
 have hw1:=IntWalk.i64_in (1+(me:Int)) (by omega)
 have hj0:(0:Int)<=1+(me:Int):=by omega
 have hj1:(1:Int)+(me:Int)<(n:Int)+1:=by omega
 have hjt:(1+(me:Int)).toNat=1+me:=by omega
 go_enter Try.func81,Try.ntmps81
 go_wp2_with fail
 generalize World.alloc w _=W0 at *
 have hlt:=hP.lt
 replace hP:=hP.drew
 replace hK:=hK.drew
 replace b1:=b1.drew
 replace hl:=hl.extL (Ext.refl _).drew hlt
 obtain⟨a0,a1,a2,a3,a4,a5,a6⟩:=hl.nth hr
 clear c_b1
 have hS:((_:World).cell? ⟨w.heap.size,0,none⟩=some (.pointer (some ⟨p,0,none⟩))/\(_:World).cell? ⟨w.heap.size,1,none⟩=some (.slice (some ⟨b,0,none⟩) (n+1) c)/\(_:World).cell? ⟨w.heap.size,2,none⟩=some (.int .i64 n)/\(_:World).cell? ⟨w.heap.size,3,none⟩=some (.int .i64 me))/\((_:World).cell? ⟨b,(1+me)*7,none⟩=some (.int .i64 r.kind)/\(_:World).cell? ⟨b,(1+me)*7+1,none⟩=some (.int .i64 r.base)/\(_:World).cell? ⟨b,(1+me)*7+2,none⟩=some (.int .i64 r.loc)/\(_:World).cell? ⟨b,(1+me)*7+3,none⟩=some (.int .i64 r.n)/\(_:World).cell? ⟨b,(1+me)*7+4,none⟩=some (.int .i64 r.wr)/\(_:World).cell? ⟨b,(1+me)*7+5,none⟩=some (.int .i64 r.rd)/\(_:World).cell? ⟨b,(1+me)*7+6,none⟩=some (.int .i64 r.top)):=⟨⟨b1.cells 0,b1.cells 1,b1.cells 2,b1.cells 3⟩,a0,a1,a2,a3,a4,a5,a6⟩
 clear a0 a1 a2 a3 a4 a5 a6
 refine wp_region_held_drew (S:=fun w'=>(w'.cell? ⟨w.heap.size,0,none⟩=some (.pointer (some ⟨p,0,none⟩))/\w'.cell? ⟨w.heap.size,1,none⟩=some (.slice (some ⟨b,0,none⟩) (n+1) c)/\w'.cell? ⟨w.heap.size,2,none⟩=some (.int .i64 n)/\w'.cell? ⟨w.heap.size,3,none⟩=some (.int .i64 me))/\(w'.cell? ⟨b,(1+me)*7,none⟩=some (.int .i64 r.kind)/\w'.cell? ⟨b,(1+me)*7+1,none⟩=some (.int .i64 r.base)/\w'.cell? ⟨b,(1+me)*7+2,none⟩=some (.int .i64 r.loc)/\w'.cell? ⟨b,(1+me)*7+3,none⟩=some (.int .i64 r.n)/\w'.cell? ⟨b,(1+me)*7+4,none⟩=some (.int .i64 r.wr)/\w'.cell? ⟨b,(1+me)*7+5,none⟩=some (.int .i64 r.rd)/\w'.cell? ⟨b,(1+me)*7+6,none⟩=some (.int .i64 r.top))) rfl hS (fun hHeld=>?_)
 refine tkb 0 ?_
 iterate 12
  refine tkn (v:=?_) rfl (by kernel_rfl) (fun _ _ _ h=>h) (by assumption) ?_ ?_
  rotate_left
  · (intro w hSw;(try dsimp only at hSw);go_simp;try with_reducible rfl)
  try simp only [put_pack]
 refine tke ?_
 refine wpAnyH_ready (rs:=[12]) (by kernel_rfl) (by simp) ?_
 refine AllReadyH.cons rfl (fun K hKK=>?_) (AllReadyH.nil)
 go_simp
 refine tlast hO hK (hq.out _ hP) (fun _ h=>⟨rfl,h⟩) ?_
 clear hO hK hP hS
 intro v S1 w1 hrun hP hk1 hK hO
 replace b1:=b1.keep hk1
 replace hl:=hl.keep hk1
 obtain⟨a0,a1,a2,a3,a4,a5,a6⟩:=hl.nth hr
 refine hKK.out _ _ ⟨⟨b1.cells 0,b1.cells 1,b1.cells 2,b1.cells 3⟩,a0,a1,a2,a3,a4,a5,a6⟩ (fun hHeld=>?_)
 clear hKK K a0 a1 a2 a3 a4 a5 a6
 try dsimp only
 refine wpAnyH_done (by kernel_rfl) ?_ _
 go_simp
 have hf:=hO.done hP hK
 clear hO hP hK b1 hl
 go_wp2_with fail
 first | exact hf | (refine bodyPost_end (results_none rfl _ _ _) rfl ?_;exact hf) | (refine bodyPost_ret (results_none rfl _ _ _) rfl ?_;exact hf) | (go_ret;exact hf)
set_option maxRecDepth 100000 in
set_option maxHeartbeats 1000000 in
theorem bpass_p (B p n me:Nat)(u:Int)(S:TS)(rs:List Reg)(b c:Nat)(r:Reg)(w:World)(h:Plays B w p S)(hl:RegsAt [2,3,4] w p b rs)(hj:me<n)(hr:rs[0]?=some r)(hok:r.ok)(hk:r.kind=1)(hbase:r.base=3)(hme:(me:Int)<r.n)(hn:n<=8) :
  Calls Try.prog 80 #[.agg #[.pointer (some ⟨p,0,none⟩),.slice (some ⟨b,0,none⟩) (n+1) c,.int .i64 n,.int .i64 me],.int .i64 u] w (Post encU B p w ((wr 3 u).run S)):=by
 have hq0:∀ W,Plays B W p S->Calls Try.prog 42 #[.pointer (some ⟨p,0,none⟩),.agg #[.int .i64 r.kind,.int .i64 r.base,.int .i64 r.loc,.int .i64 r.n,.int .i64 r.wr,.int .i64 r.rd,.int .i64 r.top],.int .i64 me,.int .i64 u] W (Post encU B p W ((wr 3 u).run S)):=fun W hP=>by
  have h:=reg_write_p B p S r me u W hP hok ⟨by omega,hme⟩
  rw [regW_cell hk,hbase] at h
  exact h
 have hq:=Lib.hid hq0
 clear hq0 hok hk hbase hme
 generalize hR:Post encU B p w ((wr 3 u).run S)=R
 have hO:Owes R encU B p w ((wr 3 u).run S):=hR▸owes _ _ _ _ _
 clear hR
 obtain⟨b1,hK,hP⟩:=h.entry (.cells #[.pointer (some ⟨p,0,none⟩),.slice (some ⟨b,0,none⟩) (n+1) c,.int .i64 n,.int .i64 me] 93)
 have c_b1:=b1.cells
 replace hl:=hl.extL ((Ext.refl w).alloc (.cells #[.pointer (some ⟨p,0,none⟩),.slice (some ⟨b,0,none⟩) (n+1) c,.int .i64 n,.int .i64 me] 93)) h.lt
 clear h
 have hw1:=IntWalk.i64_in (1+(me:Int)) (by omega)
 have hj0:(0:Int)<=1+(me:Int):=by omega
 have hj1:(1:Int)+(me:Int)<(n:Int)+1:=by omega
 have hjt:(1+(me:Int)).toNat=1+me:=by omega
 go_enter Try.func80,Try.ntmps80
 go_wp2_with fail
 generalize World.alloc w _=W0 at *
 have hlt:=hP.lt
 replace hP:=hP.drew
 replace hK:=hK.drew
 replace b1:=b1.drew
 replace hl:=hl.extL (Ext.refl _).drew hlt
 obtain⟨a0,a1,a2,a3,a4,a5,a6⟩:=hl.nth hr
 clear c_b1
 have hS:((_:World).cell? ⟨w.heap.size,0,none⟩=some (.pointer (some ⟨p,0,none⟩))/\(_:World).cell? ⟨w.heap.size,1,none⟩=some (.slice (some ⟨b,0,none⟩) (n+1) c)/\(_:World).cell? ⟨w.heap.size,2,none⟩=some (.int .i64 n)/\(_:World).cell? ⟨w.heap.size,3,none⟩=some (.int .i64 me))/\((_:World).cell? ⟨b,0*7,none⟩=some (.int .i64 r.kind)/\(_:World).cell? ⟨b,0*7+1,none⟩=some (.int .i64 r.base)/\(_:World).cell? ⟨b,0*7+2,none⟩=some (.int .i64 r.loc)/\(_:World).cell? ⟨b,0*7+3,none⟩=some (.int .i64 r.n)/\(_:World).cell? ⟨b,0*7+4,none⟩=some (.int .i64 r.wr)/\(_:World).cell? ⟨b,0*7+5,none⟩=some (.int .i64 r.rd)/\(_:World).cell? ⟨b,0*7+6,none⟩=some (.int .i64 r.top)):=⟨⟨b1.cells 0,b1.cells 1,b1.cells 2,b1.cells 3⟩,a0,a1,a2,a3,a4,a5,a6⟩
 clear a0 a1 a2 a3 a4 a5 a6
 refine wp_region_held_drew (S:=fun w'=>(w'.cell? ⟨w.heap.size,0,none⟩=some (.pointer (some ⟨p,0,none⟩))/\w'.cell? ⟨w.heap.size,1,none⟩=some (.slice (some ⟨b,0,none⟩) (n+1) c)/\w'.cell? ⟨w.heap.size,2,none⟩=some (.int .i64 n)/\w'.cell? ⟨w.heap.size,3,none⟩=some (.int .i64 me))/\(w'.cell? ⟨b,0*7,none⟩=some (.int .i64 r.kind)/\w'.cell? ⟨b,0*7+1,none⟩=some (.int .i64 r.base)/\w'.cell? ⟨b,0*7+2,none⟩=some (.int .i64 r.loc)/\w'.cell? ⟨b,0*7+3,none⟩=some (.int .i64 r.n)/\w'.cell? ⟨b,0*7+4,none⟩=some (.int .i64 r.wr)/\w'.cell? ⟨b,0*7+5,none⟩=some (.int .i64 r.rd)/\w'.cell? ⟨b,0*7+6,none⟩=some (.int .i64 r.top))) rfl hS (fun hHeld=>?_)
 refine tkb 0 ?_
 iterate 9
  refine tkn (v:=?_) rfl (by kernel_rfl) (fun _ _ _ h=>h) (by assumption) ?_ ?_
  rotate_left
  · (intro w hSw;(try dsimp only at hSw);go_simp;try with_reducible rfl)
  try simp only [put_pack]
 refine tke ?_
 refine wpAnyH_ready (rs:=[9]) (by kernel_rfl) (by simp) ?_
 refine AllReadyH.cons rfl (fun K hKK=>?_) (AllReadyH.nil)
 go_simp
 refine tlast hO hK (hq.out _ hP) (fun _ h=>⟨rfl,h⟩) ?_
 clear hO hK hP hS
 intro v S1 w1 hrun hP hk1 hK hO
 replace b1:=b1.keep hk1
 replace hl:=hl.keep hk1
 obtain⟨a0,a1,a2,a3,a4,a5,a6⟩:=hl.nth hr
 refine hKK.out _ _ ⟨⟨b1.cells 0,b1.cells 1,b1.cells 2,b1.cells 3⟩,a0,a1,a2,a3,a4,a5,a6⟩ (fun hHeld=>?_)
 clear hKK K a0 a1 a2 a3 a4 a5 a6
 try dsimp only
 refine wpAnyH_done (by kernel_rfl) ?_ _
 go_simp
 have hf:=hO.done hP hK
 clear hO hP hK b1 hl
 go_wp2_with fail
 first | exact hf | (refine bodyPost_end (results_none rfl _ _ _) rfl ?_;exact hf) | (refine bodyPost_ret (results_none rfl _ _ _) rfl ?_;exact hf) | (go_ret;exact hf)
end Go.Proofs.Ytbphlkaihfbgeaa
namespace Kv
open Go
def Fr:Nat->(List Value->Prop)->Prop
 | 0,G=>G []
 | n+1,G=>∀ u:Value,Fr n fun l=>G (u :: l)
theorem fr_list:∀ (n:Nat) (G:List Value->Prop),Fr n G->∀ l:List Value,l.length=n->G l
 | 0,G,h,[],_=>h
 | n+1,G,h,u :: l,hl=>fr_list n (fun l=>G (u :: l)) (h u) l (by simpa using hl)
theorem fr_act (n:Nat)(G:Act->Prop)(h:Fr n fun l=>G ⟨l.toArray,[]⟩)(a:Act)(hd:a.defers=[])(hs:a.tmps.size=n):G a:=by
 obtain⟨⟨l⟩,d⟩:=a
 obtain rfl:d=[]:=hd
 exact fr_list n (fun l=>G ⟨l.toArray,[]⟩) h l (by simpa using hs)
def Jumps (J:Nat->Act->World->Prop) (Q:Exit->Act->World->Prop):Exit->Act->World->Prop
 | .goto l,a,w=>J l a w
 | e,a,w=>Q e a w
section
variable {P:Program} {a:Act} {w:World} {J:Nat->Act->World->Prop} {Q:Exit->Act->World->Prop}
@[go_sem] theorem jumps_normal:Jumps J Q .normal a w=Q .normal a w:=rfl
@[go_sem] theorem jumps_exit (id:Nat):Jumps J Q (.exit id) a w=Q (.exit id) a w:=rfl
@[go_sem] theorem jumps_ret:Jumps J Q .ret a w=Q .ret a w:=rfl
@[go_sem] theorem jumps_panic (c:List PanicEntry):Jumps J Q (.panic c) a w=Q (.panic c) a w:=rfl
@[go_sem] theorem jumps_goto (l:Nat):Jumps J Q (.goto l) a w=J l a w:=rfl
theorem wp_scope_labels {c:Code}(J:Nat->Act->World->Prop)(μ:Nat->Act->World->Nat)(first:c.wp P (Jumps J Q) a w)
  (pass:∀ l a w,J l a w->∃ rest,findLabel c l=some rest/\rest.wp P (Jumps (fun l' a' w'=>J l' a' w'/\μ l' a' w'<μ l a w) Q) a w):(Code.scope c).wp P Q a w:=by
 intro b k cs
 have key:∀ n l a w rest,findLabel c l=some rest->μ l a w=n->J l a w->∃ e a' w',Q e a' w'/\Arrives P (lone (b.at a (.code rest :: .inScope c :: k)) cs w) b k cs e a' w':=by
  intro n
  induction n using Nat.strongRecOn with
  | _ n ih =>
    intro l a w rest hf hn hJ
    obtain⟨rest',hf',hp⟩:=pass l a w hJ
    obtain rfl:rest=rest':=by rw [hf] at hf';injection hf'
    obtain⟨e,a₁,w₁,hq,harr⟩:=hp b (.inScope c :: k) cs
    cases e with
    | normal=>exact⟨.normal,a₁,w₁,hq,Steps.trans harr (.one step_inScope)⟩
    | exit id=>exact⟨.exit id,a₁,w₁,hq,fun k' hk=>harr k' (by simp [exitTo,hk])⟩
    | goto l' =>
      obtain⟨hJ',hlt⟩:=hq
      obtain⟨rest2,hf2,_⟩:=pass l' a₁ w₁ hJ'
      have hg:gotoIn l' (.inScope c :: k)=some (.code rest2 :: .inScope c :: k):=by simp [gotoIn,hf2]
      obtain⟨e₂,a₂,w₂,hq₂,harr₂⟩:=ih _ (by omega) l' a₁ w₁ rest2 hf2 rfl hJ'
      exact⟨e₂,a₂,w₂,hq₂,.of_steps (harr _ hg) harr₂⟩
    | ret=>exact⟨_,a₁,w₁,hq,harr⟩
    | panic ch=>exact⟨_,a₁,w₁,hq,harr⟩
    | outgrown=>exact⟨_,a₁,w₁,hq,harr⟩
 obtain⟨e,a₁,w₁,hq,harr⟩:=first b (.inScope c :: k) cs
 cases e with
 | normal=>exact⟨.normal,a₁,w₁,hq,.head step_scope (Steps.trans harr (.one step_inScope))⟩
 | exit id=>exact⟨.exit id,a₁,w₁,hq,fun k' hk=>.head step_scope (harr k' (by simp [exitTo,hk]))⟩
 | goto l' =>
   obtain⟨rest2,hf2,_⟩:=pass l' a₁ w₁ hq
   have hg:gotoIn l' (.inScope c :: k)=some (.code rest2 :: .inScope c :: k):=by simp [gotoIn,hf2]
   obtain⟨e₂,a₂,w₂,hq₂,harr₂⟩:=key _ l' a₁ w₁ rest2 hf2 rfl hq
   exact⟨e₂,a₂,w₂,hq₂,.of_steps (.head step_scope (harr _ hg)) harr₂⟩
 | ret=>exact⟨_,a₁,w₁,hq,.of_steps (.one step_scope) harr⟩
 | panic ch=>exact⟨_,a₁,w₁,hq,.of_steps (.one step_scope) harr⟩
 | outgrown=>exact⟨_,a₁,w₁,hq,.of_steps (.one step_scope) harr⟩
theorem wp_scope_fall {c:Code}(J:Nat->Act->World->Prop)(μ:Nat->Act->World->Nat)
  (pass:∀ l a w,J l a w->∃ rest,findLabel c l=some (.seq .skip rest)/\rest.wp P (Jumps (fun l' a' w'=>J l' a' w'/\μ l' a' w'<μ l a w) Q) a w)
  (first:(∀ l rest a w,findLabel c l=some (.seq .skip rest)->J l a w->rest.wp P (Jumps J Q) a w)->c.wp P (Jumps J Q) a w):(Code.scope c).wp P Q a w:=by
 refine wp_scope_labels J μ (first fun l rest a w hf hJ=>?_) fun l a w hJ=>?_
 · obtain⟨rest',hf',hp⟩:=pass l a w hJ
   obtain rfl:rest=rest':=by rw [hf] at hf';simpa using hf'
   refine Code.wp_mono (fun e a2 w2 hq=>?_) hp
   cases e with
   | goto l'=>exact hq.1
   | normal=>exact hq
   | exit id=>exact hq
   | ret=>exact hq
   | panic ch=>exact hq
   | outgrown=>exact hq
 · obtain⟨rest,hf,hp⟩:=pass l a w hJ
   exact⟨_,hf,wp_seq (wp_skip hp)⟩
end
end Kv
namespace Kv
end Kv
namespace Go.Proofs.Ytbphlkaihfbgeaa
open Go.RowKit Kv
theorem tstepA {α β:Type}{B p:Nat}{w0 w:World}{S:TS}{R:Ending->World->Prop}{P:Program}{f:FuncId}{args:Array Value}{K:Ending->World->Prop}{enc:α->Value}{enc':β->Value}{T:Prog α}{g:α->Prog β}{k:Nat}(hN:T.Notes k)
  (hO:Owes R enc' B p w0 ((T.bind g).run S))(hB:KeepP B p w0 w)(h:Calls P f args w (Post enc B p w (T.run S)))(hp:∀ w',R (stopE p) w'->K (stopE p) w')
  (hk:∀ v S1 w1,T.run S=(some v,S1)->S1.left<=S.left->(T.Asks->S1.left<S.left)->S1.nts.length<=S.nts.length+k->Plays B w1 p S1->KeepP B p w w1->KeepP B p w0 w1->Owes R enc' B p w0 ((g v).run S1)->K (.returned (enc v)) w1):Calls P f args w K:=by
 refine tstep hO hB h hp fun v S1 w1 hr hP hk1 hk2 hO1=>hk v S1 w1 hr ?_ (fun ha=>ha.left hr hP.1) ?_ hP hk1 hk2 hO1
 · have:=Prog.run_left T S
   rw [hr] at this
   exact this
 · have:=hN.run S
   rw [hr] at this
   exact this
end Go.Proofs.Ytbphlkaihfbgeaa
namespace Kv
theorem left_put {S:TS}{v:Int}(h:S.next=some v)(a:Acc):(S.put a).left+1=S.left:=by
 have h1:S.acc.length<S.ans.length:=(List.getElem?_eq_some_iff.1 (show S.ans[S.acc.length]?=some v from h)).1
 unfold TS.left TS.put
 simp only [List.length_append,List.length_cons,List.length_nil]
 omega
theorem treeM_fuel {σ:Type}(ask:σ->Todo σ):∀ (f g:Nat) (s:σ) (S:TS),S.left<f->S.left<g->(treeM ask f s).run S=(treeM ask g s).run S
 | 0,_,_,_,h,_=>absurd h (by omega)
 | _+1,0,_,_,_,h=>absurd h (by omega)
 | f+1,g+1,s,S,h1,h2=>by
   cases h:ask s with
   | rd c k =>
     rw [treeM_rd h,treeM_rd h]
     show Prog.run (.read c fun v=>treeM ask f (k v)) S=Prog.run (.read c fun v=>treeM ask g (k v)) S
     simp only [Prog.run]
     cases hn:S.next with
     | none=>rfl
     | some v =>
       have:=left_put hn ⟨1,c,0⟩
       exact treeM_fuel ask f g _ _ (by omega) (by omega)
   | wr c v s' =>
     rw [treeM_wr h,treeM_wr h]
     show Prog.run (.write c v fun _=>treeM ask f s') S=Prog.run (.write c v fun _=>treeM ask g s') S
     simp only [Prog.run]
     cases hn:S.next with
     | none=>rfl
     | some u =>
       have:=left_put hn ⟨2,c,v⟩
       exact treeM_fuel ask f g _ _ (by omega) (by omega)
   | fin a=>rw [treeM_fin h,treeM_fin h]
end Kv
namespace Go.Proofs.Ytbphlkaihfbgeaa
open Go.RowKit Kv
section
variable {σ β:Type} {ask:σ->Todo σ} {s:σ} {D B p:Nat} {w0 w:World} {S:TS} {R:Ending->World->Prop} {P:Program} {f:FuncId} {args:Array Value} {K:Ending->World->Prop} {enc':Int->Value}
theorem mstep_rd {enc:Int->Value}{c:Int}{k:Int->σ}(hD:S.left<D)(hk:ask s=.rd c k)(hO:Owes R enc' B p w0 ((treeM ask D s).run S))(hB:KeepP B p w0 w)(h:Calls P f args w (Post enc B p w ((rd c).run S)))(hp:∀ w',R (stopE p) w'->K (stopE p) w')
  (hkk:∀ v S1 w1,S1.left<S.left->Plays B w1 p S1->KeepP B p w w1->KeepP B p w0 w1->Owes R enc' B p w0 ((treeM ask D (k v)).run S1)->K (.returned (enc v)) w1):Calls P f args w K:=by
 obtain⟨D',rfl⟩:∃ D',D=D'+1:=⟨D-1,by omega⟩
 rw [treeM_rd hk] at hO
 refine tstepA (notes_rd _) hO hB h hp fun v S1 w1 _ _ hla _ hP h1 h2 hO1=>?_
 have hl:=hla (asks_rd _)
 refine hkk v S1 w1 hl hP h1 h2 ?_
 rw [treeM_fuel ask (D'+1) D' _ S1 (by omega) (by omega)]
 exact hO1
theorem mstep_wr {c v:Int}{s':σ}(hD:S.left<D)(hk:ask s=.wr c v s')(hO:Owes R enc' B p w0 ((treeM ask D s).run S))(hB:KeepP B p w0 w)(h:Calls P f args w (Post encU B p w ((wr c v).run S)))(hp:∀ w',R (stopE p) w'->K (stopE p) w')
  (hkk:∀ S1 w1,S1.left<S.left->Plays B w1 p S1->KeepP B p w w1->KeepP B p w0 w1->Owes R enc' B p w0 ((treeM ask D s').run S1)->K (.returned (encU ())) w1):Calls P f args w K:=by
 obtain⟨D',rfl⟩:∃ D',D=D'+1:=⟨D-1,by omega⟩
 rw [treeM_wr hk] at hO
 refine tstepA (notes_wr _ _) hO hB h hp fun v S1 w1 _ _ hla _ hP h1 h2 hO1=>?_
 have hl:=hla (asks_wr _ _)
 refine hkk S1 w1 hl hP h1 h2 ?_
 rw [treeM_fuel ask (D'+1) D' _ S1 (by omega) (by omega)]
 exact hO1
theorem mstep_part {α:Type}{enc:α->Value}{T:Prog α}{g:α->σ}{n:Nat}(hN:T.Notes n)(hD:S.left<D)(hk:(treeM ask D s).run S=(T.bind fun a=>treeM ask D (g a)).run S)(hO:Owes R enc' B p w0 ((treeM ask D s).run S))(hB:KeepP B p w0 w)(h:Calls P f args w (Post enc B p w (T.run S)))(hp:∀ w',R (stopE p) w'->K (stopE p) w')
  (hkk:∀ v S1 w1,S1.left<=S.left->Plays B w1 p S1->KeepP B p w w1->KeepP B p w0 w1->Owes R enc' B p w0 ((treeM ask D (g v)).run S1)->K (.returned (enc v)) w1):Calls P f args w K:=by
 rw [hk] at hO
 exact tstepA hN hO hB h hp fun v S1 w1 _ hl _ _ hP h1 h2 hO1=>hkk v S1 w1 hl hP h1 h2 hO1
theorem treeM_done {a:Int}(hf:∀ f,treeM ask f s=.ret a)(hO:Owes R enc' B p w0 ((treeM ask D s).run S)):Owes R enc' B p w0 (some a,S):=by
 rw [hf] at hO
 exact hO
end
end Go.Proofs.Ytbphlkaihfbgeaa
namespace Kv
def scanT (me:Nat):Nat->Nat->Prog Bool
 | 0,_=>.ret false
 | k+1,j=>if j=me then scanT me k (j+1) else (rd (4+(j:Int))).bind fun v=>if v=2 then .ret true else scanT me k (j+1)
theorem scanT_me (me k:Nat):scanT me (k+1) me=scanT me k (me+1):=if_pos rfl
theorem scanT_ne {me j:Nat}(k:Nat)(h:j≠me):scanT me (k+1) j=(rd (4+(j:Int))).bind fun v=>if v=2 then .ret true else scanT me k (j+1):=if_neg h
theorem notes_scanT (me:Nat):∀ k j:Nat,(scanT me k j).Notes 0
 | 0,_=>.ret _ _
 | k+1,j=>by
   unfold scanT
   split
   · exact notes_scanT me k _
   · refine (notes_rd _).bind0 fun v=>?_
     split
     · exact .ret _ _
     · exact notes_scanT me k _
theorem escan_run {me n f:Nat}(hme:me<n):∀ (k j:Nat) (S:TS),j+k=n->S.left<f->(treeM (eask me n) f (escan me n j)).run S=((scanT me k j).bind fun b=>treeM (eask me n) f (if b=true then .r1 else .t1)).run S
 | 0,j,S,hj,_=>by
   have:escan me n j=.t1:=by
    unfold escan
    rw [if_neg (by omega),if_neg (by omega)]
   rw [this]
   rfl
 | k+1,j,S,hj,hf=>by
   by_cases e:j=me
   · subst e
     have:escan j n j=escan j n (j+1):=by
      unfold escan
      rw [if_pos rfl,if_neg (show ¬ j+1=j by omega)]
     rw [this,scanT_me]
     exact escan_run hme k (j+1) S (by omega) hf
   · have:escan me n j=.s j:=by
      unfold escan
      rw [if_neg e,if_pos (by omega)]
     rw [this,scanT_ne k e]
     obtain⟨f',rfl⟩:∃ f',f=f'+1:=⟨f-1,by omega⟩
     rw [treeM_rd (show eask me n (.s j)=.rd (4+(j:Int)) fun v=>if v=2 then .r1 else escan me n (j+1) from rfl),Prog.bind_assoc]
     show Prog.run (.read (4+(j:Int)) fun v=>treeM (eask me n) f' (if v=2 then .r1 else escan me n (j+1))) S=Prog.run (.read (4+(j:Int)) fun v=>(if v=2 then Prog.ret true else scanT me k (j+1)).bind fun b=>treeM (eask me n) (f'+1) (if b=true then .r1 else .t1)) S
     simp only [Prog.run]
     cases hn:S.next with
     | none=>rfl
     | some v =>
       have hl:=left_put hn ⟨1,4+(j:Int),0⟩
       by_cases hv:v=2
       · simp only [if_pos hv]
         exact treeM_fuel _ _ _ _ _ (by omega) (by omega)
       · simp only [if_neg hv]
         rw [treeM_fuel _ f' (f'+1) _ _ (by omega) (by omega)]
         exact escan_run hme k (j+1) _ (by omega) (by omega)
structure ERegs (n:Nat) (rs:List Reg):Prop where
 len:rs.length=n+1
 at_:∀ i,i<n+1->∃ r,rs[i]?=some r/\r.ok/\r.kind=1/\r.base=3+(i:Int)/\r.n=n
end Kv
namespace Go.Proofs.Ytbphlkaihfbgeaa
open Go.RowKit Kv
set_option maxRecDepth 100000 in
set_option maxHeartbeats 1000000 in
theorem bany_p (B p n me:Nat)(S:TS)(rs:List Reg)(b c:Nat)(w:World)(h:Plays B w p S)(hl:RegsAt [2,3,4] w p b rs)(he:ERegs n rs)(hme:me<n)(hn:n<=8) :
  Calls Try.prog 82 #[.agg #[.pointer (some ⟨p,0,none⟩),.slice (some ⟨b,0,none⟩) (n+1) c,.int .i64 n,.int .i64 me]] w (Post encB B p w ((scanT me n 0).run S)):=by
 generalize hR:Post encB B p w ((scanT me n 0).run S)=R
 have hO:Owes R encB B p w ((scanT me n 0).run S):=hR▸owes _ _ _ _ _
 clear hR
 obtain⟨b1,hK,hP⟩:=h.entry (.cells #[.pointer (some ⟨p,0,none⟩),.slice (some ⟨b,0,none⟩) (n+1) c,.int .i64 n,.int .i64 me] 93)
 have c_b1:=b1.cells
 replace hl:=hl.extL ((Ext.refl w).alloc (.cells #[.pointer (some ⟨p,0,none⟩),.slice (some ⟨b,0,none⟩) (n+1) c,.int .i64 n,.int .i64 me] 93)) h.lt
 clear h
 have heh:=Lib.hid he
 have hOh:=Lib.hid hO
 clear he hO
 go_enter Try.func82,Try.ntmps82
 go_wp2_with fail
 generalize hz:w.heap.size=z at *
 clear hz
 go_loopw [6] (fun a6 wr=>∃ (j:Nat) (S2:TS),a6=.int .i64 j/\j<=n/\Plays B wr p S2/\KeepP B p w wr/\HeldP wr p z (.cells #[.pointer (some ⟨p,0,none⟩),.slice (some ⟨b,0,none⟩) (n+1) c,.int .i64 n,.int .i64 me] 93)/\RegsAt [2,3,4] wr p b rs/\Hid (Owes R encB B p w ((scanT me (n-j) j).run S2))) (fun a6 _=>n-(intOf a6).toNat)
 case atStart=>exact⟨0,S,rfl,by omega,hP,hK,b1,hl,hOh⟩
 case round =>
  clear hP hK b1 hl hOh c_b1
  obtain⟨j,S2,rfl,hj,hP,hK,b1,hl,hOh⟩:=hrel
  by_cases hjn:j<n
  · have dj:decide ((j:Int)<(n:Int))=true:=by rw [decide_eq_true_eq];omega
    replace hO:=hOh.out
    clear hOh
    rw [show n-j=(n-(j+1))+1 from by omega] at hO
    have c_b1:=b1.cells
    by_cases hjm:j=me
    · subst hjm
      have dm:((j:Int) != (j:Int))=false:=by simp
      rw [scanT_me] at hO
      have hOh:=Lib.hid hO
      clear hO
      go_wp2_with fail
      refine⟨⟨j+1,S2,by go_num,by omega,hP,hK,b1,hl,hOh⟩,?_⟩
      simp [intOf];omega
    · have dm:((j:Int) != (me:Int))=true:=by simp;omega
      rw [scanT_ne _ hjm] at hO
      have hOh:=Lib.hid hO
      clear hO
      obtain⟨r,q1,q2,q3,q4,q5⟩:=heh.out.at_ (1+j) (by omega)
      have hq:=Lib.hid (bflag_p B p n me j S2 rs b c r wr hP hl hjn q1 q2 q3 (by omega) (by omega) hn)
      clear q1 q2 q3 q4 q5 r
      go_wp2_with fail
      refine tstepA (notes_rd _) hOh.out hK hq.out (fun _ h=>⟨rfl,h⟩) ?_
      clear hOh hK hP hq c_b1
      intro x S6 wn hrun hlf hla hnn hP hk hK hO
      replace b1:=b1.keep hk
      replace hl:=hl.keep hk
      clear hk hnn hrun hla hlf
      by_cases hx:x=2
      · have dx:(x==2)=true:=by simpa using hx
        rw [if_pos hx] at hO
        have hf:=hO.done hP hK
        clear hO hx hP hK b1 hl
        go_wp2_with fail
        first | with_reducible exact hf | (go_simp;exact hf) | (go_ret;exact hf) | (go_ret2;exact hf)
      · have dx:(x==2)=false:=by simpa using hx
        rw [if_neg hx] at hO
        have hOh:=Lib.hid hO
        clear hO hx
        go_wp2_with fail
        refine⟨⟨j+1,S6,by go_num,by omega,hP,hK,b1,hl,hOh⟩,?_⟩
        simp [intOf];omega
  · have dj:decide ((j:Int)<(n:Int))=false:=by rw [decide_eq_false_iff_not];omega
    replace hO:=hOh.out
    clear hOh
    rw [show n-j=0 from by omega] at hO
    have hf:=hO.done hP hK
    clear hO hP hK b1 hl
    go_wp2_with fail
    first | with_reducible exact hf | (go_simp;exact hf) | (go_ret;exact hf) | (go_ret2;exact hf)
theorem eat_p (p b c n me:Nat)(w:World)(h1:1<=n)(h8:n<=8)(hme:me<n) :
  Calls Try.prog 77 #[.pointer (some ⟨p,0,none⟩),.slice (some ⟨b,0,none⟩) (n+1) c,.int .i64 n,.int .i64 me] w fun e w'=>e=.returned (.tuple #[.agg #[.pointer (some ⟨p,0,none⟩),.slice (some ⟨b,0,none⟩) (n+1) c,.int .i64 n,.int .i64 me],.bool true])/\Ext w w':=by
 have d1:decide ((n:Int)<1)=false:=by rw [decide_eq_false_iff_not];omega
 have d2:decide ((8:Int)<(n:Int))=false:=by rw [decide_eq_false_iff_not];omega
 have d3:decide ((me:Int)<0)=false:=by rw [decide_eq_false_iff_not];omega
 have d4:decide ((n:Int)<=(me:Int))=false:=by rw [decide_eq_false_iff_not];omega
 have hw:=IntWalk.i64_in ((n:Int)+1) (by omega)
 have d5:decide (n<=me)=false:=by rw [decide_eq_false_iff_not];omega
 go_enter Try.func77,Try.ntmps77
 go_wp2_with fail
 refine bodyPost_ret (v:=.tuple #[.agg #[.pointer (some ⟨p,0,none⟩),.slice (some ⟨b,0,none⟩) (n+1) c,.int .i64 n,.int .i64 me],.bool true]) (by simp [results,Try.results77,go_sem]) rfl ?_
 exact⟨rfl,(Ext.refl w).alloc _⟩
end Go.Proofs.Ytbphlkaihfbgeaa
namespace Kv
theorem treeM_e (n me f:Nat):treeM (eask me n) f .e=.ret 0:=by cases f <;> rfl
theorem eturn_lt {n:Nat}(h:1<=n)(v:Int):eturn n v<n:=by
 unfold eturn
 have h1:=Int.lt_tmod_of_pos v (show (0:Int)<(n:Int) by omega)
 have h2:=Int.tmod_lt_of_pos (v.tmod n+n) (show (0:Int)<(n:Int) by omega)
 have h3:=Int.tmod_nonneg (n:Int) (show 0<=v.tmod n+n by omega)
 omega
end Kv
namespace Go.Proofs.Ytbphlkaihfbgeaa
open Go.RowKit Kv
def encZ (_:Int):Value:=.tuple #[]
@[go_sem] theorem encZ_eq (x:Int):encZ x=.tuple #[]:=rfl
set_option maxRecDepth 100000 in
set_option maxHeartbeats 4000000 in
theorem eisacq_p (B p n me D:Nat)(S:TS)(rs:List Reg)(b c:Nat)(w:World)(h:Plays B w p S)(hl:RegsAt [2,3,4] w p b rs)(he:ERegs n rs)(h1:1<=n)(hn:n<=8)(hme:me<n)(hD:S.left<D) :
  Calls Try.prog 30 #[.pointer (some ⟨p,0,none⟩),.slice (some ⟨b,0,none⟩) (n+1) c,.int .i64 n,.int .i64 me] w (Post encZ B p w ((treeM (eask me n) D .r1).run S)):=by
 generalize hR:Post encZ B p w ((treeM (eask me n) D .r1).run S)=R
 have hO:Owes R encZ B p w ((treeM (eask me n) D .r1).run S):=hR▸owes _ _ _ _ _
 clear hR
 have hK:=Keep.refl [2,3,4] B p w
 have hP:=h
 clear h
 have heh:=Lib.hid he
 have hOh:=Lib.hid hO
 clear he hO
 go_enter Try.func30,Try.ntmps30
 obtain⟨J0,hJ0⟩:∃ J0:Nat->World->Prop,∀ z wr',J0 z wr'↔∃ (S5:TS),Plays B wr' p S5/\KeepP B p w wr'/\HeldP wr' p z (.cells #[.pointer (some ⟨p,0,none⟩),.slice (some ⟨b,0,none⟩) (n+1) c,.int .i64 n,.int .i64 me] 93)/\RegsAt [2,3,4] wr' p b rs/\S5.left<D/\Hid (Owes R encZ B p w ((treeM (eask me n) D (.r1)).run S5)):=⟨_,fun _ _=>Iff.rfl⟩
 refine wp_scope_fall (fun l a wr=>∃ z:Nat,a.defers=[]/\a.tmps.size=56/\a.tmps[0]?=some (.pointer (some ⟨p,0,none⟩))/\a.tmps[1]?=some (.slice (some ⟨b,0,none⟩) (n+1) c)/\a.tmps[2]?=some (.int .i64 n)/\a.tmps[3]?=some (.int .i64 me)/\a.tmps[8]?=some (.pointer (some ⟨z,0,none⟩))/\l=0/\J0 z wr) (fun _ _ wr=>leftW 1 3 wr p) ?pass ?first
 case first =>
  intro hfall
  refine (fun (hfall:Hid _)=>?_) (Lib.hid hfall)
  go_wp2_with fail
  refine (eat_p p b c n me _ h1 hn hme).mono ?_
  rintro e w1 ⟨rfl,hx⟩
  replace hK:=hK.trans (Keep.of_ext hx hP.lt hP.le)
  replace hl:=hl.extL hx hP.lt
  replace hP:=hP.ext hx
  have b1:=hP.held (.cells #[.pointer (some ⟨p,0,none⟩),.slice (some ⟨b,0,none⟩) (n+1) c,.int .i64 n,.int .i64 me] 93)
  replace hl:=hl.extL ((Ext.refl w1).alloc (.cells #[.pointer (some ⟨p,0,none⟩),.slice (some ⟨b,0,none⟩) (n+1) c,.int .i64 n,.int .i64 me] 93)) hP.lt
  replace hK:=hK.trans (Keep.alloc (.cells #[.pointer (some ⟨p,0,none⟩),.slice (some ⟨b,0,none⟩) (n+1) c,.int .i64 n,.int .i64 me] 93) hP.lt hP.le)
  replace hP:=hP.alloc (.cells #[.pointer (some ⟨p,0,none⟩),.slice (some ⟨b,0,none⟩) (n+1) c,.int .i64 n,.int .i64 me] 93)
  clear hx
  have c_b1:=b1.cells
  go_wp2_with fail
  refine wp_label ?_
  rename_i hKK
  replace hKK:=Lib.hid hKK
  refine hKK.out _ _ ?_
  exact hfall.out 0 _ _ _ rfl ⟨_,rfl,rfl,rfl,rfl,rfl,rfl,rfl,rfl,(hJ0 _ _).2 ⟨S,hP,hK,b1,hl,hD,hOh⟩⟩
 case pass =>
  clear hP hK hl hOh hD S
  rintro l a wq ⟨z,ha,hs,f0,f1,f2,f3,f8,rfl,hrel⟩
  try dsimp only
  refine fr_act 56 (fun a'=>a'.tmps[0]?=some (.pointer (some ⟨p,0,none⟩))->a'.tmps[1]?=some (.slice (some ⟨b,0,none⟩) (n+1) c)->a'.tmps[2]?=some (.int .i64 n)->a'.tmps[3]?=some (.int .i64 me)->a'.tmps[8]?=some (.pointer (some ⟨z,0,none⟩))->∃ rest,findLabel _ 0=some (.seq .skip rest)/\rest.wp _ _ a' wq) ?_ a ha hs f0 f1 f2 f3 f8
  clear f0 f1 f2 f3 f8
  clear ha hs a
  dsimp only [Fr]
  intro u0 u1 u2 u3 u4 u5 u6 u7 u8 u9 u10 u11 u12 u13 u14 u15 u16 u17 u18 u19 u20 u21 u22 u23 u24 u25 u26 u27 u28 u29 u30 u31 u32 u33 u34 u35 u36 u37 u38 u39 u40 u41 u42 u43 u44 u45 u46 u47 u48 u49 u50 u51 u52 u53 u54 u55 f0 f1 f2 f3 f8
  obtain rfl:=Option.some.inj f0
  obtain rfl:=Option.some.inj f1
  obtain rfl:=Option.some.inj f2
  obtain rfl:=Option.some.inj f3
  obtain rfl:=Option.some.inj f8
  clear f0 f1 f2 f3 f8
  rw [hJ0] at hrel
  obtain⟨S2,hP,hK,b1,hl,hf,hOh⟩:=hrel
  have hlw:=Lib.hid hP.left
  refine⟨_,rfl,?_⟩
  have hO:=hOh.out
  clear hOh
  rcases heh.out.at_ (1+me) (by omega) with⟨r,q1,q2,q3,q4,q5⟩
  have hq:Hid (∀ W,Plays B W p S2->RegsAt [2,3,4] W p b rs->_):=Lib.hid fun W (hP:Plays B W p S2) hl=>braise_p B p n me 1 S2 rs b c r W hP hl hme q1 q2 q3 (by omega) (by omega) hn
  clear q1 q2 q3 q4 q5 r
  have hO2:=Lib.hid hO
  clear hO
  have c_b1:=b1.cells
  go_wp2_with fail
  clear c_b1
  refine mstep_wr (by omega) (show eask me n .r1=.wr (4+(me:Int)) 1 .t0 from rfl) hO2.out hK (hq.out _ hP hl) (fun _ h=>⟨rfl,h⟩) ?_
  clear hO2 hK hP hq
  intro  S3 wn hl2 hP hk hK hO
  replace b1:=b1.keep hk
  replace hl:=hl.keep hk
  clear hk
  have hdS3:=hl2
  replace hl2:S3.left<S2.left:=by omega
  have hfS3:S3.left<D:=by omega
  rcases heh.out.at_ 0 (by omega) with⟨r,q1,q2,q3,q4,q5⟩
  have hq:Hid (∀ W,Plays B W p S3->RegsAt [2,3,4] W p b rs->_):=Lib.hid fun W (hP:Plays B W p S3) hl=>bturn_p B p n me S3 rs b c r W hP hl hme q1 q2 q3 (by omega) (by omega) hn
  clear q1 q2 q3 q4 q5 r
  have hO2:=Lib.hid hO
  clear hO
  have c_b1:=b1.cells
  go_wp2_with fail
  clear c_b1
  refine mstep_rd (by omega) (show eask me n .t0=.rd 3 fun v=>eloop me (eturn n v) from rfl) hO2.out hK (hq.out _ hP hl) (fun _ h=>⟨rfl,h⟩) ?_
  clear hO2 hK hP hq
  intro v S4 wn hl2 hP hk hK hO
  replace b1:=b1.keep hk
  replace hl:=hl.keep hk
  clear hk
  have hdS4:=hl2
  replace hl2:S4.left<S2.left:=by omega
  have hfS4:S4.left<D:=by omega
  have hjn:=eturn_lt h1 v
  generalize eturn n v=j0 at *
  have hOh:=Lib.hid hO
  clear hO hfS3
  go_wp2_with fail
  go_loopw [10] (fun a10 wr'=>∃ (j:Nat) (S5:TS),a10=.int .i64 j/\j<n/\S5.left<S2.left/\Plays B wr' p S5/\KeepP B p w wr'/\HeldP wr' p z (.cells #[.pointer (some ⟨p,0,none⟩),.slice (some ⟨b,0,none⟩) (n+1) c,.int .i64 n,.int .i64 me] 93)/\RegsAt [2,3,4] wr' p b rs/\S5.left<D/\Hid (Owes R encZ B p w ((treeM (eask me n) D (eloop me j)).run S5))) (fun _ wr'=>leftW 1 3 wr' p)
  case atStart=>exact⟨j0,S4,rfl,hjn,hl2,hP,hK,b1,hl,hfS4,hOh⟩
  case round =>
   clear hP hK b1 hl hOh hl2 hfS4 hjn
   obtain⟨j,S5,rfl,hjn,hl2,hP,hK,b1,hl,hfS5,hOh⟩:=hrel
   have hO:=hOh.out
   clear hOh
   have hlw5:=Lib.hid hP.left
   by_cases hjm:j=me
   · have dm:((j:Int) != (me:Int))=false:=by simp;omega
     rw [show eloop me j=.r2 from if_pos hjm] at hO
     clear hjm
     rcases heh.out.at_ (1+me) (by omega) with⟨r,q1,q2,q3,q4,q5⟩
     have hq:Hid (∀ W,Plays B W p S5->RegsAt [2,3,4] W p b rs->_):=Lib.hid fun W (hP:Plays B W p S5) hl=>braise_p B p n me 2 S5 rs b c r W hP hl hme q1 q2 q3 (by omega) (by omega) hn
     clear q1 q2 q3 q4 q5 r
     have hO2:=Lib.hid hO
     clear hO
     have c_b1:=b1.cells
     go_wp2_with fail
     clear c_b1
     refine mstep_wr (by omega) (show eask me n .r2=.wr (4+(me:Int)) 2 (escan me n 0) from rfl) hO2.out hK (hq.out _ hP hl) (fun _ h=>⟨rfl,h⟩) ?_
     clear hO2 hK hP hq
     intro  S6 wn hl2 hP hk hK hO
     replace b1:=b1.keep hk
     replace hl:=hl.keep hk
     clear hk
     have hdS6:=hl2
     replace hl2:S6.left<S2.left:=by omega
     have hfS6:S6.left<D:=by omega
     have hq:Hid (∀ W,Plays B W p S6->RegsAt [2,3,4] W p b rs->_):=Lib.hid fun W (hP:Plays B W p S6) hl=>bany_p B p n me S6 rs b c W hP hl heh.out hme hn
     have hO2:=Lib.hid hO
     clear hO
     have c_b1:=b1.cells
     go_wp2_with fail
     clear c_b1
     refine mstep_part (notes_scanT me n 0) (by omega) (escan_run hme n 0 S6 (by omega) (by omega)) hO2.out hK (hq.out _ hP hl) (fun _ h=>⟨rfl,h⟩) ?_
     clear hO2 hK hP hq
     intro bb S7 wn hl2 hP hk hK hO
     replace b1:=b1.keep hk
     replace hl:=hl.keep hk
     clear hk
     have hdS7:=hl2
     replace hl2:S7.left<S2.left:=by omega
     have hfS7:S7.left<D:=by omega
     cases bb with
     | true =>
       have hOh:=Lib.hid hO
       clear hO
       have hlv:=Lib.hid hP.left
       go_wp2_with fail
       first | refine wp_goto ?_ | skip
       refine And.intro ⟨z,rfl,rfl,rfl,rfl,rfl,rfl,rfl,rfl,(hJ0 _ _).2 ⟨S7,hP,hK,b1,hl,by omega,hOh⟩⟩ ?_
       rw [hlw.out,hlv.out]
       omega
     | false =>
       replace hO:Owes R encZ B p w ((treeM (eask me n) D .t1).run S7):=hO
       rcases heh.out.at_ 0 (by omega) with⟨r,q1,q2,q3,q4,q5⟩
       have hq:Hid (∀ W,Plays B W p S7->RegsAt [2,3,4] W p b rs->_):=Lib.hid fun W (hP:Plays B W p S7) hl=>bturn_p B p n me S7 rs b c r W hP hl hme q1 q2 q3 (by omega) (by omega) hn
       clear q1 q2 q3 q4 q5 r
       have hO2:=Lib.hid hO
       clear hO
       have c_b1:=b1.cells
       go_wp2_with fail
       clear c_b1
       refine mstep_rd (by omega) (show eask me n .t1=.rd 3 fun v=>if eturn n v=me then .p else .f (eturn n v) from rfl) hO2.out hK (hq.out _ hP hl) (fun _ h=>⟨rfl,h⟩) ?_
       clear hO2 hK hP hq
       intro v S8 wn hl2 hP hk hK hO
       replace b1:=b1.keep hk
       replace hl:=hl.keep hk
       clear hk
       have hdS8:=hl2
       replace hl2:S8.left<S2.left:=by omega
       have hfS8:S8.left<D:=by omega
       have hj2:=eturn_lt h1 v
       generalize eturn n v=i at *
       by_cases him:i=me
       · have di:((i:Int) != (me:Int))=false:=by simp;omega
         rw [if_pos him] at hO
         clear him
         rcases heh.out.at_ 0 (by omega) with⟨r,q1,q2,q3,q4,q5⟩
         have hq:Hid (∀ W,Plays B W p S8->RegsAt [2,3,4] W p b rs->_):=Lib.hid fun W (hP:Plays B W p S8) hl=>bpass_p B p n me (me:Nat) S8 rs b c r W hP hl hme q1 q2 q3 (by omega) (by omega) hn
         clear q1 q2 q3 q4 q5 r
         have hO2:=Lib.hid hO
         clear hO
         have c_b1:=b1.cells
         go_wp2_with fail
         clear c_b1
         refine mstep_wr (by omega) (show eask me n .p=.wr 3 me .e from rfl) hO2.out hK (hq.out _ hP hl) (fun _ h=>⟨rfl,h⟩) ?_
         clear hO2 hK hP hq
         intro  S9 wn hl2 hP hk hK hO
         replace b1:=b1.keep hk
         replace hl:=hl.keep hk
         clear hk
         have hdS9:=hl2
         replace hl2:S9.left<S2.left:=by omega
         have hfS9:S9.left<D:=by omega
         have hf:=(treeM_done (treeM_e n me) hO).done hP hK
         clear hO hP hK b1 hl
         go_wp2_with fail
         first | exact hf | (refine bodyPost_end (results_none rfl _ _ _) rfl ?_;exact hf) | (refine bodyPost_ret (results_none rfl _ _ _) rfl ?_;exact hf) | (go_ret;exact hf) | (go_end0;exact hf)
       · have di:((i:Int) != (me:Int))=true:=by simp;omega
         rw [if_neg him] at hO
         clear him
         rcases heh.out.at_ (1+i) (by omega) with⟨r,q1,q2,q3,q4,q5⟩
         have hq:Hid (∀ W,Plays B W p S8->RegsAt [2,3,4] W p b rs->_):=Lib.hid fun W (hP:Plays B W p S8) hl=>bflag_p B p n me i S8 rs b c r W hP hl (by omega) q1 q2 q3 (by omega) (by omega) hn
         clear q1 q2 q3 q4 q5 r
         have hO2:=Lib.hid hO
         clear hO
         have c_b1:=b1.cells
         go_wp2_with fail
         clear c_b1
         refine mstep_rd (by omega) (show eask me n (.f i)=.rd (4+(i:Int)) fun v=>if v≠0 then .r1 else .p from rfl) hO2.out hK (hq.out _ hP hl) (fun _ h=>⟨rfl,h⟩) ?_
         clear hO2 hK hP hq
         intro x S9 wn hl2 hP hk hK hO
         replace b1:=b1.keep hk
         replace hl:=hl.keep hk
         clear hk
         have hdS9:=hl2
         replace hl2:S9.left<S2.left:=by omega
         have hfS9:S9.left<D:=by omega
         by_cases hx:x=0
         · have dx:(x != 0)=false:=by simpa using hx
           rw [if_neg (by omega)] at hO
           clear hx
           rcases heh.out.at_ 0 (by omega) with⟨r,q1,q2,q3,q4,q5⟩
           have hq:Hid (∀ W,Plays B W p S9->RegsAt [2,3,4] W p b rs->_):=Lib.hid fun W (hP:Plays B W p S9) hl=>bpass_p B p n me (me:Nat) S9 rs b c r W hP hl hme q1 q2 q3 (by omega) (by omega) hn
           clear q1 q2 q3 q4 q5 r
           have hO2:=Lib.hid hO
           clear hO
           have c_b1:=b1.cells
           go_wp2_with fail
           clear c_b1
           refine mstep_wr (by omega) (show eask me n .p=.wr 3 me .e from rfl) hO2.out hK (hq.out _ hP hl) (fun _ h=>⟨rfl,h⟩) ?_
           clear hO2 hK hP hq
           intro  S10 wn hl2 hP hk hK hO
           replace b1:=b1.keep hk
           replace hl:=hl.keep hk
           clear hk
           have hdS10:=hl2
           replace hl2:S10.left<S2.left:=by omega
           have hfS10:S10.left<D:=by omega
           have hf:=(treeM_done (treeM_e n me) hO).done hP hK
           clear hO hP hK b1 hl
           go_wp2_with fail
           first | exact hf | (refine bodyPost_end (results_none rfl _ _ _) rfl ?_;exact hf) | (refine bodyPost_ret (results_none rfl _ _ _) rfl ?_;exact hf) | (go_ret;exact hf) | (go_end0;exact hf)
         · have dx:(x != 0)=true:=by simpa using hx
           rw [if_pos hx] at hO
           clear hx
           have hOh:=Lib.hid hO
           clear hO
           have hlv:=Lib.hid hP.left
           go_wp2_with fail
           first | refine wp_goto ?_ | skip
           refine And.intro ⟨z,rfl,rfl,rfl,rfl,rfl,rfl,rfl,rfl,(hJ0 _ _).2 ⟨S9,hP,hK,b1,hl,by omega,hOh⟩⟩ ?_
           rw [hlw.out,hlv.out]
           omega
   · have dm:((j:Int) != (me:Int))=true:=by simp;omega
     rw [show eloop me j=.w j from if_neg hjm] at hO
     clear hjm
     rcases heh.out.at_ (1+j) (by omega) with⟨r,q1,q2,q3,q4,q5⟩
     have hq:Hid (∀ W,Plays B W p S5->RegsAt [2,3,4] W p b rs->_):=Lib.hid fun W (hP:Plays B W p S5) hl=>bflag_p B p n me j S5 rs b c r W hP hl (by omega) q1 q2 q3 (by omega) (by omega) hn
     clear q1 q2 q3 q4 q5 r
     have hO2:=Lib.hid hO
     clear hO
     have c_b1:=b1.cells
     go_wp2_with fail
     clear c_b1
     refine mstep_rd (by omega) (show eask me n (.w j)=.rd (4+(j:Int)) fun v=>if v≠0 then .t0 else eloop me ((j+1) % n) from rfl) hO2.out hK (hq.out _ hP hl) (fun _ h=>⟨rfl,h⟩) ?_
     clear hO2 hK hP hq
     intro x S6 wn hl2 hP hk hK hO
     replace b1:=b1.keep hk
     replace hl:=hl.keep hk
     clear hk
     have hdS6:=hl2
     replace hl2:S6.left<S2.left:=by omega
     have hfS6:S6.left<D:=by omega
     by_cases hx:x=0
     · have dx:(x != 0)=false:=by simpa using hx
       rw [if_neg (by omega)] at hO
       have hn0:¬ n=0:=by omega
       have htj:((j:Int)+1).tmod (n:Int)=(((j+1) % n:Nat):Int):=by rw [Int.tmod_eq_emod_of_nonneg (by omega),Int.natCast_emod,Int.natCast_add];rfl
       have hwj:=IntWalk.i64_in ((j:Int)+1) (by omega)
       have hj3:(j+1) % n<n:=Nat.mod_lt _ (by omega)
       generalize (j+1) % n=k at *
       have hOh:=Lib.hid hO
       clear hO hx
       have hlv:=Lib.hid hP.left
       go_wp2_with fail
       refine⟨⟨k,S6,by first | rfl | go_num,hj3,hl2,hP,hK,b1,hl,hfS6,hOh⟩,?_⟩
       rw [hlw5.out,hlv.out]
       omega
     · have dx:(x != 0)=true:=by simpa using hx
       rw [if_pos hx] at hO
       clear hx
       rcases heh.out.at_ 0 (by omega) with⟨r,q1,q2,q3,q4,q5⟩
       have hq:Hid (∀ W,Plays B W p S6->RegsAt [2,3,4] W p b rs->_):=Lib.hid fun W (hP:Plays B W p S6) hl=>bturn_p B p n me S6 rs b c r W hP hl hme q1 q2 q3 (by omega) (by omega) hn
       clear q1 q2 q3 q4 q5 r
       have hO2:=Lib.hid hO
       clear hO
       have c_b1:=b1.cells
       go_wp2_with fail
       clear c_b1
       refine mstep_rd (by omega) (show eask me n .t0=.rd 3 fun v=>eloop me (eturn n v) from rfl) hO2.out hK (hq.out _ hP hl) (fun _ h=>⟨rfl,h⟩) ?_
       clear hO2 hK hP hq
       intro v S7 wn hl2 hP hk hK hO
       replace b1:=b1.keep hk
       replace hl:=hl.keep hk
       clear hk
       have hdS7:=hl2
       replace hl2:S7.left<S2.left:=by omega
       have hfS7:S7.left<D:=by omega
       have hj3:=eturn_lt h1 v
       generalize eturn n v=k at *
       have hOh:=Lib.hid hO
       clear hO
       have hlv:=Lib.hid hP.left
       go_wp2_with fail
       refine⟨⟨k,S7,by first | rfl | go_num,hj3,hl2,hP,hK,b1,hl,hfS7,hOh⟩,?_⟩
       rw [hlw5.out,hlv.out]
       omega
set_option maxRecDepth 100000 in
set_option maxHeartbeats 4000000 in
theorem eisrel_p (B p n me D:Nat)(S:TS)(rs:List Reg)(b c:Nat)(w:World)(h:Plays B w p S)(hl:RegsAt [2,3,4] w p b rs)(he:ERegs n rs)(h1:1<=n)(hn:n<=8)(hme:me<n)(hD:S.left<D) :
  Calls Try.prog 29 #[.pointer (some ⟨p,0,none⟩),.slice (some ⟨b,0,none⟩) (n+1) c,.int .i64 n,.int .i64 me] w (Post encZ B p w ((treeM (eask me n) D .q0).run S)):=by
 generalize hR:Post encZ B p w ((treeM (eask me n) D .q0).run S)=R
 have hO:Owes R encZ B p w ((treeM (eask me n) D .q0).run S):=hR▸owes _ _ _ _ _
 clear hR
 have hK:=Keep.refl [2,3,4] B p w
 have hP:=h
 clear h
 have heh:=Lib.hid he
 clear he
 obtain⟨S2,rfl⟩:∃ S2,S2=S:=⟨S,rfl⟩
 go_enter Try.func29,Try.ntmps29
 have hl0:True:=trivial
 have hOh:=Lib.hid hO
 clear hO
 go_wp2_with fail
 refine (eat_p p b c n me _ h1 hn hme).mono ?_
 rintro e w1 ⟨rfl,hx⟩
 replace hK:=hK.trans (Keep.of_ext hx hP.lt hP.le)
 replace hl:=hl.extL hx hP.lt
 replace hP:=hP.ext hx
 have b1:=hP.held (.cells #[.pointer (some ⟨p,0,none⟩),.slice (some ⟨b,0,none⟩) (n+1) c,.int .i64 n,.int .i64 me] 93)
 replace hl:=hl.extL ((Ext.refl w1).alloc (.cells #[.pointer (some ⟨p,0,none⟩),.slice (some ⟨b,0,none⟩) (n+1) c,.int .i64 n,.int .i64 me] 93)) hP.lt
 replace hK:=hK.trans (Keep.alloc (.cells #[.pointer (some ⟨p,0,none⟩),.slice (some ⟨b,0,none⟩) (n+1) c,.int .i64 n,.int .i64 me] 93) hP.lt hP.le)
 replace hP:=hP.alloc (.cells #[.pointer (some ⟨p,0,none⟩),.slice (some ⟨b,0,none⟩) (n+1) c,.int .i64 n,.int .i64 me] 93)
 clear hx
 have c_b1:=b1.cells
 have hO:=hOh.out
 clear hOh
 rcases heh.out.at_ 0 (by omega) with⟨r,q1,q2,q3,q4,q5⟩
 have hq:Hid (∀ W,Plays B W p S2->RegsAt [2,3,4] W p b rs->_):=Lib.hid fun W (hP:Plays B W p S2) hl=>bturn_p B p n me S2 rs b c r W hP hl hme q1 q2 q3 (by omega) (by omega) hn
 clear q1 q2 q3 q4 q5 r
 have hO2:=Lib.hid hO
 clear hO
 have c_b1:=b1.cells
 go_wp2_with fail
 clear c_b1
 refine mstep_rd (by omega) (show eask me n .q0=.rd 3 fun v=>efind me ((eturn n v+1) % n) from rfl) hO2.out hK (hq.out _ hP hl) (fun _ h=>⟨rfl,h⟩) ?_
 clear hO2 hK hP hq
 intro v S3 wn hl2 hP hk hK hO
 replace b1:=b1.keep hk
 replace hl:=hl.keep hk
 clear hk
 have hdS3:=hl2
 replace hl2:S3.left<S2.left:=by omega
 have hfS3:S3.left<D:=by omega
 generalize w1.heap.size=z at *
 have hjn:=eturn_lt h1 v
 generalize eturn n v=j0 at *
 have hn0:¬ n=0:=by omega
 have htj:((j0:Int)+1).tmod (n:Int)=(((j0+1) % n:Nat):Int):=by rw [Int.tmod_eq_emod_of_nonneg (by omega),Int.natCast_emod,Int.natCast_add];rfl
 have hwj:=IntWalk.i64_in ((j0:Int)+1) (by omega)
 have hj3:(j0+1) % n<n:=Nat.mod_lt _ (by omega)
 generalize (j0+1) % n=k at *
 have hOh:=Lib.hid hO
 clear hO
 go_wp2_with fail
 go_loopw [10] (fun a10 wr'=>∃ (j:Nat) (S5:TS),a10=.int .i64 j/\j<n/\S5.left<S2.left/\Plays B wr' p S5/\KeepP B p w wr'/\HeldP wr' p z (.cells #[.pointer (some ⟨p,0,none⟩),.slice (some ⟨b,0,none⟩) (n+1) c,.int .i64 n,.int .i64 me] 93)/\RegsAt [2,3,4] wr' p b rs/\S5.left<D/\Hid (Owes R encZ B p w ((treeM (eask me n) D (efind me j)).run S5))) (fun _ wr'=>leftW 1 3 wr' p)
 case atStart=>exact⟨k,S3,rfl,hj3,hl2,hP,hK,b1,hl,hfS3,hOh⟩
 case round =>
  clear hP hK b1 hl hOh hl2 hfS3 hjn hj3 htj hwj hdS3
  obtain⟨j,S5,rfl,hjn,hl2,hP,hK,b1,hl,hfS5,hOh⟩:=hrel
  have hO:=hOh.out
  clear hOh
  have hlw5:=Lib.hid hP.left
  by_cases hjm:j=me
  · have dm:((j:Int) != (me:Int))=false:=by simp;omega
    rw [show efind me j=.qp j from by unfold efind;rw [if_pos hjm,hjm]] at hO
    clear hjm
    rcases heh.out.at_ 0 (by omega) with⟨r,q1,q2,q3,q4,q5⟩
    have hq:Hid (∀ W,Plays B W p S5->RegsAt [2,3,4] W p b rs->_):=Lib.hid fun W (hP:Plays B W p S5) hl=>bpass_p B p n me (j:Nat) S5 rs b c r W hP hl hme q1 q2 q3 (by omega) (by omega) hn
    clear q1 q2 q3 q4 q5 r
    have hO2:=Lib.hid hO
    clear hO
    have c_b1:=b1.cells
    go_wp2_with fail
    clear c_b1
    refine mstep_wr (by omega) (show eask me n (.qp j)=.wr 3 j .qi from rfl) hO2.out hK (hq.out _ hP hl) (fun _ h=>⟨rfl,h⟩) ?_
    clear hO2 hK hP hq
    intro  S8 wn hl2 hP hk hK hO
    replace b1:=b1.keep hk
    replace hl:=hl.keep hk
    clear hk
    have hdS8:=hl2
    replace hl2:S8.left<S2.left:=by omega
    have hfS8:S8.left<D:=by omega
    rcases heh.out.at_ (1+me) (by omega) with⟨r,q1,q2,q3,q4,q5⟩
    have hq:Hid (∀ W,Plays B W p S8->RegsAt [2,3,4] W p b rs->_):=Lib.hid fun W (hP:Plays B W p S8) hl=>braise_p B p n me 0 S8 rs b c r W hP hl hme q1 q2 q3 (by omega) (by omega) hn
    clear q1 q2 q3 q4 q5 r
    have hO2:=Lib.hid hO
    clear hO
    have c_b1:=b1.cells
    go_wp2_with fail
    clear c_b1
    refine mstep_wr (by omega) (show eask me n .qi=.wr (4+(me:Int)) 0 .e from rfl) hO2.out hK (hq.out _ hP hl) (fun _ h=>⟨rfl,h⟩) ?_
    clear hO2 hK hP hq
    intro  S9 wn hl2 hP hk hK hO
    replace b1:=b1.keep hk
    replace hl:=hl.keep hk
    clear hk
    have hdS9:=hl2
    replace hl2:S9.left<S2.left:=by omega
    have hfS9:S9.left<D:=by omega
    have hf:=(treeM_done (treeM_e n me) hO).done hP hK
    clear hO hP hK b1 hl
    go_wp2_with fail
    first | exact hf | (refine bodyPost_end (results_none rfl _ _ _) rfl ?_;exact hf) | (refine bodyPost_ret (results_none rfl _ _ _) rfl ?_;exact hf) | (go_ret;exact hf) | (go_end0;exact hf)
  · have dm:((j:Int) != (me:Int))=true:=by simp;omega
    rw [show efind me j=.q j from if_neg hjm] at hO
    clear hjm
    rcases heh.out.at_ (1+j) (by omega) with⟨r,q1,q2,q3,q4,q5⟩
    have hq:Hid (∀ W,Plays B W p S5->RegsAt [2,3,4] W p b rs->_):=Lib.hid fun W (hP:Plays B W p S5) hl=>bflag_p B p n me j S5 rs b c r W hP hl (by omega) q1 q2 q3 (by omega) (by omega) hn
    clear q1 q2 q3 q4 q5 r
    have hO2:=Lib.hid hO
    clear hO
    have c_b1:=b1.cells
    go_wp2_with fail
    clear c_b1
    refine mstep_rd (by omega) (show eask me n (.q j)=.rd (4+(j:Int)) fun v=>if v=0 then efind me ((j+1) % n) else .qp j from rfl) hO2.out hK (hq.out _ hP hl) (fun _ h=>⟨rfl,h⟩) ?_
    clear hO2 hK hP hq
    intro x S6 wn hl2 hP hk hK hO
    replace b1:=b1.keep hk
    replace hl:=hl.keep hk
    clear hk
    have hdS6:=hl2
    replace hl2:S6.left<S2.left:=by omega
    have hfS6:S6.left<D:=by omega
    by_cases hx:x=0
    · have dx:(x==0)=true:=by simpa using hx
      rw [if_pos hx] at hO
      have htj:((j:Int)+1).tmod (n:Int)=(((j+1) % n:Nat):Int):=by rw [Int.tmod_eq_emod_of_nonneg (by omega),Int.natCast_emod,Int.natCast_add];rfl
      have hwj:=IntWalk.i64_in ((j:Int)+1) (by omega)
      have hj3:(j+1) % n<n:=Nat.mod_lt _ (by omega)
      generalize (j+1) % n=k at *
      have hOh:=Lib.hid hO
      clear hO hx
      have hlv:=Lib.hid hP.left
      go_wp2_with fail
      refine⟨⟨k,S6,by first | rfl | go_num,hj3,hl2,hP,hK,b1,hl,hfS6,hOh⟩,?_⟩
      rw [hlw5.out,hlv.out]
      omega
    · have dx:(x==0)=false:=by simpa using hx
      rw [if_neg hx] at hO
      clear hx
      rcases heh.out.at_ 0 (by omega) with⟨r,q1,q2,q3,q4,q5⟩
      have hq:Hid (∀ W,Plays B W p S6->RegsAt [2,3,4] W p b rs->_):=Lib.hid fun W (hP:Plays B W p S6) hl=>bpass_p B p n me (j:Nat) S6 rs b c r W hP hl hme q1 q2 q3 (by omega) (by omega) hn
      clear q1 q2 q3 q4 q5 r
      have hO2:=Lib.hid hO
      clear hO
      have c_b1:=b1.cells
      go_wp2_with fail
      clear c_b1
      refine mstep_wr (by omega) (show eask me n (.qp j)=.wr 3 j .qi from rfl) hO2.out hK (hq.out _ hP hl) (fun _ h=>⟨rfl,h⟩) ?_
      clear hO2 hK hP hq
      intro  S8 wn hl2 hP hk hK hO
      replace b1:=b1.keep hk
      replace hl:=hl.keep hk
      clear hk
      have hdS8:=hl2
      replace hl2:S8.left<S2.left:=by omega
      have hfS8:S8.left<D:=by omega
      rcases heh.out.at_ (1+me) (by omega) with⟨r,q1,q2,q3,q4,q5⟩
      have hq:Hid (∀ W,Plays B W p S8->RegsAt [2,3,4] W p b rs->_):=Lib.hid fun W (hP:Plays B W p S8) hl=>braise_p B p n me 0 S8 rs b c r W hP hl hme q1 q2 q3 (by omega) (by omega) hn
      clear q1 q2 q3 q4 q5 r
      have hO2:=Lib.hid hO
      clear hO
      have c_b1:=b1.cells
      go_wp2_with fail
      clear c_b1
      refine mstep_wr (by omega) (show eask me n .qi=.wr (4+(me:Int)) 0 .e from rfl) hO2.out hK (hq.out _ hP hl) (fun _ h=>⟨rfl,h⟩) ?_
      clear hO2 hK hP hq
      intro  S9 wn hl2 hP hk hK hO
      replace b1:=b1.keep hk
      replace hl:=hl.keep hk
      clear hk
      have hdS9:=hl2
      replace hl2:S9.left<S2.left:=by omega
      have hfS9:S9.left<D:=by omega
      have hf:=(treeM_done (treeM_e n me) hO).done hP hK
      clear hO hP hK b1 hl
      go_wp2_with fail
      first | exact hf | (refine bodyPost_end (results_none rfl _ _ _) rfl ?_;exact hf) | (refine bodyPost_ret (results_none rfl _ _ _) rfl ?_;exact hf) | (go_ret;exact hf) | (go_end0;exact hf)
end Go.Proofs.Ytbphlkaihfbgeaa
namespace Kv
theorem eask_rd {n me:Nat}{pc:EPc}{c:Int}{k:Int->EPc}(h:eask me n pc=.rd c k)(v:Int):k v≠.e:=by
 have h1:∀ j,eloop me j≠.e:=fun j=>by unfold eloop;split <;> simp
 have h2:∀ j,escan me n j≠.e:=fun j=>by unfold escan;split <;> split <;> simp
 have h3:∀ j,efind me j≠.e:=fun j=>by unfold efind;split <;> simp
 cases pc with
 | t0=>injection h with e1 e2;subst e2;exact h1 _
 | w j=>injection h with e1 e2;subst e2;dsimp only;split <;> first | exact h1 _ | simp
 | s j=>injection h with e1 e2;subst e2;dsimp only;split <;> first | exact h2 _ | simp
 | t1=>injection h with e1 e2;subst e2;dsimp only;split <;> simp
 | f j=>injection h with e1 e2;subst e2;dsimp only;split <;> simp
 | q0=>injection h with e1 e2;subst e2;exact h3 _
 | q j=>injection h with e1 e2;subst e2;dsimp only;split <;> first | exact h3 _ | simp
 | r1=>cases h
 | r2=>cases h
 | p=>cases h
 | qp j=>cases h
 | qi=>cases h
 | e=>cases h
theorem eask_fin {n me:Nat}{pc:EPc}{a:Int}(h:eask me n pc=.fin a):pc=.e:=by
 cases pc <;> first | rfl | cases h
def estart (ph:Nat):EPc:=if ph=2 then .q0 else .r1
theorem EPl.le {n me ph:Nat}{pc:EPc}(h:EPl n me ph pc):ph<=2:=by rcases h with h | h | h <;> omega
end Kv
namespace Go.Proofs.Ytbphlkaihfbgeaa
open Go.RowKit Kv
structure EInv (n D j:Nat) (th:Nat->ETh) (F:Nat->Int) (turn:Nat) (M:List Int) (ans:Nat->List Int):Prop where
 ok:EOk n th F
 cells:ECells n M turn F
 pos:∀ t,t<n->(ans t).length<=j/\((th t).ph≠1->(th t).pc≠.e/\MPos (eask t n) D (estart (th t).ph) (ans t) (th t).pc)/\((th t).ph=1->ans t=[])
section
variable {n D j turn:Nat} {th:Nat->ETh} {F:Nat->Int} {M:List Int} {ans:Nat->List Int}
theorem EInv.start (n D j:Nat)(h1:1<=n)(hD:0<D):EInv n D j (fun _=>⟨0,.r1⟩) (fun _=>0) 0 (List.replicate (4+n) 0) (fun _=>[]) :=
 ⟨.init n,⟨by simp,by rw [List.getElem?_replicate,if_pos (by omega)];rfl,fun t ht=>by rw [List.getElem?_replicate,if_pos (by omega)],by omega⟩,
  fun t _=>⟨by simp,fun _=>⟨by simp,MPos.start hD⟩,fun h=>by cases h⟩⟩
theorem EInv.begin2 (h:EInv n D j th F turn M ans)(hD:0<D){t:Nat}(ht:t<n)(h1:(th t).ph=1):EInv n D j (putE th t ⟨2,.q0⟩) F turn M ans:=by
 refine⟨h.ok.begin2 ht h1,h.cells,fun s hs=>?_⟩
 by_cases e:s=t
 · subst e
   rw [putE_self,(h.pos s hs).2.2 h1]
   exact⟨by simp,fun _=>⟨by simp,MPos.start hD⟩,fun h=>by cases h⟩
 · rw [putE_ne e];exact h.pos s hs
theorem EInv.more (h:EInv n D j th F turn M ans):EInv n D (j+1) th F turn M ans :=
 ⟨h.ok,h.cells,fun s hs=>⟨by have:=(h.pos s hs).1;omega,(h.pos s hs).2⟩⟩
theorem EInv.pick (h:EInv n D j th F turn M ans){t:Nat}(ht:t<n)(h1:(th t).ph≠1)(hj:j+1<D) :
  ∃ (kind:Int) (i:Nat) (u y:Int) (M':List Int) (S1:TS) (l:List Acc),
   (treeM (eask t n) D (estart (th t).ph)).run (TS0 [] (ans t))=(none,S1)/\S1.acc=l++[⟨kind,i,u⟩]/\l.length=(ans t).length/\i<M.length /\
   (kind=1/\M'=M∨kind=2/\M'=M.set i u)/\M'[i]?=some y /\
   ∃ th' F' turn' S2,(∀ s,s≠t->(th' s)=th s) /\
    (((treeM (eask t n) D (estart (th t).ph)).run (TS0 [] (ans t++[y]))=(none,S2)/\(th' t).ph=(th t).ph/\EInv n D (j+1) th' F' turn' M' (fun s=>if s=t then ans t++[y] else ans s)) ∨
     ((treeM (eask t n) D (estart (th t).ph)).run (TS0 [] (ans t++[y]))=(some 0,S2)/\(th' t).ph=((th t).ph+1) % 3/\EInv n D (j+1) th' F' turn' M' (fun s=>if s=t then [] else ans s))):=by
 obtain⟨p1,p2,_⟩:=h.pos t ht
 obtain⟨p2,p3⟩:=p2 h1
 have hle:=(h.ok.pl t ht).le
 have goes:∀ (pc':EPc) (F':Nat->Int) (turn':Nat) (M':List Int) (y:Int),pc'≠.e->EOk n (putE th t ⟨(th t).ph,pc'⟩) F'->ECells n M' turn' F'->MPos (eask t n) D (estart (th t).ph) (ans t++[y]) pc' ->
   ∃ th' F' turn' S2,(∀ s,s≠t->(th' s)=th s) /\
    (((treeM (eask t n) D (estart (th t).ph)).run (TS0 [] (ans t++[y]))=(none,S2)/\(th' t).ph=(th t).ph/\EInv n D (j+1) th' F' turn' M' (fun s=>if s=t then ans t++[y] else ans s)) ∨
     ((treeM (eask t n) D (estart (th t).ph)).run (TS0 [] (ans t++[y]))=(some 0,S2)/\(th' t).ph=((th t).ph+1) % 3/\EInv n D (j+1) th' F' turn' M' (fun s=>if s=t then [] else ans s))):=by
  intro pc' F' turn' M' y q1 q2 q3 q4
  have hrun:∃ S2,(treeM (eask t n) D (estart (th t).ph)).run (TS0 [] (ans t++[y]))=(none,S2):=by
   cases hk:eask t n pc' with
   | rd c k=>obtain⟨S1,_,hr,_⟩:=(q4.rd hk).1;exact⟨S1,hr⟩
   | wr c u s=>obtain⟨S1,_,hr,_⟩:=(q4.wr hk).1;exact⟨S1,hr⟩
   | fin a=>exact absurd (eask_fin hk) q1
  obtain⟨S2,hr⟩:=hrun
  refine⟨putE th t ⟨(th t).ph,pc'⟩,F',turn',S2,fun s hs=>putE_ne hs,.inl ⟨hr,by rw [putE_self],q2,q3,fun s hs=>?_⟩⟩
  by_cases e:s=t
  · subst e
    rw [if_pos rfl,putE_self]
    exact⟨by simp;omega,fun _=>⟨q1,q4⟩,fun e=>absurd e h1⟩
  · rw [if_neg e,putE_ne e]
    exact h.more.pos s hs
 have ends:∀ (x:ETh) (F':Nat->Int) (turn':Nat) (M':List Int) (y:Int),x.ph=((th t).ph+1) % 3->(x.ph≠1->x=⟨0,.r1⟩)->EOk n (putE th t x) F'->ECells n M' turn' F'->MPos (eask t n) D (estart (th t).ph) (ans t++[y]) .e ->
   ∃ th' F' turn' S2,(∀ s,s≠t->(th' s)=th s) /\
    (((treeM (eask t n) D (estart (th t).ph)).run (TS0 [] (ans t++[y]))=(none,S2)/\(th' t).ph=(th t).ph/\EInv n D (j+1) th' F' turn' M' (fun s=>if s=t then ans t++[y] else ans s)) ∨
     ((treeM (eask t n) D (estart (th t).ph)).run (TS0 [] (ans t++[y]))=(some 0,S2)/\(th' t).ph=((th t).ph+1) % 3/\EInv n D (j+1) th' F' turn' M' (fun s=>if s=t then [] else ans s))):=by
  intro x F' turn' M' y q0 q1 q2 q3 q4
  obtain⟨S2,hr,_⟩:=q4.fin (a:=0) rfl
  refine⟨putE th t x,F',turn',S2,fun s hs=>putE_ne hs,.inr ⟨hr,by rw [putE_self];exact q0,q2,q3,fun s hs=>?_⟩⟩
  by_cases e:s=t
  · subst e
    rw [if_pos rfl,putE_self]
    refine⟨by simp,fun e=>?_,fun _=>rfl⟩
    rw [q1 e]
    exact⟨by simp,MPos.start (by omega)⟩
  · rw [if_neg e,putE_ne e]
    exact h.more.pos s hs
 cases hk:eask t n (th t).pc with
 | fin a=>exact absurd (eask_fin hk) p2
 | rd c k =>
   obtain⟨i,v,rfl,hv,hok⟩:=h.ok.rd h.cells ht h1 hk
   obtain⟨⟨S1,l,hr,ha,hl⟩,hn⟩:=p3.rd hk
   exact⟨1,i,0,v,M,S1,l,hr,ha,hl,(List.getElem?_eq_some_iff.1 hv).1,.inl ⟨rfl,rfl⟩,hv,goes _ F turn M v (eask_rd hk v) hok h.cells (hn v (by omega))⟩
 | wr c u s =>
   obtain⟨⟨S1,l,hr,ha,hl⟩,hn⟩:=p3.wr hk
   have hn:=hn u (by omega)
   have hlen:=h.cells.len
   by_cases hs:s=.e
   · subst hs
     rcases eask_end hk with⟨hpc,rfl,rfl⟩ | ⟨hpc,rfl,rfl⟩
     · have hph:(th t).ph=0:=by
        rcases h.ok.pl t ht with⟨q,_⟩ | q | ⟨_,q⟩
        · exact q
        · exact absurd q h1
        · rw [hpc] at q;exact q.elim
       refine⟨2,3,_,(t:Int),M.set 3 (t:Int),S1,l,hr,ha,hl,by omega,.inr ⟨rfl,rfl⟩,List.getElem?_set_self (by omega),ends ⟨1,.e⟩ F t _ _ (by rw [hph]) (fun e=>absurd rfl e) (h.ok.enter ht hph hpc) (h.cells.turned ht) hn⟩
     · have hph:(th t).ph=2:=by
        rcases h.ok.pl t ht with⟨_,q⟩ | q | ⟨q,_⟩
        · rw [hpc] at q;exact q.elim
        · exact absurd q h1
        · exact q
       refine⟨2,4+t,_,0,M.set (4+t) 0,S1,l,hr,by rw [ha];simp,hl,by omega,.inr ⟨rfl,rfl⟩,List.getElem?_set_self (by omega),ends ⟨0,.r1⟩ _ turn _ _ (by rw [hph]) (fun _=>rfl) (h.ok.leave ht) (h.cells.flagged ht 0) hn⟩
   · obtain⟨i,turn',F',rfl,hi,hc,_,hok⟩:=h.ok.wr h.cells ht h1 hk
     exact⟨2,i,u,u,M.set i u,S1,l,hr,ha,hl,hi,.inr ⟨rfl,rfl⟩,List.getElem?_set_self hi,goes _ F' turn' _ u hs (hok fun e=>absurd e hs) hc hn⟩
theorem EInv.alone (h:EInv n D j th F turn M ans){t s:Nat}(ht:t<n)(hs:s<n)(hne:t≠s):¬ ((th t).ph=1/\(th s).ph=1):=fun e=>h.ok.alone ht hs hne e.1 e.2
end
structure BelowX (X:Nat->Prop) (w w':World):Prop where
 os:w'.os=w.os
 tape:w'.tape=w.tape
 output:w'.output=w.output
 size:w.heap.size<=w'.heap.size
 blocks:∀ k,k<w.heap.size->¬ X k->w'.heap[k]?=w.heap[k]?
theorem BelowX.of {X:Nat->Prop}{w w':World}(h:Ext w w'):BelowX X w w':=⟨h.os,h.tape,h.output,h.size,fun k hk _=>h.block k hk⟩
theorem BelowX.refl (X:Nat->Prop)(w:World):BelowX X w w:=BelowX.of (Ext.refl w)
theorem BelowX.trans {X:Nat->Prop}{w w' w'':World}(h:BelowX X w w')(g:BelowX X w' w''):BelowX X w w'' :=
 ⟨g.os.trans h.os,g.tape.trans h.tape,g.output.trans h.output,Nat.le_trans h.size g.size,fun k hk hx=>(g.blocks k (Nat.lt_of_lt_of_le hk h.size) hx).trans (h.blocks k hk hx)⟩
theorem BelowX.set {X:Nat->Prop}{w w':World}(h:BelowX X w w'){b:Nat}(hb:X b)(i:Nat)(v:Value):BelowX X w (w'.setCell ⟨b,i,none⟩ v):=by
 have e:∀ k,k≠b->(w'.setCell ⟨b,i,none⟩ v).heap[k]?=w'.heap[k]?:=fun k hk=>heap_setCell_ne _ _ hk
 exact⟨h.os,h.tape,h.output,by simpa using h.size,fun k hk hx=>(e k (fun hkb=>hx (hkb▸hb))).trans (h.blocks k hk hx)⟩
theorem BelowX.mono {X Y:Nat->Prop}{w w':World}(h:BelowX X w w')(hxy:∀ k,X k->Y k):BelowX Y w w' :=
 ⟨h.os,h.tape,h.output,h.size,fun k hk hx=>h.blocks k hk fun q=>hx (hxy k q)⟩
theorem BelowX.blk {X:Nat->Prop}{w w':World}(h:BelowX X w w'){b:Nat}{o:Obj}(hb:Blk w b o)(hx:¬ X b):Blk w' b o:=(h.blocks b hb.lt hx).trans hb
theorem BelowX.ints {X:Nat->Prop}{w w':World}{v:Value}{l:List Int}(h:BelowX X w w')(hl:Ints w v l)(hx:∀ b,v.ownBlock=some b->¬ X b):Ints w' v l:=by
 obtain⟨A,c,rfl,h1,h2,h3⟩:=hl
 refine⟨A,c,rfl,h1,h2,fun hne=>?_⟩
 obtain⟨b,off,rfl,hb,hc⟩:=h3 hne
 refine⟨b,off,rfl,Nat.lt_of_lt_of_le hb h.size,fun i x hi=>?_⟩
 rw [<- hc i x hi]
 unfold World.cell?
 simp only
 rw [h.blocks b hb (hx b rfl)]
theorem BelowX.grown {X:Nat->Prop}{w w' wr:World}{o:Obj}{row:Option Nat}(h:BelowX X w wr)(hg:(wr.alloc o).grownBy w' row)(hr:∀ b,row=some b->w.heap.size<=b):BelowX X w w':=by
 have h1:=h.trans (BelowX.of ((Ext.refl wr).alloc o))
 exact⟨hg.os.trans h1.os,hg.tape.trans h1.tape,hg.output.trans h1.output,Nat.le_trans h1.size hg.size,fun k hk hx=>(hg.block k (Nat.lt_of_lt_of_le hk h1.size) (fun e=>by have:=hr k e.symm;omega)).trans (h1.blocks k hk hx)⟩
def rowOf (l:List Int):List Value:=l.map (Value.int .i64)
structure ARows (B:Nat) (bs:List Nat) (w:World) (vs:Array Value) (ans:Nat->List Int) (n:Nat):Prop where
 sz:vs.size=n
 ge:B<=w.heap.size
 row:∀ t,t<n->∃ v,vs[t]?=some v/\w.ownsRow B 3 1 v (ans t).length (rowOf (ans t))
 off:∀ (t:Nat) (v:Value) (b:Nat),vs[t]?=some v->v.ownBlock=some b->b ∉ bs
 apart:∀ (t s:Nat) (v u:Value) (b:Nat),t≠s->vs[t]?=some v->vs[s]?=some u->v.ownBlock=some b->u.ownBlock≠some b
section
variable {B n:Nat} {bs:List Nat} {w W:World} {vs:Array Value} {ans:Nat->List Int}
theorem own_ge {v:Value}{k:Nat}{xs:List Value}(h:w.ownsRow B 3 1 v k xs){b:Nat}(hb:v.ownBlock=some b):B<=b/\b<w.heap.size:=by
 rcases h.2 with⟨rfl,_⟩ | ⟨g,cap,cur,rfl,h1,h2,_⟩
 · simp [Value.ownBlock] at hb
 · simp only [Value.ownBlock,Option.some.injEq] at hb
   subst hb
   exact⟨h1,(Array.getElem?_eq_some_iff.1 h2).1⟩
theorem ARows.ints (h:ARows B bs w vs ans n){t:Nat}(ht:t<n):∃ A c,vs[t]?=some (.slice A (ans t).length c)/\Ints w (.slice A (ans t).length c) (ans t)/\w.ownsRow B 3 1 (.slice A (ans t).length c) (ans t).length (rowOf (ans t)):=by
 obtain⟨v,h1,h2⟩:=h.row t ht
 have h3:=IntRow.ints (show IntRow w B v (ans t) from h2)
 obtain⟨A,c,rfl,_⟩:=h3.slice
 exact⟨A,c,h1,h3,h2⟩
theorem ARows.ext (h:ARows B bs w vs ans n)(hx:Ext w W):ARows B bs W vs ans n :=
 { h with
  ge:=Nat.le_trans h.ge hx.size
  row:=fun t ht=>by
   obtain⟨v,h1,h2⟩:=h.row t ht
   exact⟨v,h1,row_ext h2 hx⟩ }
theorem ARows.set (h:ARows B bs w vs ans n){b:Nat}(hb:b∈bs)(i:Nat)(u:Value):ARows B bs (w.setCell ⟨b,i,none⟩ u) vs ans n :=
 { h with
  ge:=by simpa using h.ge
  row:=fun t ht=>by
   obtain⟨v,h1,h2⟩:=h.row t ht
   exact⟨v,h1,row_set h2 fun e=>h.off t v b h1 e hb⟩ }
theorem ARows.more (h:ARows B bs w vs ans n){b:Nat}(hb:w.heap.size<=b):ARows B (b :: bs) w vs ans n :=
 { h with
  off:=fun t v k h1 h2 hk=>by
   have ht:t<n:=by rw [<- h.sz];exact (Array.getElem?_eq_some_iff.1 h1).1
   obtain⟨v',q1,q2⟩:=h.row t ht
   rw [q1] at h1
   injection h1 with h1
   subst h1
   have:=own_ge q2 h2
   rcases List.mem_cons.1 hk with rfl | hk
   · omega
   · exact h.off t _ k q1 h2 hk }
theorem ARows.less {cs:List Nat}(h:ARows B bs w vs ans n)(hc:∀ b∈cs,b∈bs):ARows B cs w vs ans n :=
 { h with off:=fun t v k h1 h2 hk=>h.off t v k h1 h2 (hc k hk) }
theorem ARows.grow (h:ARows B bs w vs ans n){t:Nat}(ht:t<n){v:Value}(hv:vs[t]?=some v){g cap:Nat}{y:Int}
  (hown:W.ownsRow B 3 1 (.slice (some ⟨g,0,none⟩) ((ans t).length+1) cap) ((ans t).length+1) (rowOf (ans t)++[Value.int .i64 y]))(hg:w.grownBy W v.ownBlock)(hat:v.ownBlock=some g∨w.heap.size<=g)(hbs:∀ b∈bs,b<w.heap.size) :
  ARows B bs W (vs.setIfInBounds t (.slice (some ⟨g,0,none⟩) ((ans t).length+1) cap)) (fun s=>if s=t then ans t++[y] else ans s) n:=by
 have hsz:=h.sz
 have fresh:∀ (s:Nat) (u:Value) (b:Nat),vs[s]?=some u->u.ownBlock=some b->B<=b/\b<w.heap.size:=fun s u b h1 h2=>by
  have hs:s<n:=by rw [<- hsz];exact (Array.getElem?_eq_some_iff.1 h1).1
  obtain⟨u',q1,q2⟩:=h.row s hs
  rw [q1] at h1
  injection h1 with h1
  subst h1
  exact own_ge q2 h2
 have other:∀ (s:Nat) (u:Value),s≠t->vs[s]?=some u->u.ownBlock≠some g:=fun s u hs h1 h2=>by
  rcases hat with e | e
  · exact h.apart t s v u g (Ne.symm hs) hv h1 e h2
  · have:=(fresh s u g h1 h2).2
    omega
 have get:∀ s u,(vs.setIfInBounds t (.slice (some ⟨g,0,none⟩) ((ans t).length+1) cap))[s]?=some u->(s=t/\u=.slice (some ⟨g,0,none⟩) ((ans t).length+1) cap)∨(s≠t/\vs[s]?=some u):=fun s u h1=>by
  by_cases e:t=s
  · subst e
    rw [Array.getElem?_setIfInBounds_self_of_lt (by omega)] at h1
    injection h1 with h1
    exact .inl ⟨rfl,h1.symm⟩
  · rw [Array.getElem?_setIfInBounds_ne e] at h1
    exact .inr ⟨Ne.symm e,h1⟩
 refine⟨by simp [hsz],Nat.le_trans h.ge hg.size,fun s hs=>?_,fun s u b h1 h2 hb=>?_,fun s r u u' b hne h1 h1' h2 h2'=>?_⟩
 · by_cases e:s=t
   · subst e
     refine⟨_,Array.getElem?_setIfInBounds_self_of_lt (by omega),?_⟩
     rw [if_pos rfl]
     unfold rowOf at hown ⊢
     rw [List.length_append,List.map_append]
     exact hown
   · obtain⟨u,q1,q2⟩:=h.row s hs
     refine⟨u,by rw [Array.getElem?_setIfInBounds_ne (Ne.symm e)];exact q1,?_⟩
     rw [if_neg e]
     refine q2.kept hg ?_
     cases hu:u.ownBlock with
     | none=>exact .inl rfl
     | some b=>exact .inr fun e2=>h.apart s t u v b e q1 hv hu e2.symm
 · rcases get s u h1 with⟨rfl,rfl⟩ | ⟨hs,h1⟩
   · simp only [Value.ownBlock,Option.some.injEq] at h2
     subst h2
     rcases hat with e | e
     · exact h.off s v g hv e hb
     · have:=hbs g hb
       omega
   · exact h.off s u b h1 h2 hb
 · rcases get s u h1 with⟨rfl,rfl⟩ | ⟨hs,h1⟩
   · simp only [Value.ownBlock,Option.some.injEq] at h2
     subst h2
     rcases get r u' h1' with⟨rfl,_⟩ | ⟨hr,h1'⟩
     · exact hne rfl
     · exact other r u' hr h1' h2'
   · rcases get r u' h1' with⟨hr,rfl⟩ | ⟨hr,h1'⟩
     · simp only [Value.ownBlock,Option.some.injEq] at h2'
       subst h2'
       rename_i hvs
       first | exact other s u (by omega) hvs h2 | exact other s u (by omega) h1 h2
     · exact h.apart s r u u' b hne ‹vs[s]?=some u› h1' h2 h2'
theorem ARows.clear (h:ARows B bs w vs ans n)(t:Nat):ARows B bs w (vs.setIfInBounds t (.slice none 0 0)) (fun s=>if s=t then [] else ans s) n:=by
 have hsz:=h.sz
 have get:∀ s u b,(vs.setIfInBounds t (.slice none 0 0))[s]?=some u->u.ownBlock=some b->s≠t/\vs[s]?=some u:=fun s u b h1 h2=>by
  by_cases e:t=s
  · subst e
    have hl:t<vs.size:=by
     have:=(Array.getElem?_eq_some_iff.1 h1).1
     simpa using this
    rw [Array.getElem?_setIfInBounds_self_of_lt hl] at h1
    injection h1 with h1
    subst h1
    simp [Value.ownBlock] at h2
  · rw [Array.getElem?_setIfInBounds_ne e] at h1
    exact⟨Ne.symm e,h1⟩
 refine⟨by simp [hsz],h.ge,fun s hs=>?_,fun s u b h1 h2=>h.off s u b (get s u b h1 h2).2 h2,fun s r u u' b hne h1 h1' h2 h2'=>h.apart s r u u' b hne (get s u b h1 h2).2 (get r u' b h1' h2').2 h2 h2'⟩
 by_cases e:s=t
 · subst e
   refine⟨.slice none 0 0,Array.getElem?_setIfInBounds_self_of_lt (by omega),?_⟩
   rw [if_pos rfl]
   exact⟨rfl,.inl ⟨rfl,rfl⟩⟩
 · obtain⟨u,q1,q2⟩:=h.row s hs
   refine⟨u,by rw [Array.getElem?_setIfInBounds_ne (Ne.symm e)];exact q1,?_⟩
   rw [if_neg e]
   exact q2
theorem ARows.start (B:Nat)(bs:List Nat)(w:World)(hB:B<=w.heap.size)(n:Nat):ARows B bs w (Array.replicate n (.slice none 0 0)) (fun _=>[]) n:=by
 have get:∀ (s:Nat) u,(Array.replicate n (Value.slice none 0 0))[s]?=some u->u=.slice none 0 0:=fun s u h=>by
  have:=Array.mem_of_getElem? h
  simp at this
  exact this.2
 refine⟨by simp,hB,fun t ht=>⟨.slice none 0 0,by simp [ht],rfl,.inl ⟨rfl,rfl⟩⟩,fun t v b h1 h2=>?_,fun t s v u b _ h1 _ h2=>?_⟩
 · rw [get t v h1] at h2
   simp [Value.ownBlock] at h2
 · rw [get t v h1] at h2
   simp [Value.ownBlock] at h2
end
end Go.Proofs.Ytbphlkaihfbgeaa
namespace Kv
def zeros (n:Nat):List Int:=List.replicate n 0
end Kv
namespace Go.Proofs.Ytbphlkaihfbgeaa
open Go.RowKit Kv
theorem make_ints (l:Int)(k:Nat)(hl:l=k)(hk:k<=100000)(w:World) :
  (Instr.makeSlice 28 (.int .i64 l) (.int .i64 l)).run Try.prog w=.ok (.slice (some ⟨w.heap.size,0,none⟩) k k) (w.alloc (.cells ((zeros k).map (Value.int .i64)).toArray 3)):=by
 subst hl
 obtain⟨i0,hi,hz0,hz1,hz2⟩:=info_parts info_int
 have hr:=run_makeSlice (P:=Try.prog) w 28 3 i0 (.int .i64 0) Try.underlying28 hi hz0 .i64 .i64 k k (by omega) (by omega) (by rw [hz1];simp;omega) (by rw [hz2];omega) (by omega)
 rw [Int.toNat_natCast,hz1,Nat.mul_one] at hr
 have he:madeCells (Value.int .i64 0).cells k=((zeros k).map (Value.int .i64)).toArray:=by
  unfold zeros madeCells
  apply Array.ext'
  rw [List.map_replicate]
  apply List.ext_getElem?
  intro j
  by_cases hj:j<k
  · simp [hj,Nat.mod_one,Value.cells]
  · simp [hj]
 rw [hr,he]
end Go.Proofs.Ytbphlkaihfbgeaa
