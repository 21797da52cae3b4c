/-
  OnceOneSaid: part 3 of its proof.
-/
import Derived.Test.YtmmmiplmiooioaaGreatJOnceOneSaid2
import Derived.Deep.RegionHeld2
import Derived.Deep.CutBlock
import Derived.Deep.DeepCutAuto
namespace Go.Proofs.YtmmmiplmiooioaaGreat
open Go.RowKit Kv
def EndAtF (B:Nat) (w w':World) (bg bo:Nat) (v:Value) (d:Bool) (S:TS):Prop :=
 w'.heap[bg]?=some (.cells #[v] 37 (0,0))/\(∃ vC vN vs,w'.heap[bo]?=some (.cells #[.bool d,vC,vN,vs] 46 (0,0))/\Outs w' (.agg #[.bool d,vC,vN,vs]) d S/\(∀ b,vs.ownBlock=some b->B<=b)/\(∀ b,vC.ownBlock=some b->B<=b))/\Below B w w'
set_option maxRecDepth 100000 in
set_option maxHeartbeats 1000000 in
theorem end_okF (B p:Nat)(S:TS)(bm bg bo:Nat)(v:Value)(w:World)(h:Plays B w p S)(hm:HeldP w p bm (.cells #[.pointer (some ⟨p,0,none⟩)] 36 (0,0)))(hg:HeldP w p bg (.cells #[v] 37 (0,0)))
  (ho:HeldP w p bo (.cells #[.bool false,.slice none 0 0,.slice none 0 0,.slice none 0 0] 46 (0,0)))(hB2:B<=bo) :
  CallsD Tryz.prog 82 #[.pointer (some ⟨bm,0,none⟩),.pointer (some ⟨bg,0,none⟩),.pointer (some ⟨bo,0,none⟩)] .returning w fun e u' w'=>e=.returned (.tuple #[])/\u'=.returning/\EndAtF B w w' bg bo v true S:=by
 obtain⟨h1,vA,vL,vC,vN,L,h⟩:=h
 have hc:=cell_of_heap h.heap
 have hfz:=frozen_of_heap h.heap
 have cm:=hm.cells
 refine callsD_of_wpS Tryz.func82 rfl fun c₀ cs hu=>?_
 simp only [Tryz.ntmps82,List.size_toArray,List.length_cons,List.length_nil,Nat.reduceAdd,Nat.reduceSub,Array.replicate_succ,Array.replicate_zero,List.push_toArray,List.append_toArray,List.nil_append,List.cons_append]
 apply wpS_seq
 refine wpS_of_wp ?_
 go_wp2_with fail
 simp only [Exit.thenS]
 apply wpS_seq
 refine wpS_of_wp ?_
 go_wp2_with fail
 simp only [Exit.thenS]
 obtain⟨HM,HK⟩:=h.state 0
 have hmh:=Lib.hid (hm.keep HK)
 have hgh:=Lib.hid (hg.keep HK).1
 have hoh:=Lib.hid (ho.keep HK)
 have hq:=cell_of_heap HM.heap
 have cm2:=hmh.out.cells
 have HMh:=Lib.hid HM
 have hbel:=Lib.hid HK.below
 clear HM HK hc hfz cm hm hg ho h
 generalize w.setCell ⟨p,0,none⟩ (.int .i64 0)=W at *
 apply wpS_seq
 apply wpS_seq
 apply wpS_region
 simp [wpOpsS,go_sem,recoverD,hu,Exit.thenS]
 refine wpS_of_wp ?_
 go_wp2_with fail
 simp only [Exit.thenS]
 refine wpS_of_wp ?_
 go_wp2_with fail
 have hI:Ints W vL L:=IntRow.ints HMh.out.rowL
 obtain⟨Al,cl,rfl,q1,q2⟩:=hI.slice
 have hIh:=Lib.hid hI
 obtain⟨Ac,cc,rfl,-,-,-⟩:=vals_row HMh.out.rowC
 obtain⟨An,cn,rfl,-,-,-⟩:=vals_row HMh.out.rowN
 have hlen:=HMh.out.locN
 have hplt:=HMh.out.lt
 have hmlt:=hmh.out.lt
 clear hI
 have hpo:p≠bo:=fun e=>hoh.out.2 (.inl e.symm)
 have hmo:bm≠bo:=fun e=>by
  have h1:=hmh.out.1
  rw [e,hoh.out.1] at h1
  injection h1 with h1
  injection h1 with _ h2
  cases h2
 have hlo:(Value.slice Al L.length cl).ownBlock≠some bo:=row_not HMh.out.rowL hoh.out.1 (by decide)
 have hS:∀ w',Near W bo 4 46 w'->((∀ i,w'.cell? ⟨p,i,none⟩=(#[.int .i64 0,vA,.slice Al L.length cl,.slice Ac S.acc.length cc,.slice An S.nts.length cn]:Array Value)[i]?)/\(∀ i,w'.cell? ⟨bm,i,none⟩=(#[.pointer (some ⟨p,0,none⟩)]:Array Value)[i]?)/\(∀ i,w'.cell? ⟨bo,i,none⟩=(#[cellD w' bo 0,cellD w' bo 1,cellD w' bo 2,cellD w' bo 3]:Array Value)[i]?)/\(∀ i,w'.frozen? ⟨bo,i,none⟩=false)/\Near W bo 4 46 w'):=fun w' hx =>
  ⟨fun i=>(hx.cell hplt hpo).trans (hq i),fun i=>(hx.cell hmlt hmo).trans (cm2 i),hx.four,hx.frozen,hx⟩
 have hN:Near W bo 4 46 W:=Near.new hoh.out.1 rfl
 go_region_held2 (fun w'=>(∀ i,w'.cell? ⟨p,i,none⟩=(#[.int .i64 0,vA,.slice Al L.length cl,.slice Ac S.acc.length cc,.slice An S.nts.length cn]:Array Value)[i]?)/\(∀ i,w'.cell? ⟨bm,i,none⟩=(#[.pointer (some ⟨p,0,none⟩)]:Array Value)[i]?)/\(∀ i,w'.cell? ⟨bo,i,none⟩=(#[cellD w' bo 0,cellD w' bo 1,cellD w' bo 2,cellD w' bo 3]:Array Value)[i]?)/\(∀ i,w'.frozen? ⟨bo,i,none⟩=false)/\Near W bo 4 46 w') (first | exact hS _ hN.drew | (refine hS _ ?_;(repeat refine Near.set ?_ _ _);exact hN.drew.ext h2))
  (first
    | (go_at_call 48
       refine (tshort_p Al cl L _ (hIh.out.ext (Ext.refl W).drew) q1 q2 (by omega)).mono ?_
       rintro e w' ⟨v',rfl,h1,h2⟩
       obtain⟨As,cs,rfl,hs1,hs2⟩:=h1.ints.slice))
 have f3:∀ b,(Value.slice As (shortL L).length cs).ownBlock=some b->B<=b:=fun b hb=>by
  have q1:=(h1.lt b hb).1
  have q2:=HMh.out.ge
  have q3:=HMh.out.lt
  rw [World.size_drew] at q1
  omega
 have f4:∀ b,(Value.slice Ac S.acc.length cc).ownBlock=some b->B<=b:=fun b hb=>(HMh.out.rowC.lt b hb).1
 obtain⟨f1,f2⟩:=end_out (d:=true) HMh.out hoh.out.1 ((Ext.refl W).drew.trans h2) h1
 have fg:bg≠bo:=fun e=>by
  have h1:=hgh.out
  rw [e,hoh.out.1] at h1
  injection h1 with h1
  injection h1 with _ h2
  cases h2
 refine⟨rfl,FrameMode.returning,(by cases c₀;simp only at hu;subst hu;rfl),.tuple #[],(by simp [results,Tryz.results82,go_sem]),rfl,rfl,?_,⟨_,_,_,f1,f2,f3,f4⟩,?_⟩
 · rw [heap_setCell_ne _ _ fg,heap_setCell_ne _ _ fg,heap_setCell_ne _ _ fg,heap_setCell_ne _ _ fg]
   exact (Below.block ((Ext.refl W).drew.trans h2) bg (Array.getElem?_eq_some_iff.1 hgh.out).1).trans hgh.out
 · exact ((((hN.drew.ext h2).set _ _).set _ _).set _ _ |>.set _ _).below hbel.out hB2 (by have:=HMh.out.ge;omega)
set_option maxRecDepth 100000 in
set_option maxHeartbeats 1000000 in
theorem end_stopF (B p:Nat)(S:TS)(bm bg bo:Nat)(v:Value)(older:List PanicEntry)(w:World)(h:Stops B w p S)(hm:HeldP w p bm (.cells #[.pointer (some ⟨p,0,none⟩)] 36 (0,0)))(hg:HeldP w p bg (.cells #[v] 37 (0,0)))
  (ho:HeldP w p bo (.cells #[.bool false,.slice none 0 0,.slice none 0 0,.slice none 0 0] 46 (0,0)))(hB1:B<=bg)(hB2:B<=bo) :
  CallsD Tryz.prog 82 #[.pointer (some ⟨bm,0,none⟩),.pointer (some ⟨bg,0,none⟩),.pointer (some ⟨bo,0,none⟩)] (.panicking ({ v:=.iface 90 (.agg #[.pointer (some ⟨p,0,none⟩)]),recovered:=false } :: older)) w fun e u' w' =>
   e=.returned (.tuple #[])/\u'=.panicking ({ v:=.iface 90 (.agg #[.pointer (some ⟨p,0,none⟩)]),recovered:=true } :: older)/\EndAtF B w w' bg bo (.int .i64 0) false S:=by
 obtain⟨vA,vL,vC,vN,L,h⟩:=h
 have hc:=cell_of_heap h.heap
 have hfz:=frozen_of_heap h.heap
 have cm:=hm.cells
 refine callsD_of_wpS Tryz.func82 rfl fun c₀ cs hu=>?_
 simp only [Tryz.ntmps82,List.size_toArray,List.length_cons,List.length_nil,Nat.reduceAdd,Nat.reduceSub,Array.replicate_succ,Array.replicate_zero,List.push_toArray,List.append_toArray,List.nil_append,List.cons_append]
 apply wpS_seq
 refine wpS_of_wp ?_
 go_wp2_with fail
 simp only [Exit.thenS]
 apply wpS_seq
 refine wpS_of_wp ?_
 go_wp2_with fail
 simp only [Exit.thenS]
 obtain⟨HM,HK⟩:=h.state 0
 have hm2:=hm.keep HK
 have hg2:=hg.keep HK
 have ho2:=ho.keep HK
 clear hc hfz cm hm hg ho h
 generalize w.setCell ⟨p,0,none⟩ (.int .i64 0)=W0 at *
 have hX:=(Ext.refl W0).alloc (.cells #[.agg #[.pointer (some ⟨p,0,none⟩)]] 90)
 have hq0:=cell_of_heap HM.heap
 have cm0:=hm2.cells
 have hqa:Hid (∀ O,∀ i,(W0.alloc O).cell? ⟨bm,i,none⟩=(#[.pointer (some ⟨p,0,none⟩)]:Array Value)[i]?):=Lib.hid fun O i=>(((Ext.refl W0).alloc O).cell (p:=⟨bm,i,none⟩) hm2.lt).trans (hm2.cells i)
 have cma:=hqa.out
 have fga:=frozen_of_heap hg2.1
 have cg0:=hg2.cells
 have W0lt:=hg2.lt
 have fgb:Hid (∀ O i,(W0.alloc O).frozen? ⟨bg,i,none⟩=false):=Lib.hid fun O i=>frozen_of_heap ((Below.block ((Ext.refl W0).alloc O) bg hg2.lt).trans hg2.1) i
 have cgb:Hid (∀ O i,(W0.alloc O).cell? ⟨bg,i,none⟩=(#[v]:Array Value)[i]?):=Lib.hid fun O i=>(((Ext.refl W0).alloc O).cell (p:=⟨bg,i,none⟩) hg2.lt).trans (hg2.cells i)
 have fgb':=fgb.out
 have cgb':=cgb.out
 have HMh0:=Lib.hid HM
 have HKh:=Lib.hid HK
 have hmh0:=Lib.hid hm2
 have hgh0:=Lib.hid hg2
 have hoh0:=Lib.hid ho2
 clear HM HK hm2 hg2 ho2
 apply wpS_seq
 apply wpS_seq
 apply wpS_region
 simp [wpOpsS,go_sem,recoverD,hu,Exit.thenS]
 refine wpS_of_wp ?_
 go_wp2_with fail
 simp only [Exit.thenS]
 refine wpS_of_wp ?_
 go_wp2_with fail
 have hgp:=hgh0.out.2
 have hmg:bm≠bg:=fun e=>by
  have h1:=hmh0.out.1
  rw [e,hgh0.out.1] at h1
  injection h1 with h1
  injection h1 with _ h2
  cases h2
 have hog:bo≠bg:=fun e=>by
  have h1:=hoh0.out.1
  rw [e,hgh0.out.1] at h1
  injection h1 with h1
  injection h1 with _ h2
  cases h2
 have HM1:=HMh0.out.setO hgp hB1 0 (.int .i64 0)
 have hm1:=hmh0.out.setO hmg hgp 0 (.int .i64 0)
 have ho1:=hoh0.out.setO hog hgp 0 (.int .i64 0)
 have hg1:=heap_setCell (i:=0) hgh0.out.1 (.int .i64 0)
 have hb1:Below B w (W0.setCell ⟨bg,0,none⟩ (.int .i64 0)):=Below.setCell HKh.out.below (by show B<=bg;exact hB1) _
 have HMh:=Lib.hid (HM1.ext ((Ext.refl _).alloc (.cells #[.pointer (some ⟨p,0,none⟩)] 90)))
 have hmh:=Lib.hid (hm1.alloc (.cells #[.pointer (some ⟨p,0,none⟩)] 90) HM1.lt)
 have hoh:=Lib.hid (ho1.alloc (.cells #[.pointer (some ⟨p,0,none⟩)] 90) HM1.lt)
 have hgh:=Lib.hid ((Below.block ((Ext.refl _).alloc (.cells #[.pointer (some ⟨p,0,none⟩)] 90)) bg (Array.getElem?_eq_some_iff.1 hg1).1).trans hg1)
 have hbel:=Lib.hid (Below.alloc hb1 (by have:=HM1.ge;have:=HM1.lt;omega) (.cells #[.pointer (some ⟨p,0,none⟩)] 90))
 clear hX hq0 cm0 hqa cma fga cg0 fgb cgb fgb' cgb' HMh0 hmh0 hgh0 hoh0 HKh HM1 hm1 ho1 hg1 hb1 hgp W0lt
 generalize (World.alloc (W0.setCell ⟨bg,0,none⟩ (.int .i64 0)) (.cells #[.pointer (some ⟨p,0,none⟩)] 90))=W at *
 have hq:=cell_of_heap HMh.out.heap
 have cm2:=hmh.out.cells
 have hI:Ints W vL L:=IntRow.ints HMh.out.rowL
 obtain⟨Al,cl,rfl,q1,q2⟩:=hI.slice
 have hIh:=Lib.hid hI
 obtain⟨Ac,cc,rfl,-,-,-⟩:=vals_row HMh.out.rowC
 obtain⟨An,cn,rfl,-,-,-⟩:=vals_row HMh.out.rowN
 have hlen:=HMh.out.locN
 have hplt:=HMh.out.lt
 have hmlt:=hmh.out.lt
 clear hI
 have hpo:p≠bo:=fun e=>hoh.out.2 (.inl e.symm)
 have hmo:bm≠bo:=fun e=>by
  have h1:=hmh.out.1
  rw [e,hoh.out.1] at h1
  injection h1 with h1
  injection h1 with _ h2
  cases h2
 have hlo:(Value.slice Al L.length cl).ownBlock≠some bo:=row_not HMh.out.rowL hoh.out.1 (by decide)
 have hS:∀ w',Near W bo 4 46 w'->((∀ i,w'.cell? ⟨p,i,none⟩=(#[.int .i64 0,vA,.slice Al L.length cl,.slice Ac S.acc.length cc,.slice An S.nts.length cn]:Array Value)[i]?)/\(∀ i,w'.cell? ⟨bm,i,none⟩=(#[.pointer (some ⟨p,0,none⟩)]:Array Value)[i]?)/\(∀ i,w'.cell? ⟨bo,i,none⟩=(#[cellD w' bo 0,cellD w' bo 1,cellD w' bo 2,cellD w' bo 3]:Array Value)[i]?)/\(∀ i,w'.frozen? ⟨bo,i,none⟩=false)/\Near W bo 4 46 w'):=fun w' hx =>
  ⟨fun i=>(hx.cell hplt hpo).trans (hq i),fun i=>(hx.cell hmlt hmo).trans (cm2 i),hx.four,hx.frozen,hx⟩
 have hN:Near W bo 4 46 W:=Near.new hoh.out.1 rfl
 go_region_held2 (fun w'=>(∀ i,w'.cell? ⟨p,i,none⟩=(#[.int .i64 0,vA,.slice Al L.length cl,.slice Ac S.acc.length cc,.slice An S.nts.length cn]:Array Value)[i]?)/\(∀ i,w'.cell? ⟨bm,i,none⟩=(#[.pointer (some ⟨p,0,none⟩)]:Array Value)[i]?)/\(∀ i,w'.cell? ⟨bo,i,none⟩=(#[cellD w' bo 0,cellD w' bo 1,cellD w' bo 2,cellD w' bo 3]:Array Value)[i]?)/\(∀ i,w'.frozen? ⟨bo,i,none⟩=false)/\Near W bo 4 46 w') (first | exact hS _ hN.drew | (refine hS _ ?_;(repeat refine Near.set ?_ _ _);exact hN.drew.ext h2))
  (first
    | (go_at_call 48
       refine (tshort_p Al cl L _ (hIh.out.ext (Ext.refl W).drew) q1 q2 (by omega)).mono ?_
       rintro e w' ⟨v',rfl,h1,h2⟩
       obtain⟨As,cs,rfl,hs1,hs2⟩:=h1.ints.slice))
 have f3:∀ b,(Value.slice As (shortL L).length cs).ownBlock=some b->B<=b:=fun b hb=>by
  have q1:=(h1.lt b hb).1
  have q2:=HMh.out.ge
  have q3:=HMh.out.lt
  rw [World.size_drew] at q1
  omega
 have f4:∀ b,(Value.slice Ac S.acc.length cc).ownBlock=some b->B<=b:=fun b hb=>(HMh.out.rowC.lt b hb).1
 obtain⟨f1,f2⟩:=end_out (d:=false) HMh.out hoh.out.1 ((Ext.refl W).drew.trans h2) h1
 have fg:bg≠bo:=fun e=>by
  have h1:=hgh.out
  rw [e,hoh.out.1] at h1
  injection h1 with h1
  injection h1 with _ h2
  cases h2
 refine⟨rfl,FrameMode.panicking ({ v:=.iface 90 (.agg #[.pointer (some ⟨p,0,none⟩)]),recovered:=true } :: older),(by cases c₀;simp only at hu;subst hu;rfl),.tuple #[],(by simp [results,Tryz.results82,go_sem]),rfl,rfl,?_,⟨_,_,_,f1,f2,f3,f4⟩,?_⟩
 · rw [heap_setCell_ne _ _ fg,heap_setCell_ne _ _ fg,heap_setCell_ne _ _ fg,heap_setCell_ne _ _ fg]
   exact (Below.block ((Ext.refl W).drew.trans h2) bg (Array.getElem?_eq_some_iff.1 hgh.out).1).trans hgh.out
 · exact ((((hN.drew.ext h2).set _ _).set _ _).set _ _ |>.set _ _).below hbel.out hB2 (by have:=HMh.out.ge;omega)
set_option maxRecDepth 100000 in
set_option maxHeartbeats 1000000 in
theorem play_errC (f:FuncId)(cap:Array Value)(T:Prog Int)(Al:Option Addr)(cl:Nat)(L:List Int)(Aa:Option Addr)(ca:Nat)(ans:List Int)(w:World)(h:Ints w (.slice Al L.length cl) L)(hl:L.length<=32768)(ha:Ints w (.slice Aa ans.length ca) ans)(hn:ans.length<=maxAns)
  (hb:∀ b,(Value.slice Aa ans.length ca).ownBlock=some b->b<w.heap.size)
  (hcf:∀ (args:Array Value) (w:World),(callFunc f args).run Tryz.prog w=.ok (.enter f args) w)
  (hdo:∀ w1 p,Ext w w1->Plays w.heap.size w1 p (TS0 L ans)->Calls Tryz.prog f (#[.pointer (some ⟨p,0,none⟩)]++cap) w1 (Post encI w.heap.size p w1 (T.run (TS0 L ans)))) :
  Calls Tryz.prog 34 #[.func (.func f) #[] cap,.slice Al L.length cl,.slice Aa ans.length ca] w fun e w'=>∃ v,e=.returned (.tuple #[.int .i64 ((T.run (TS0 L ans)).1.getD 0),v])/\Outs w' v (T.run (TS0 L ans)).1.isSome (T.run (TS0 L ans)).2/\(∃ d vC vN vs,v=.agg #[.bool d,vC,vN,vs]/\(∀ b,vs.ownBlock=some b->w.heap.size<=b)/\∀ b,vC.ownBlock=some b->w.heap.size<=b)/\Ext w w':=by
 obtain⟨q1,q2⟩:L.length<=cl/\cl<=9223372036854775807:=by
  obtain⟨A',c',he,q1,q2,_⟩:=h
  injection he with e1 e2 e3
  subst e3
  exact⟨q1,q2⟩
 generalize hR:(fun e w'=>∃ v,e=Ending.returned (.tuple #[.int .i64 ((T.run (TS0 L ans)).1.getD 0),v])/\Outs w' v (T.run (TS0 L ans)).1.isSome (T.run (TS0 L ans)).2/\(∃ d vC vN vs,v=.agg #[.bool d,vC,vN,vs]/\(∀ b,vs.ownBlock=some b->w.heap.size<=b)/\∀ b,vC.ownBlock=some b->w.heap.size<=b)/\Ext w w')=R
 have hfin:∀ v w',Outs w' v (T.run (TS0 L ans)).1.isSome (T.run (TS0 L ans)).2->(∃ d vC vN vs,v=.agg #[.bool d,vC,vN,vs]/\(∀ b,vs.ownBlock=some b->w.heap.size<=b)/\∀ b,vC.ownBlock=some b->w.heap.size<=b)->Ext w w'->R (.returned (.tuple #[.int .i64 ((T.run (TS0 L ans)).1.getD 0),v])) w':=fun v w' h1 h3 h2=>hR▸⟨v,rfl,h1,h3,h2⟩
 clear hR
 have hmf:∀ (fn:Fn) (first cap:Array Value) (w:World),(Instr.makeFunc fn first cap).run Tryz.prog w=.ok (.func fn first cap) w:=fun _ _ _ _=>rfl
 go_enter_defers Tryz.func34,Tryz.ntmps34
 go_wp2_with fail
 obtain⟨hx,g1,g2,g3,g4⟩:=four_boxes w (.cells #[.int .i64 0] 37) (.cells #[.bool false,.slice none 0 0,.slice none 0 0,.slice none 0 0] 46) (.cells #[.int .i64 1,.slice Aa ans.length ca,.slice none 0 0,.slice none 0 0,.slice none 0 0] 87) (.cells #[.pointer (some ⟨w.heap.size+1+1,0,none⟩)] 36)
 generalize hW:World.alloc (World.alloc (World.alloc (World.alloc w _) _) _) _=W at *
 clear hW
 have hI:=h.ext hx
 have cm:=cell_of_heap g4
 have hN:Near W (w.heap.size+1+1) 5 87 W:=Near.new g3 rfl
 have hmlt:=(Array.getElem?_eq_some_iff.1 g4).1
 have hmin:min (L.length:Int) 32768=(L.length:Int):=by omega
 have hS:∀ w',Near W (w.heap.size+1+1) 5 87 w'->((∀ i,w'.cell? ⟨w.heap.size+1+1+1,i,none⟩=(#[.pointer (some ⟨w.heap.size+1+1,0,none⟩)]:Array Value)[i]?)/\(∀ i,w'.cell? ⟨w.heap.size+1+1,i,none⟩=(#[cellD w' (w.heap.size+1+1) 0,cellD w' (w.heap.size+1+1) 1,cellD w' (w.heap.size+1+1) 2,cellD w' (w.heap.size+1+1) 3,cellD w' (w.heap.size+1+1) 4]:Array Value)[i]?)/\(∀ i,w'.frozen? ⟨w.heap.size+1+1,i,none⟩=false)):=fun w' hx =>
  ⟨fun i=>(hx.cell hmlt (by omega)).trans (cm i),hx.five,hx.frozen⟩
 go_region_held3 (fun w'=>(∀ i,w'.cell? ⟨w.heap.size+1+1+1,i,none⟩=(#[.pointer (some ⟨w.heap.size+1+1,0,none⟩)]:Array Value)[i]?)/\(∀ i,w'.cell? ⟨w.heap.size+1+1,i,none⟩=(#[cellD w' (w.heap.size+1+1) 0,cellD w' (w.heap.size+1+1) 1,cellD w' (w.heap.size+1+1) 2,cellD w' (w.heap.size+1+1) 3,cellD w' (w.heap.size+1+1) 4]:Array Value)[i]?)/\(∀ i,w'.frozen? ⟨w.heap.size+1+1,i,none⟩=false)) (first | exact hS _ hN.drew | (refine hS _ ?_;(repeat refine Near.set ?_ _ _);exact hN.drew.ext h2))
  (first
    | (go_at_call 46
       refine (clone_any Al cl L _ (hI.ext (Ext.refl W).drew) (by omega)).mono ?_
       rintro e w' ⟨v',rfl,h1,h2⟩
       obtain⟨As,cs,rfl,hs1,hs2⟩:=h1.ints.slice))
 obtain⟨hP,hH,hE⟩:=play_start (p:=w.heap.size+1+1) hx (by omega) g3 ((Ext.refl W).drew.trans h2) h1 hl ha hn hb
 have hbg:=hH _ _ g1 (by omega)
 have hbo:=hH _ _ g2 (by omega)
 have hbm:=hH _ _ g4 (by omega)
 clear hH g1 g2 g3 g4 hS hN h1 h2 hI cm hmin hmlt
 rename_i hh
 clear hh
 have hT:=hdo _ _ hE hP
 clear hdo
 generalize World.setCell _ _ _=W2 at *
 have cbm:=hbm.cells
 have hnf:(binOp .neq 78 (.func (.func f) #[] cap) .nilFunc).run Tryz.prog W2=.ok (.bool true) W2:=by kernel_rfl
 go_wp2_with fail
 generalize hr:T.run (TS0 L ans)=r at hT hfin
 obtain⟨o,S⟩:=r
 clear hr
 cases o with
 | some a =>
   refine hT.mono ?_
   rintro e w3 ⟨rfl,hP3,hK3⟩
   have hbg3:=hbg.keep hK3
   have hbo3:=hbo.keep hK3
   have hbm3:=hbm.keep hK3
   have hE3:Ext w w3:=Below.trans hE hK3.below
   clear hbg hbo hbm hE hK3 hT hP cbm hnf
   have cbg:=hbg3.cells
   have fbg:=frozen_of_heap hbg3.1
   have cbo:=hbo3.cells
   have fbo:=frozen_of_heap hbo3.1
   go_wp2_with fail
   have fgo:w.heap.size≠w.heap.size+1:=by omega
   have hg4:=heap_setCell (i:=0) hbg3.1 (.int .i64 a)
   have hP4:Plays w.heap.size (w3.setCell ⟨w.heap.size,0,none⟩ (.int .i64 a)) (w.heap.size+1+1) S:=by
    obtain⟨q,vA,vL,vC,vN,L',hM⟩:=hP3
    exact⟨q,vA,vL,vC,vN,L',hM.setO hbg3.2 (Nat.le_refl _) _ _⟩
   have hbm4:=hbm3.setO (b:=w.heap.size) (by omega) hbg3.2 0 (.int .i64 a)
   have hbo4:=hbo3.setO (b:=w.heap.size) (by omega) hbg3.2 0 (.int .i64 a)
   have hbg4:HeldP (w3.setCell ⟨w.heap.size,0,none⟩ (.int .i64 a)) (w.heap.size+1+1) w.heap.size (.cells #[.int .i64 a] 37 (0,0)):=⟨hg4,fun h'=>hbg3.2 ((ownR_same (heap_setCell_ne _ _ (by omega)) _).1 h')⟩
   have hE4:Ext w (w3.setCell ⟨w.heap.size,0,none⟩ (.int .i64 a)):=hE3.setCell (Nat.le_refl _) _
   clear hP3 hbg3 hbo3 hbm3 hE3 cbg fbg cbo fbo hg4
   generalize World.setCell _ _ _=w4 at *
   generalize hbq:w.heap.size+1=bo at hbm4 hbo4 hP4 ⊢
   have fgo1:w.heap.size≠bo:=by omega
   have fgo2:bo≠w.heap.size:=by omega
   clear fgo
   have cbg:=hbg4.cells
   have fbg:=frozen_of_heap hbg4.1
   have cbo:=hbo4.cells
   have fbo:=frozen_of_heap hbo4.1
   go_region
   all_goals
    generalize hW5:World.drew _=W5
    have hsm:SameW w4 W5:=by
     rw [<- hW5]
     repeat first | with_reducible exact SameW.refl _ | with_reducible refine SameW.drew2 ?_ | refine SameW.set ?_ hbg4.1 rfl | refine SameW.set ?_ hbo4.1 rfl
    clear hW5 cbg fbg cbo fbo
    have hP5:=hP4.ext hsm.ext
    have hbm5:=hbm4.ext hsm.ext hP4.lt
    have hbg5:=hbg4.ext hsm.ext (by rw [hbq];exact hP4.lt)
    have hbo5:=hbo4.ext hsm.ext hP4.lt
    have hE5:Ext w W5:=hE4.trans hsm.ext
    clear hP4 hbm4 hbg4 hbo4 hE4 hsm
    go_wp2_with fail
    refine leaves_cons (f:=82) (args:=#[.pointer (some ⟨bo+1+1,0,none⟩),.pointer (some ⟨w.heap.size,0,none⟩),.pointer (some ⟨bo,0,none⟩)]) (by simp) (by simp [go_sem]) ?_
    refine (end_okF w.heap.size _ S _ _ _ _ _ hP5 hbm5 (by rw [<- hbq];exact hbg5) hbo5 (by omega)).mono ?_
    rintro e u' w4 ⟨rfl,rfl,hg,⟨vC,vN,vs,ho,hO,hvs,hvc⟩,hB⟩
    have cg:=cell_of_heap hg
    have co:=cell_of_heap ho
    have cg0:=cg 0
    have co0:=co 0
    have co1:=co 1
    have co2:=co 2
    have co3:=co 3
    refine⟨.tuple #[.int .i64 a,.agg #[.bool true,vC,vN,vs]],?_,hfin _ _ hO ⟨_,vC,vN,vs,rfl,hvs,hvc⟩ (Below.trans hE5 hB)⟩
    simp [results,Tryz.results34,go_sem,cg0,co0,co1,co2,co3]
 | none =>
   refine hT.mono ?_
   rintro e w3 ⟨rfl,hP3,hK3⟩
   have hbg3:=hbg.keep hK3
   have hbo3:=hbo.keep hK3
   have hbm3:=hbm.keep hK3
   have hE3:Ext w w3:=Below.trans hE hK3.below
   clear hbg hbo hbm hE hK3 hT hP cbm hnf
   refine leaves_cons (f:=82) (args:=#[.pointer (some ⟨w.heap.size+1+1+1,0,none⟩),.pointer (some ⟨w.heap.size,0,none⟩),.pointer (some ⟨w.heap.size+1,0,none⟩)]) (by simp) (by simp [go_sem]) ?_
   refine (end_stopF w.heap.size _ S _ _ _ _ [] _ hP3 hbm3 hbg3 hbo3 (Nat.le_refl _) (by omega)).mono ?_
   rintro e u' w4 ⟨rfl,rfl,hg,⟨vC,vN,vs,ho,hO,hvs,hvc⟩,hB⟩
   have cg:=cell_of_heap hg
   have co:=cell_of_heap ho
   have cg0:=cg 0
   have co0:=co 0
   have co1:=co 1
   have co2:=co 2
   have co3:=co 3
   refine⟨.tuple #[.int .i64 0,.agg #[.bool false,vC,vN,vs]],?_,hfin _ _ hO ⟨_,vC,vN,vs,rfl,hvs,hvc⟩ (Below.trans hE3 hB)⟩
   simp [results,Tryz.results34,go_sem,cg0,co0,co1,co2,co3]
set_option maxRecDepth 100000 in
set_option maxHeartbeats 1000000 in
theorem alive39 (w:World):Calls Tryz.prog 7 #[] w fun e w'=>e=.returned (.bool true)/\Ext w w':=by
 have hmf:∀ (fn:Fn) (first cap:Array Value) (w:World),(Instr.makeFunc fn first cap).run Tryz.prog w=.ok (.func fn first cap) w:=fun _ _ _ _=>rfl
 have hput:=fun w=>put8_r 0 1 1 0 0 1 w
 have hmk4:∀ w,(Instr.makeSlice 33 (.int .i64 4) (.int .i64 4)).run Tryz.prog w=.ok (.slice (some ⟨w.heap.size,0,none⟩) 4 4) (w.alloc (.cells #[.int .i64 0,.int .i64 0,.int .i64 0,.int .i64 0] 3)):=fun w=>make_ints 4 4 rfl (by decide) w
 go_enter Tryz.func7,Tryz.ntmps7
 go_wp2_with fail
 refine (hput _).mono ?_
 rintro e w0 ⟨rfl,hX⟩
 clear hput
 rename_i hKK
 refine hKK _ _ ?_
 clear hKK
 refine new_obj rfl rfl rfl _ _ rfl _ rfl rfl rfl (by kernel_rfl) ?_
 refine wpList_nil ?_
 have b1:=Blk.new w0 (.cells (obCells 1) 31)
 replace hX:=hX.alloc (.cells (obCells 1) 31)
 generalize hbk:w0.heap.size=bk at *
 generalize World.alloc w0 _=V0 at *
 clear hbk
 go_wp2_with fail
 have hA:=ints_new V0 [0,0,0,0] (by simp)
 replace b1:=b1.alloc (.cells #[.int .i64 0,.int .i64 0,.int .i64 0,.int .i64 0] 3)
 replace hX:=hX.alloc (.cells #[.int .i64 0,.int .i64 0,.int .i64 0,.int .i64 0] 3)
 simp only [List.map_cons,List.map_nil,List.length_cons,List.length_nil,Nat.reduceAdd] at hA
 have hsz:V0.heap.size<(World.alloc V0 (.cells #[.int .i64 0,.int .i64 0,.int .i64 0,.int .i64 0] 3)).heap.size:=by simp
 clear hmk4
 generalize World.alloc V0 _=V0a at *
 have hPl:=play_reply (fun _=>0) id encRp (fun _=>rfl) 31 #[.pointer (some ⟨bk,0,none⟩)] (treeN (onM 1 0).ask 8 (.st false)) none 0 [] (some ⟨V0.heap.size,0,none⟩) 4 [0,0,0,0] V0a (Ints.nil _) (by simp) hA (by simp [maxAns]) (fun k hk=>by simp only [Value.ownBlock,Option.some.injEq] at hk;omega) (fun _ _=>rfl) (fun W p hxW hP=>onal1 _ p 8 _ bk W hP (by decide) (by decide) rfl (b1.ext hxW))
 have e1:((treeN (onM 1 0).ask 8 (.st false)).run (TS0 [] [0,0,0,0])).1=some 1:=by decide +kernel
 have e2:∀ i,((treeN (onM 1 0).ask 8 (.st false)).run (TS0 [] [0,0,0,0])).2.loc i=if i=0 then 1 else 0:=fun i=>by cases i <;> rfl
 rw [e1,show ([0,0,0,0]:List Int).length=4 from rfl] at hPl
 generalize ((treeN (onM 1 0).ask 8 (.st false)).run (TS0 [] [0,0,0,0])).2=S1 at *
 simp only [Option.map_some,id,Option.getD_some,Option.isSome_some] at hPl
 refine hPl.mono ?_
 clear hPl e1 hA hsz
 rintro e y1 ⟨v1,rfl,hO,-,hx1⟩
 obtain⟨A1,c1,D1,d1,vs1,L1,rfl,hO1⟩:=hO
 have hL1:shortL L1=[1]:=by
  have h:=shortL_eq (L:=L1) (L':=[1]) fun i=>by
   rw [<- hO1.is i,e2 i]
   cases i <;> simp
  rw [h]
  rfl
 obtain⟨E1,k1,hvs1,_,_⟩:=hO1.locs.slice
 rw [hL1] at hvs1
 subst hvs1
 have hI1:Ints y1 (.slice E1 1 k1) [1]:=by have h:=hO1.locs;rw [hL1] at h;exact h
 clear hO1 hL1 e2
 unfold outV
 have hl1:S1.acc.length=S1.acc.length:=rfl
 clear hl1
 have hxq:=hx1.trans (((Ext.refl y1).alloc (.cells #[.int .i64 0,.int .i64 1] 39)).alloc (.cells #[.bool true,.slice A1 S1.acc.length c1,.slice D1 S1.nts.length d1,.slice E1 1 k1] 46))
 replace b1:=b1.ext hxq
 replace hX:=hX.trans hxq
 replace hI1:=hI1.ext (((Ext.refl y1).alloc (.cells #[.int .i64 0,.int .i64 1] 39)).alloc (.cells #[.bool true,.slice A1 S1.acc.length c1,.slice D1 S1.nts.length d1,.slice E1 1 k1] 46))
 have r1:=(Blk.new y1 (.cells #[.int .i64 0,.int .i64 1] 39)).alloc (.cells #[.bool true,.slice A1 S1.acc.length c1,.slice D1 S1.nts.length d1,.slice E1 1 k1] 46)
 have o1:=Blk.new (y1.alloc (.cells #[.int .i64 0,.int .i64 1] 39)) (.cells #[.bool true,.slice A1 S1.acc.length c1,.slice D1 S1.nts.length d1,.slice E1 1 k1] 46)
 simp only [World.size_alloc] at o1
 clear hx1 hxq
 go_upto_region 3 with fail
 generalize hz1:y1.heap.size=z1 at *
 generalize World.alloc (World.alloc y1 _) _=V1 at *
 clear hz1
 go_wp2_with fail
 have hA:=ints_new V1 [0,1,0,0,2,0] (by simp)
 have hxq:=(Ext.refl V1).alloc (.cells #[.int .i64 0,.int .i64 1,.int .i64 0,.int .i64 0,.int .i64 2,.int .i64 0] 3)
 replace b1:=b1.ext hxq
 replace r1:=r1.ext hxq
 replace o1:=o1.ext hxq
 replace hX:=hX.trans hxq
 replace hI1:=hI1.ext hxq
 clear hxq
 simp only [List.map_cons,List.map_nil,List.length_cons,List.length_nil,Nat.reduceAdd] at hA
 have hsz:V1.heap.size<(World.alloc V1 (.cells #[.int .i64 0,.int .i64 1,.int .i64 0,.int .i64 0,.int .i64 2,.int .i64 0] 3)).heap.size:=by simp
 generalize World.alloc V1 _=V1a at *
 have hPl:=play_reply (fun _=>0) id encRp (fun _=>rfl) 32 #[.pointer (some ⟨bk,0,none⟩)] (treeN (onM 1 0).ask 8 (.st false)) none 0 [] (some ⟨V1.heap.size,0,none⟩) 6 [0,1,0,0,2,0] V1a (Ints.nil _) (by simp) hA (by simp [maxAns]) (fun k hk=>by simp only [Value.ownBlock,Option.some.injEq] at hk;omega) (fun _ _=>rfl) (fun W p hxW hP=>onal2 _ p 8 _ bk W hP (by decide) (by decide) rfl (b1.ext hxW))
 have e1:((treeN (onM 1 0).ask 8 (.st false)).run (TS0 [] [0,1,0,0,2,0])).1=some 0:=by decide +kernel
 rw [e1,show ([0,1,0,0,2,0]:List Int).length=6 from rfl] at hPl
 generalize ((treeN (onM 1 0).ask 8 (.st false)).run (TS0 [] [0,1,0,0,2,0])).2=S2 at *
 simp only [Option.map_some,id,Option.getD_some,Option.isSome_some] at hPl
 refine hPl.mono ?_
 clear hPl e1 hA hsz
 rintro e y2 ⟨v2,rfl,hO,-,hx2⟩
 obtain⟨A2,c2,D2,d2,vs2,L2,rfl,hO2⟩:=hO
 obtain⟨E2,k2,hvs2,_,_⟩:=hO2.locs.slice
 subst hvs2
 generalize (shortL L2).length=n2 at *
 clear hO2
 unfold outV
 have hxq:=hx2.trans (((Ext.refl y2).alloc (.cells #[.int .i64 0,.int .i64 0] 39)).alloc (.cells #[.bool true,.slice A2 S2.acc.length c2,.slice D2 S2.nts.length d2,.slice E2 n2 k2] 46))
 replace b1:=b1.ext hxq
 replace r1:=r1.ext hxq
 replace o1:=o1.ext hxq
 replace hX:=hX.trans hxq
 replace hI1:=hI1.ext hxq
 have r2:=(Blk.new y2 (.cells #[.int .i64 0,.int .i64 0] 39)).alloc (.cells #[.bool true,.slice A2 S2.acc.length c2,.slice D2 S2.nts.length d2,.slice E2 n2 k2] 46)
 clear hx2 hxq
 go_upto_region 4 with fail
 generalize hz2:y2.heap.size=z2 at *
 generalize World.alloc (World.alloc y2 _) _=V2 at *
 clear hz2
 have c_o1:=o1.cells
 go_wp2_with fail
 clear c_o1
 have hPl:=play_reply (fun _=>10) (fun _=>0) encHeld (fun _=>rfl) 33 #[.pointer (some ⟨bk,0,none⟩)] (Prog.ret ()) E1 k1 [1] none 0 [] V2 hI1 (by simp) (Ints.nil _) (by simp [maxAns]) (fun k hk=>by simp [Value.ownBlock] at hk) (fun _ _=>rfl) (fun W p hxW hP=>onal3 _ p 8 _ bk W hP (by decide) (by decide) rfl (b1.ext hxW))
 rw [show (Prog.ret ()).run (TS0 [1] [])=(some (),TS0 [1] []) from rfl] at hPl
 generalize TS0 [1] []=S3 at *
 simp only [Option.map_some,Option.getD_some,Option.isSome_some,List.length_cons,List.length_nil] at hPl
 refine hPl.mono ?_
 clear hPl
 rintro e y3 ⟨v3,rfl,hO,-,hx3⟩
 obtain⟨A3,c3,D3,d3,vs3,L3,rfl,hO3⟩:=hO
 obtain⟨E3,k3,hvs3,_,_⟩:=hO3.locs.slice
 subst hvs3
 generalize (shortL L3).length=n3 at *
 clear hO3
 unfold outV
 have hxq:=hx3.trans (((Ext.refl y3).alloc (.cells #[.int .i64 10,.int .i64 0] 39)).alloc (.cells #[.bool true,.slice A3 S3.acc.length c3,.slice D3 S3.nts.length d3,.slice E3 n3 k3] 46))
 replace b1:=b1.ext hxq
 replace r1:=r1.ext hxq
 replace o1:=o1.ext hxq
 replace r2:=r2.ext hxq
 replace hX:=hX.trans hxq
 replace hI1:=hI1.ext hxq
 have r3:=(Blk.new y3 (.cells #[.int .i64 10,.int .i64 0] 39)).alloc (.cells #[.bool true,.slice A3 S3.acc.length c3,.slice D3 S3.nts.length d3,.slice E3 n3 k3] 46)
 clear hx3 hxq
 go_upto_region 5 with fail
 generalize hz3:y3.heap.size=z3 at *
 generalize World.alloc (World.alloc y3 _) _=V3 at *
 clear hz3
 have hmk3:∀ w,(Instr.makeSlice 33 (.int .i64 3) (.int .i64 3)).run Tryz.prog w=.ok (.slice (some ⟨w.heap.size,0,none⟩) 3 3) (w.alloc (.cells ((zeros 3).map (Value.int .i64)).toArray 3)):=fun w=>make_ints 3 3 rfl (by decide) w
 have hX9:=hX.drew
 have lift:=(Ext.refl V3).drew
 replace b1:=b1.ext lift
 replace r1:=r1.ext lift
 replace o1:=o1.ext lift
 replace r2:=r2.ext lift
 replace r3:=r3.ext lift
 replace hI1:=hI1.ext lift
 clear lift hX
 obtain⟨V,hV⟩:∃ V,V=World.drew V3:=⟨_,rfl⟩
 rw [<- hV] at r1 o1 r2 r3 hX9 b1 hI1
 have hPl:∀ W b,Ext V W->b<W.heap.size->Ints W (.slice (some ⟨b,0,none⟩) 3 3) (zeros 3)->Calls Tryz.prog 34 #[.func (.func 35) #[] #[.pointer (some ⟨bk,0,none⟩)],.slice E1 1 k1,.slice (some ⟨b,0,none⟩) 3 3] W fun e w'=>∃ bq n9 c9 A9m n9m c9m A9l n9l c9l,e=.returned (.tuple #[.int .i64 0,.agg #[.bool true,.slice (some ⟨bq,0,none⟩) (n9+2) c9,.slice A9m n9m c9m,.slice A9l n9l c9l]])/\Ext W w'/\W.heap.size<=bq/\bq<w'.heap.size/\w'.cell? ⟨bq,3,none⟩=some (.int .i64 2)/\w'.cell? ⟨bq,4,none⟩=some (.int .i64 1)/\w'.cell? ⟨bq,5,none⟩=some (.int .i64 2):=by
  intro W b hW hb hI
  have h:=play_errC 35 #[.pointer (some ⟨bk,0,none⟩)] (treeN (onM 1 0).ask 8 (.st true)) E1 k1 [1] (some ⟨b,0,none⟩) 3 (zeros 3) W (hI1.ext hW) (by simp) hI (by simp [maxAns,zeros]) (fun k hk=>by simp only [Value.ownBlock,Option.some.injEq] at hk;omega) (fun _ _=>rfl) (fun W' p hxW hP=>onal4 _ p 8 _ bk W' hP (by decide) (by decide) rfl (b1.ext (hW.trans hxW)))
  have e1:((treeN (onM 1 0).ask 8 (.st true)).run (TS0 [1] (zeros 3))).1=some 0:=by decide +kernel
  have e2:((treeN (onM 1 0).ask 8 (.st true)).run (TS0 [1] (zeros 3))).2.acc.length=1+2:=by decide +kernel
  have e3:(((treeN (onM 1 0).ask 8 (.st true)).run (TS0 [1] (zeros 3))).2.acc[1]?)=some ⟨2,1,2⟩:=by kernel_rfl
  rw [e1,show (zeros 3).length=3 from rfl,show ([1]:List Int).length=1 from rfl] at h
  refine h.mono ?_
  rintro e w' ⟨v,rfl,hO,hB3,hx⟩
  obtain⟨A2,c2,A2',c2',vs2,L2,rfl,hO⟩:=hO
  obtain⟨As2,k2,hvs2,_,_⟩:=hO.locs.slice
  subst hvs2
  obtain⟨bq,rfl,hbq,q0,q1,q2⟩:=hO.accs.at_ e3
  simp only at q0 q1 q2
  obtain⟨_,vC9,_,_,he9,_,hvc9⟩:=hB3
  unfold outV at he9
  simp only [Value.agg.injEq,Array.mk.injEq,List.cons.injEq] at he9
  obtain⟨_,rfl,_⟩:=he9
  unfold outV
  rw [e2]
  exact⟨bq,_,_,_,_,_,_,_,_,rfl,hx,hvc9 bq rfl,hbq,q0,q1,q2⟩
 have hS:=fun (w':World) (hx:Ext V w')=>(o1.ext hx).cells
 rw [hV] at hS hPl
 go_cut [8,9] (fun s8 s9 wx=>s8=.int .i64 0/\∃ bx bq n9 c9 A9m n9m c9m A9l n9l c9l,s9=.pointer (some ⟨bx,0,none⟩)/\Blk wx bx (.cells #[.bool true,.slice (some ⟨bq,0,none⟩) (n9+2) c9,.slice A9m n9m c9m,.slice A9l n9l c9l] 46)/\Ext V wx/\bq<wx.heap.size/\wx.cell? ⟨bq,3,none⟩=some (.int .i64 2)/\wx.cell? ⟨bq,4,none⟩=some (.int .i64 1)/\wx.cell? ⟨bq,5,none⟩=some (.int .i64 2))
 case first =>
  have hI3:∀ W:World,Ints (W.alloc (.cells ((zeros 3).map (Value.int .i64)).toArray 3)) (.slice (some ⟨W.heap.size,0,none⟩) 3 3) (zeros 3):=fun W=>ints_new W (zeros 3) (by simp [zeros])
  refine wp_region_held_drew (S:=fun w'=>∀ i,w'.cell? ⟨z1+1,i,none⟩=(#[.bool true,.slice A1 S1.acc.length c1,.slice D1 S1.nts.length d1,.slice E1 1 k1]:Array Value)[i]?) rfl (hS _ (Ext.refl _)) (fun hHeld=>?_)
  refine tkb 0 ?_
  iterate 3
   refine tkn (v:=?_) rfl (by kernel_rfl) (fun _ _ _ h=>h) (by assumption) ?_ ?_
   rotate_left
   · (intro w hSw;(try dsimp only at hSw);go_simp;try with_reducible rfl)
   try simp only [put_pack]
  refine tke ?_
  refine wpAnyH_ready (rs:=[3,8]) (by kernel_rfl) (by simp) ?_
  refine AllReadyH.cons rfl (fun K hKK=>?_) (AllReadyH.cons rfl (fun K hKK=>?_) (AllReadyH.nil))
  · go_simp
    have hIa:=hI3 (World.drew V3)
    have hxa:=(Ext.refl (World.drew V3)).alloc (.cells ((zeros 3).map (Value.int .i64)).toArray 3)
    have hsa:(World.drew V3).heap.size<(World.alloc (World.drew V3) (.cells ((zeros 3).map (Value.int .i64)).toArray 3)).heap.size:=by simp
    refine hKK.out _ _ (hS _ hxa) (fun hHeld=>?_)
    clear hKK K
    try dsimp only
    refine wpAnyH_ready (rs:=[4,8]) (by kernel_rfl) (by simp) ?_
    refine AllReadyH.cons rfl (fun K hKK=>?_) (AllReadyH.cons rfl (fun K hKK=>?_) (AllReadyH.nil))
    · go_simp
      refine (hPl _ _ hxa hsa hIa).mono ?_
      rintro e y2 ⟨bq,n9,c9,A9m,n9m,c9m,A9l,n9l,c9l,rfl,hx,hbq,hbl,q3,q4,q5⟩
      replace hx:=hxa.trans hx
      clear hxa
      refine hKK.out _ _ (hS _ hx) (fun hHeld=>?_)
      clear hKK K
      try dsimp only
      refine tkb 5 ?_
      iterate 3
       refine tkn (v:=?_) rfl (by kernel_rfl) (fun _ _ _ h=>h) (by assumption) ?_ ?_
       rotate_left
       · (intro w hSw;(try dsimp only at hSw);go_simp;try with_reducible rfl)
       try simp only [put_pack]
      refine tke ?_
      refine wpAnyH_ready (rs:=[8]) (by kernel_rfl) (by simp) ?_
      refine AllReadyH.cons rfl (fun K hKK=>?_) (AllReadyH.nil)
      go_simp
      refine hKK.out _ _ (hS _ (hx.alloc _)) (fun hHeld=>?_)
      clear hKK K
      try dsimp only
      refine tk 9 (v:=?_) rfl (by kernel_rfl) (fun _ _ _ h=>h) (by assumption) ?_ ?_
      rotate_left
      · (intro w hSw;(try dsimp only at hSw);go_simp;try with_reducible rfl)
      try simp only [put_pack]
      refine wpAnyH_ready (rs:=[10]) (by kernel_rfl) (by simp) ?_
      refine AllReadyH.cons rfl (fun K hKK=>?_) (AllReadyH.nil)
      go_simp
      refine hKK.out _ _ (hS _ (hx.alloc _)) (fun hHeld=>?_)
      clear hKK K
      try dsimp only
      refine wpAnyH_done (by kernel_rfl) ?_ _
      go_simp
      go_wp2_with fail
      go_meet
      exact⟨rfl,y2.heap.size,bq,n9,c9,A9m,n9m,c9m,A9l,n9l,c9l,rfl,Blk.new y2 _,by rw [hV];exact hx.alloc _,(by simp only [World.size_alloc];omega),(((Ext.refl y2).alloc _).cell (p:=⟨bq,3,none⟩) hbl).trans q3,(((Ext.refl y2).alloc _).cell (p:=⟨bq,4,none⟩) hbl).trans q4,(((Ext.refl y2).alloc _).cell (p:=⟨bq,5,none⟩) hbl).trans q5⟩
    · go_simp
      have bz:Blk (World.alloc (World.alloc (World.drew V3) (.cells ((zeros 3).map (Value.int .i64)).toArray 3)) (.cells #[.bool false,.slice none 0 0,.slice none 0 0,.slice none 0 0] 46)) (V3.heap.size+1) (.cells #[.bool false,.slice none 0 0,.slice none 0 0,.slice none 0 0] 46):=by
       have h:=Blk.new (World.alloc (World.drew V3) (.cells ((zeros 3).map (Value.int .i64)).toArray 3)) (.cells #[.bool false,.slice none 0 0,.slice none 0 0,.slice none 0 0] 46)
       simp only [World.size_alloc] at h
       exact h
      have hxz:=hxa.alloc (.cells #[.bool false,.slice none 0 0,.slice none 0 0,.slice none 0 0] 46)
      refine hKK.out _ _ (hS _ hxz) (fun hHeld=>?_)
      clear hKK K
      try dsimp only
      refine wpAnyH_ready (rs:=[4]) (by kernel_rfl) (by simp) ?_
      refine AllReadyH.cons rfl (fun K hKK=>?_) (AllReadyH.nil)
      go_simp
      refine (hPl _ _ hxz (by simp <;> omega) (hIa.ext ((Ext.refl _).alloc _))).mono ?_
      rintro e y2 ⟨bq,n9,c9,A9m,n9m,c9m,A9l,n9l,c9l,rfl,hx,hbq,hbl,q3,q4,q5⟩
      replace bz:=bz.ext hx
      replace hx:=hxz.trans hx
      clear hxz
      refine hKK.out _ _ (hS _ hx) (fun hHeld=>?_)
      clear hKK K
      try dsimp only
      refine tkb 5 ?_
      iterate 3
       refine tkn (v:=?_) rfl (by kernel_rfl) (fun _ _ _ h=>h) (by assumption) ?_ ?_
       rotate_left
       · (intro w hSw;(try dsimp only at hSw);go_simp;try with_reducible rfl)
       try simp only [put_pack]
      refine tke ?_
      refine tk 9 (v:=?_) rfl (by kernel_rfl) (fun _ _ _ h=>h) (by assumption) ?_ ?_
      rotate_left
      · (intro w hSw;(try dsimp only at hSw);go_simp;try with_reducible rfl)
      try simp only [put_pack]
      refine wpAnyH_ready (rs:=[10]) (by kernel_rfl) (by simp) ?_
      refine AllReadyH.cons rfl (fun K hKK=>?_) (AllReadyH.nil)
      have hqz:bq≠V3.heap.size+1:=by simp only [World.size_alloc,World.size_drew] at hbq;omega
      have hne9:∀ (x0 x1 x2 x3:Value),((((y2.setCell ⟨V3.heap.size+1,0,none⟩ x0).setCell ⟨V3.heap.size+1,1,none⟩ x1).setCell ⟨V3.heap.size+1,2,none⟩ x2).setCell ⟨V3.heap.size+1,3,none⟩ x3).heap[bq]?=y2.heap[bq]?:=fun _ _ _ _=>(heap_setCell_ne _ _ hqz).trans ((heap_setCell_ne _ _ hqz).trans ((heap_setCell_ne _ _ hqz).trans (heap_setCell_ne _ _ hqz)))
      have hne9:=Lib.hid hne9
      clear hqz
      have c_bz:=bz.cells
      have hfz:∀ i,y2.frozen? ⟨V3.heap.size+1,i,none⟩=false:=fun i=>by
       have z6:=bz
       unfold Blk at z6
       simp [World.frozen?,z6]
      go_simp
      have hb3:(World.drew V3).heap.size<=V3.heap.size+1:=Nat.le_succ V3.heap.size
      have hf:Blk ((((y2.setCell ⟨V3.heap.size+1,0,none⟩ (.bool true)).setCell ⟨V3.heap.size+1,1,none⟩ (.slice (some ⟨bq,0,none⟩) (n9+2) c9)).setCell ⟨V3.heap.size+1,2,none⟩ (.slice A9m n9m c9m)).setCell ⟨V3.heap.size+1,3,none⟩ (.slice A9l n9l c9l)) (V3.heap.size+1) (.cells #[.bool true,.slice (some ⟨bq,0,none⟩) (n9+2) c9,.slice A9m n9m c9m,.slice A9l n9l c9l] 46):=heap_setCells_all bz [.bool true,.slice (some ⟨bq,0,none⟩) (n9+2) c9,.slice A9m n9m c9m,.slice A9l n9l c9l] rfl
      have hxf:Ext (World.drew V3) ((((y2.setCell ⟨V3.heap.size+1,0,none⟩ (.bool true)).setCell ⟨V3.heap.size+1,1,none⟩ (.slice (some ⟨bq,0,none⟩) (n9+2) c9)).setCell ⟨V3.heap.size+1,2,none⟩ (.slice A9m n9m c9m)).setCell ⟨V3.heap.size+1,3,none⟩ (.slice A9l n9l c9l)):=(((hx.setCell (p:=⟨V3.heap.size+1,0,none⟩) hb3 _).setCell (p:=⟨V3.heap.size+1,1,none⟩) hb3 _).setCell (p:=⟨V3.heap.size+1,2,none⟩) hb3 _).setCell (p:=⟨V3.heap.size+1,3,none⟩) hb3 _
      have hc9:∀ i,((((y2.setCell _ _).setCell _ _).setCell _ _).setCell _ _).cell? ⟨bq,i,none⟩=y2.cell? ⟨bq,i,none⟩:=fun i=>World.cell?_of_block (w:=y2) (a:=⟨bq,i,none⟩) (hne9.out (.bool true) (.slice (some ⟨bq,0,none⟩) (n9+2) c9) (.slice A9m n9m c9m) (.slice A9l n9l c9l))
      have q3:=(hc9 3).trans q3
      have q4:=(hc9 4).trans q4
      have q5:=(hc9 5).trans q5
      have hbl:=(show bq<((((y2.setCell _ _).setCell _ _).setCell _ _).setCell _ _).heap.size from (by simpa using hbl:bq<((((y2.setCell ⟨V3.heap.size+1,0,none⟩ (.bool true)).setCell ⟨V3.heap.size+1,1,none⟩ (.slice (some ⟨bq,0,none⟩) (n9+2) c9)).setCell ⟨V3.heap.size+1,2,none⟩ (.slice A9m n9m c9m)).setCell ⟨V3.heap.size+1,3,none⟩ (.slice A9l n9l c9l)).heap.size))
      clear hc9 hne9 c_bz hfz bz hx
      generalize World.setCell (World.setCell (World.setCell (World.setCell y2 _ _) _ _) _ _) _ _=Y9 at *
      refine hKK.out _ _ (hS _ hxf) (fun hHeld=>?_)
      clear hKK K
      try dsimp only
      refine wpAnyH_done (by kernel_rfl) ?_ _
      go_simp
      go_wp2_with fail
      go_meet
      exact⟨rfl,V3.heap.size+1,bq,n9,c9,A9m,n9m,c9m,A9l,n9l,c9l,rfl,hf,by rw [hV];exact hxf,hbl,q3,q4,q5⟩
  · go_simp
    have bz:Blk (World.alloc (World.drew V3) (.cells #[.bool false,.slice none 0 0,.slice none 0 0,.slice none 0 0] 46)) V3.heap.size (.cells #[.bool false,.slice none 0 0,.slice none 0 0,.slice none 0 0] 46):=Blk.new (World.drew V3) (.cells #[.bool false,.slice none 0 0,.slice none 0 0,.slice none 0 0] 46)
    have hxz:=(Ext.refl (World.drew V3)).alloc (.cells #[.bool false,.slice none 0 0,.slice none 0 0,.slice none 0 0] 46)
    refine hKK.out _ _ (hS _ hxz) (fun hHeld=>?_)
    clear hKK K
    try dsimp only
    refine wpAnyH_ready (rs:=[3]) (by kernel_rfl) (by simp) ?_
    refine AllReadyH.cons rfl (fun K hKK=>?_) (AllReadyH.nil)
    go_simp
    have hIb:=hI3 (World.alloc (World.drew V3) (.cells #[.bool false,.slice none 0 0,.slice none 0 0,.slice none 0 0] 46))
    replace bz:=bz.alloc (.cells ((zeros 3).map (Value.int .i64)).toArray 3)
    replace hxz:=hxz.alloc (.cells ((zeros 3).map (Value.int .i64)).toArray 3)
    refine hKK.out _ _ (hS _ hxz) (fun hHeld=>?_)
    clear hKK K
    try dsimp only
    refine wpAnyH_ready (rs:=[4]) (by kernel_rfl) (by simp) ?_
    refine AllReadyH.cons rfl (fun K hKK=>?_) (AllReadyH.nil)
    go_simp
    refine (hPl _ _ hxz (by simp <;> omega) (by simpa using hIb)).mono ?_
    rintro e y2 ⟨bq,n9,c9,A9m,n9m,c9m,A9l,n9l,c9l,rfl,hx,hbq,hbl,q3,q4,q5⟩
    replace bz:=bz.ext hx
    replace hx:=hxz.trans hx
    clear hxz
    refine hKK.out _ _ (hS _ hx) (fun hHeld=>?_)
    clear hKK K
    try dsimp only
    refine tkb 5 ?_
    iterate 3
     refine tkn (v:=?_) rfl (by kernel_rfl) (fun _ _ _ h=>h) (by assumption) ?_ ?_
     rotate_left
     · (intro w hSw;(try dsimp only at hSw);go_simp;try with_reducible rfl)
     try simp only [put_pack]
    refine tke ?_
    refine tk 9 (v:=?_) rfl (by kernel_rfl) (fun _ _ _ h=>h) (by assumption) ?_ ?_
    rotate_left
    · (intro w hSw;(try dsimp only at hSw);go_simp;try with_reducible rfl)
    try simp only [put_pack]
    refine wpAnyH_ready (rs:=[10]) (by kernel_rfl) (by simp) ?_
    refine AllReadyH.cons rfl (fun K hKK=>?_) (AllReadyH.nil)
    have hqz:bq≠V3.heap.size:=by simp only [World.size_alloc,World.size_drew] at hbq;omega
    have hne9:∀ (x0 x1 x2 x3:Value),((((y2.setCell ⟨V3.heap.size,0,none⟩ x0).setCell ⟨V3.heap.size,1,none⟩ x1).setCell ⟨V3.heap.size,2,none⟩ x2).setCell ⟨V3.heap.size,3,none⟩ x3).heap[bq]?=y2.heap[bq]?:=fun _ _ _ _=>(heap_setCell_ne _ _ hqz).trans ((heap_setCell_ne _ _ hqz).trans ((heap_setCell_ne _ _ hqz).trans (heap_setCell_ne _ _ hqz)))
    have hne9:=Lib.hid hne9
    clear hqz
    have c_bz:=bz.cells
    have hfz:∀ i,y2.frozen? ⟨V3.heap.size,i,none⟩=false:=fun i=>by
     have z6:=bz
     unfold Blk at z6
     simp [World.frozen?,z6]
    go_simp
    have hb3:(World.drew V3).heap.size<=V3.heap.size:=Nat.le_refl _
    have hf:Blk ((((y2.setCell ⟨V3.heap.size,0,none⟩ (.bool true)).setCell ⟨V3.heap.size,1,none⟩ (.slice (some ⟨bq,0,none⟩) (n9+2) c9)).setCell ⟨V3.heap.size,2,none⟩ (.slice A9m n9m c9m)).setCell ⟨V3.heap.size,3,none⟩ (.slice A9l n9l c9l)) (V3.heap.size) (.cells #[.bool true,.slice (some ⟨bq,0,none⟩) (n9+2) c9,.slice A9m n9m c9m,.slice A9l n9l c9l] 46):=heap_setCells_all bz [.bool true,.slice (some ⟨bq,0,none⟩) (n9+2) c9,.slice A9m n9m c9m,.slice A9l n9l c9l] rfl
    have hxf:Ext (World.drew V3) ((((y2.setCell ⟨V3.heap.size,0,none⟩ (.bool true)).setCell ⟨V3.heap.size,1,none⟩ (.slice (some ⟨bq,0,none⟩) (n9+2) c9)).setCell ⟨V3.heap.size,2,none⟩ (.slice A9m n9m c9m)).setCell ⟨V3.heap.size,3,none⟩ (.slice A9l n9l c9l)):=(((hx.setCell (p:=⟨V3.heap.size,0,none⟩) hb3 _).setCell (p:=⟨V3.heap.size,1,none⟩) hb3 _).setCell (p:=⟨V3.heap.size,2,none⟩) hb3 _).setCell (p:=⟨V3.heap.size,3,none⟩) hb3 _
    have hc9:∀ i,((((y2.setCell _ _).setCell _ _).setCell _ _).setCell _ _).cell? ⟨bq,i,none⟩=y2.cell? ⟨bq,i,none⟩:=fun i=>World.cell?_of_block (w:=y2) (a:=⟨bq,i,none⟩) (hne9.out (.bool true) (.slice (some ⟨bq,0,none⟩) (n9+2) c9) (.slice A9m n9m c9m) (.slice A9l n9l c9l))
    have q3:=(hc9 3).trans q3
    have q4:=(hc9 4).trans q4
    have q5:=(hc9 5).trans q5
    have hbl:=(show bq<((((y2.setCell _ _).setCell _ _).setCell _ _).setCell _ _).heap.size from (by simpa using hbl:bq<((((y2.setCell ⟨V3.heap.size,0,none⟩ (.bool true)).setCell ⟨V3.heap.size,1,none⟩ (.slice (some ⟨bq,0,none⟩) (n9+2) c9)).setCell ⟨V3.heap.size,2,none⟩ (.slice A9m n9m c9m)).setCell ⟨V3.heap.size,3,none⟩ (.slice A9l n9l c9l)).heap.size))
    clear hc9 hne9 c_bz hfz bz hx
    generalize World.setCell (World.setCell (World.setCell (World.setCell y2 _ _) _ _) _ _) _ _=Y9 at *
    refine hKK.out _ _ (hS _ hxf) (fun hHeld=>?_)
    clear hKK K
    try dsimp only
    refine wpAnyH_done (by kernel_rfl) ?_ _
    go_simp
    go_wp2_with fail
    go_meet
    exact⟨rfl,V3.heap.size,bq,n9,c9,A9m,n9m,c9m,A9l,n9l,c9l,rfl,hf,by rw [hV];exact hxf,hbl,q3,q4,q5⟩
 case rest =>
 obtain⟨rfl,bx,bq,n9,c9,A9m,n9m,c9m,A9l,n9l,c9l,rfl,o4,hx,hbl,q3,q4,q5⟩:=hcut
 rw [hV] at hx r1 r2 r3 b1 hX9 o1
 clear hPl hS hV hmk3
 replace hX:=hX9.trans hx
 replace r1:=r1.ext hx
 replace r2:=r2.ext hx
 replace r3:=r3.ext hx
 replace o1:=o1.ext hx
 replace b1:=b1.ext hx
 clear hx hX9
 go_wp2_with fail
 have hPl:=play_err 36 #[.pointer (some ⟨bk,0,none⟩)] (Prog.ret 9) none 0 [] none 0 [] wc (Ints.nil _) (by simp) (Ints.nil _) (by simp [maxAns]) (fun k hk=>by simp [Value.ownBlock] at hk) (fun _ _=>rfl) (fun W p hxW hP=>onal5 _ p 8 _ bk W hP (by decide) (by decide) rfl (b1.ext hxW))
 rw [show (Prog.ret 9).run (TS0 [] [])=(some (9:Int),TS0 [] []) from rfl] at hPl
 generalize TS0 [] []=S5 at *
 simp only [Option.getD_some,Option.isSome_some,List.length_nil] at hPl
 refine hPl.mono ?_
 clear hPl
 rintro e y5 ⟨v5,rfl,hO,hx5⟩
 obtain⟨A5,c5,D5,d5,vs5,L5,rfl,hO5⟩:=hO
 obtain⟨E5,k5,hvs5,_,_⟩:=hO5.locs.slice
 subst hvs5
 generalize (shortL L5).length=n5 at *
 clear hO5
 unfold outV
 have hxq:=hx5.trans ((Ext.refl y5).alloc (.cells #[.bool true,.slice A5 S5.acc.length c5,.slice D5 S5.nts.length d5,.slice E5 n5 k5] 46))
 replace hX:=hX.trans hxq
 replace r1:=r1.ext hxq
 replace r2:=r2.ext hxq
 replace r3:=r3.ext hxq
 replace o4:=o4.ext hxq
 replace q3:=(hxq.cell (p:=⟨bq,3,none⟩) hbl).trans q3
 replace q4:=(hxq.cell (p:=⟨bq,4,none⟩) hbl).trans q4
 replace q5:=(hxq.cell (p:=⟨bq,5,none⟩) hbl).trans q5
 replace o1:=o1.ext hxq
 clear hx5 hxq b1 hbl
 go_upto_region 7 with fail
 generalize World.alloc y5 _=V5 at *
 have c_r1:=r1.cells
 have c_r2:=r2.cells
 have c_r3:=r3.cells
 have c_o4:=o4.cells
 have c_o1:=o1.cells
 have hn9:(1:Int)<(n9:Int)+2:=by omega
 go_wp2_with fail
 refine (strips39 _).mono ?_
 rintro e w5 ⟨b5,rfl,hx5⟩
 clear c_r1 c_r2 c_r3 c_o4 c_o1 o1 r1 r2 r3 o4 q3 q4 q5
 replace hX:=hX.trans hx5
 clear hx5
 go_wp2_with fail
 refine (locals39 _).mono ?_
 rintro e w7 ⟨rfl,hx7⟩
 have hf:=Lib.hid (hX.trans hx7)
 clear hx7 hX
 go_wp2_with fail
 first | exact⟨rfl,hf.out⟩ | (go_ret;exact⟨rfl,hf.out⟩) | (go_ret2;exact⟨rfl,hf.out⟩)
end Go.Proofs.YtmmmiplmiooioaaGreat
namespace Go.Proofs.YtmmmiplmiooioaaGreat
open Go.ChangeShapes Go.WideShapes Go.ChangeAt Go.RowKit Kv
def U8s (w:World) (v:Value) (l:List Int):Prop :=
 ∃ A c,v=.slice A l.length c/\l.length<=c/\c<=9223372036854775807/\(l≠[]->∃ b off,A=some ⟨b,off,none⟩/\b<w.heap.size/\∀ i x,l[i]?=some x->w.cell? ⟨b,off+i,none⟩=some (.int .u8 x))
theorem U8s.ext {w w':World}{v:Value}{l:List Int}(h:U8s w v l)(hx:Ext w w'):U8s w' v l:=by
 obtain⟨A,c,rfl,h1,h2,h3⟩:=h
 refine⟨A,c,rfl,h1,h2,fun hl=>?_⟩
 obtain⟨b,off,rfl,hb,hc⟩:=h3 hl
 exact⟨b,off,rfl,Nat.lt_of_lt_of_le hb (Ext.size hx),fun i x hi=>(Ext.cell hx (p:=⟨b,off+i,none⟩) hb).trans (hc i x hi)⟩
theorem U8s.at_ {w:World}{A:Option Addr}{n c:Nat}{l:List Int}(h:U8s w (.slice A n c) l){i:Nat}{x:Int}(hi:l[i]?=some x) :
  ∃ b off,A=some ⟨b,off,none⟩/\b<w.heap.size/\w.cell? ⟨b,off+i,none⟩=some (.int .u8 x):=by
 obtain⟨A',c',he,h1,h2,h3⟩:=h
 injection he with e1 e2 e3
 subst e1 e2 e3
 have hl:l≠[]:=by rintro rfl;simp at hi
 obtain⟨b,off,rfl,hb,hc⟩:=h3 hl
 exact⟨b,off,rfl,hb,hc i x hi⟩
theorem cellsByte:Tryz.prog.cellsOf 5=1:=by kernel_rfl
set_option maxRecDepth 100000 in
theorem bytes_arg {H:Type}{enc:TypeId × Value->H}{W:World}{b0:Nat}{r:Reach}{v:Value}{d:DataW H}{p:List MemPlace}
  (hv:Value.okWide Tryz.prog W r b0 22 v)(h:DataW.Trod enc Tryz.prog W 0 (fun _=>true) true 22 v d p) :
  ∃ l,U8s W v l/\∀ x∈l,0<=x/\x<256:=by
 obtain⟨a0,len,cap,rfl⟩:=okWide_slice Tryz.underlying22 hv
 obtain⟨fuel,hf⟩:=h
 rcases open_ints Tryz.underlying22 Tryz.underlying5 cellsByte hf with⟨hcs,hx⟩ | ⟨a,len',cap',zs,hcs,_,hl,hm,hz,hx,hcell,hwz⟩
 · simp [Value.cells] at hcs
   obtain⟨rfl,rfl,rfl⟩:=hcs
   exact⟨[],⟨none,0,rfl,by simp,by omega,fun h=>absurd rfl h⟩,by simp⟩
 · simp [Value.cells] at hcs
   obtain⟨rfl,rfl,rfl⟩:=hcs
   simp only [if_true] at hz
   refine⟨zs.take len,?_,fun x hx=>by have:=bounds_u8 (hwz x (List.mem_of_mem_take hx));omega⟩
   have hlen:(zs.take len).length=len:=by rw [List.length_take];omega
   refine⟨some a,cap,by rw [hlen],by omega,by unfold maxLen at hm;exact hm,fun hne=>?_⟩
   have hpos:0<zs.length:=by
    rcases Nat.eq_zero_or_pos zs.length with h0 | h0
    · have:zs=[]:=List.eq_nil_of_length_eq_zero h0
      subst this
      simp at hne
    · exact h0
   obtain⟨b,off,rfl,hc⟩:=ints_at hcell hpos
   refine⟨b,off,rfl,cell_lt (hc 0 hpos),fun i x hi=>?_⟩
   have hi2:i<zs.length:=by
    have:=(List.getElem?_eq_some_iff.1 hi).1
    rw [List.length_take] at this
    omega
   rw [hc i hi2]
   have hi3:i<len:=by
    have:=(List.getElem?_eq_some_iff.1 hi).1
    omega
   rw [List.getElem?_take,if_pos hi3] at hi
   rw [List.getD_eq_getElem?_getD,hi]
   rfl
end Go.Proofs.YtmmmiplmiooioaaGreat
