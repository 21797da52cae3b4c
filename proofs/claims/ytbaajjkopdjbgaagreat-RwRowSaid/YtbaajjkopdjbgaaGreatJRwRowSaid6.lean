/-
  RwRowSaid: part 6 of its proof.
-/
import Derived.Test.YtbaajjkopdjbgaaGreatJRwRowSaid5
import Derived.Deep.Upon
import Derived.Deep.DeepCutAuto
open Go.Value renaming int -> V
open Go.IntKind renaming i64 -> Z
namespace Kv
inductive Prog.Sets {α:Type} (lo hi:Int):Prog α->Prop
 | ret (a:α):Sets lo hi (.ret a)
 | read (c:Int) {k:Int->Prog α}:(∀ x,Sets lo hi (k x))->Sets lo hi (.read c k)
 | write (c v:Int) {k:Unit->Prog α}:Sets lo hi (k ())->Sets lo hi (.write c v k)
 | get (i:Int) {k:Int->Prog α}:(∀ x,Sets lo hi (k x))->Sets lo hi (.get i k)
 | set (i v:Int) {k:Unit->Prog α}:lo<=i->i<hi->Sets lo hi (k ())->Sets lo hi (.set i v k)
 | note (m:Int) {k:Unit->Prog α}:Sets lo hi (k ())->Sets lo hi (.note m k)
theorem Prog.Sets.bind {α β:Type}{lo hi:Int}{p:Prog α}{f:α->Prog β}(h:p.Sets lo hi)(hf:∀ a,(f a).Sets lo hi):(p.bind f).Sets lo hi:=by
 induction h with
 | ret a=>exact hf a
 | read c _ ih=>exact .read c fun x=>ih x
 | write c v _ ih=>exact .write c v ih
 | get c _ ih=>exact .get c fun x=>ih x
 | set c v h1 h2 _ ih=>exact .set c v h1 h2 ih
 | note m _ ih=>exact .note m ih
theorem Prog.Sets.mono {α:Type}{lo hi lo' hi':Int}{p:Prog α}(h:p.Sets lo hi)(h1:lo'<=lo)(h2:hi<=hi'):p.Sets lo' hi':=by
 induction h with
 | ret a=>exact .ret a
 | read c _ ih=>exact .read c fun x=>ih x
 | write c v _ ih=>exact .write c v ih
 | get c _ ih=>exact .get c fun x=>ih x
 | set c v h3 h4 _ ih=>exact .set c v (by omega) (by omega) ih
 | note m _ ih=>exact .note m ih
theorem Prog.Sets.got {α:Type}{lo hi i:Int}{p:Prog α}(h:p.Sets lo hi)(hi2:i<lo∨hi<=i):∀ S:TS,(p.run S).2.got i=S.got i:=by
 induction h with
 | ret a=>intro S;rfl
 | read c _ ih =>
   intro S
   simp only [Prog.run]
   cases S.next with
   | none=>rfl
   | some v=>exact (ih v _).trans rfl
 | write c v _ ih =>
   intro S
   simp only [Prog.run]
   cases S.next with
   | none=>rfl
   | some _=>exact (ih _).trans rfl
 | get c _ ih=>intro S;exact ih _ _
 | set j v h1 h2 _ ih =>
   intro S
   refine (ih (S.upd j v)).trans ?_
   unfold TS.got TS.upd
   split
   · rfl
   · split
     · simp only
       rw [if_neg (by omega)]
     · rfl
 | note m _ ih=>intro S;exact (ih _).trans rfl
theorem sets_rd (lo hi c:Int):(rd c).Sets lo hi:=.read c fun x=>.ret x
theorem sets_wr (lo hi c v:Int):(wr c v).Sets lo hi:=.write c v (.ret ())
theorem sets_gt (lo hi c:Int):(gt c).Sets lo hi:=.get c fun x=>.ret x
theorem sets_st {lo hi c:Int}(v:Int)(h1:lo<=c)(h2:c<hi):(st c v).Sets lo hi:=.set c v h1 h2 (.ret ())
theorem sets_forP {σ:Type}{lo hi:Int}{T:Int->σ->Prog σ}:∀ (l:List Int),(∀ a∈l,∀ x,(T a x).Sets lo hi)->∀ x:σ,(forP T l x).Sets lo hi
 | [],_,x=>.ret x
 | a :: l,h,x=>(h a (List.mem_cons_self ..) x).bind fun y=>sets_forP l (fun b hb=>h b (List.mem_cons_of_mem _ hb)) y
theorem ranks_mem {but:Int}:∀ (n:Nat) (i:Int) {a:Int},a∈ranksFrom but n i->i<=a/\a<i+n/\a≠but
 | 0,i,a,h=>by cases h
 | n+1,i,a,h=>by
   unfold ranksFrom at h
   split at h
   · have:=ranks_mem n (i+1) h
     omega
   · rcases List.mem_cons.1 h with rfl | h
     · omega
     · have:=ranks_mem n (i+1) h
       omega
theorem otherM_bd (v:Int):0<=otherM v/\otherM v<=1:=by unfold otherM;split <;> omega
theorem bitM_bd (v:Int):0<=bitM v/\bitM v<=1:=by unfold bitM;split <;> omega
theorem sets_trompW (b l v:Int):(trompW b l v).Sets l (l+4):=by
 refine (sets_gt _ _ _).bind fun x=>?_
 split
 · exact .ret _
 · refine (sets_wr _ _ _ _).bind fun _=>(sets_st _ (by omega) (by omega)).bind fun _=>(sets_gt _ _ _).bind fun _=>(sets_rd _ _ _).bind fun _=>?_
   split
   · exact (sets_wr _ _ _ _).bind fun _=>sets_st _ (by omega) (by omega)
   · exact .ret _
theorem sets_trompR3 (b l x:Int):(trompR3 b l x).Sets l (l+4):=by
 refine (sets_rd _ _ _).bind fun _=>(sets_st _ (by omega) (by omega)).bind fun _=>(sets_rd _ _ _).bind fun _=>(sets_gt _ _ _).bind fun _=>?_
 split
 · exact sets_gt _ _ _
 · exact (sets_rd _ _ _).bind fun _=>(sets_st _ (by omega) (by omega)).bind fun _=>.ret _
theorem sets_trompR2 (b l x:Int):(trompR2 b l x).Sets l (l+4):=by
 refine (sets_rd _ _ _).bind fun _=>(sets_gt _ _ _).bind fun _=>?_
 split
 · exact sets_trompR3 _ _ _
 · exact (sets_gt _ _ _).bind fun _=>(sets_wr _ _ _ _).bind fun _=>(sets_st _ (by omega) (by omega)).bind fun _=>sets_trompR3 _ _ _
theorem sets_trompR (b l:Int):(trompR b l).Sets l (l+4):=by
 refine (sets_rd _ _ _).bind fun _=>(sets_gt _ _ _).bind fun _=>?_
 split
 · exact sets_gt _ _ _
 · exact (sets_rd _ _ _).bind fun _=>sets_trompR2 _ _ _
theorem sets_slotsW (b l v:Int):(slotsW b l v).Sets l (l+18):=by
 refine ((sets_trompR _ _).mono (by omega) (by omega)).bind fun y=>(sets_gt _ _ _).bind fun z=>(sets_wr _ _ _ _).bind fun _=>?_
 have:=otherM_bd y
 refine (sets_st _ (by omega) (by omega)).bind fun _=>((sets_trompW _ _ _).mono (by omega) (by omega)).bind fun _=>(sets_trompW _ _ _).mono (by omega) (by omega)
theorem sets_slotsR (b l:Int):(slotsR b l).Sets l (l+18):=by
 refine ((sets_trompR _ _).mono (by omega) (by omega)).bind fun y=>((sets_trompW _ _ _).mono (by omega) (by omega)).bind fun _=>?_
 have:=bitM_bd y
 exact ((sets_trompR _ _).mono (by omega) (by omega)).bind fun _=>sets_rd _ _ _
theorem tells_bd {k a b:Int}(ha:0<=a)(ha2:a<k)(hb:0<=b)(hb2:b<k)(hab:a≠b):0<=tellsM k a b/\tellsM k a b<k*k:=by
 unfold tellsM
 have h1:a*(k-1)<=(k-1)*(k-1):=Int.mul_le_mul_of_nonneg_right (by omega) (by omega)
 have h0:0<=a*(k-1):=Int.mul_nonneg ha (by omega)
 have h2:(k-1)*(k-1)=k*k-2*k+1:=by
  rw [Int.sub_mul,Int.mul_sub,Int.mul_one,Int.one_mul];omega
 split
 · omega
 · rename_i h
   by_cases e:a=k-1
   · omega
   · have h3:a*(k-1)<=(k-2)*(k-1):=Int.mul_le_mul_of_nonneg_right (by omega) (by omega)
     have h4:(k-2)*(k-1)=k*k-3*k+2:=by
      rw [Int.sub_mul,Int.mul_sub,Int.mul_one];omega
     omega
theorem rankM_bd {n w me:Int}(hw:0<=w)(hw2:w<n)(hm:0<=me)(hm2:me<n)(h:me≠w):0<=rankM w me/\rankM w me<n-1:=by
 unfold rankM
 split <;> omega
theorem sets_tableR {b l n w top me:Int}(hw:0<=w)(hw2:w<n)(hm:0<=me)(hm2:me<n):(tableR b l n w top me).Sets l (l+(2+18*((n-1)*(n-1)))):=by
 unfold tableR
 split
 · exact sets_gt _ _ _
 · rename_i h
   obtain⟨r1,r2⟩:=rankM_bd hw hw2 hm hm2 h
   have hk:n-1<=(n-1)*(n-1):=by
    have:=Int.mul_le_mul_of_nonneg_right (show 1<=n-1 by omega) (show 0<=n-1 by omega)
    omega
   refine ((sets_slotsR _ _).mono (by omega) (by omega)).bind fun x=>(sets_forP _ (fun i hi y=>?_) _).bind fun x=>(sets_forP _ (fun i hi y=>?_) _).bind fun _=>.ret _
   · obtain⟨i1,i2,i3⟩:=ranks_mem _ _ hi
     obtain⟨t1,t2⟩:=tells_bd (k:=n-1) (a:=i) (b:=rankM w me) i1 (by omega) r1 r2 i3
     exact ((sets_slotsR _ _).mono (by omega) (by omega)).bind fun _=>.ret _
   · obtain⟨i1,i2,i3⟩:=ranks_mem _ _ hi
     obtain⟨t1,t2⟩:=tells_bd (k:=n-1) (a:=rankM w me) (b:=i) r1 r2 i1 (by omega) (fun e=>i3 e.symm)
     exact (sets_slotsW _ _ _).mono (by omega) (by omega)
end Kv
namespace Go.Proofs.YtbaajjkopdjbgaaGreat
open Go.RowKit Kv
def EndAtE (B:Nat) (w w':World) (bg bo:Nat) (v:Value) (d:Bool) (S:TS):Prop :=
 w'.heap[bg]?=some (.cells #[v] 26 (0,0))/\(∃ vC vN vs,w'.heap[bo]?=some (.cells #[.bool d,vC,vN,vs] 30 (0,0))/\Outs w' (.agg #[.bool d,vC,vN,vs]) d S/\(∀ b,vs.ownBlock=some b->B<=b))/\Below B w w'
set_option maxRecDepth 100000 in
set_option maxHeartbeats 1000000 in
theorem end_okE (B p:Nat)(S:TS)(bm bg bo:Nat)(v:Value)(w:World)(h:Plays B w p S)(hm:HeldP w p bm (.cells #[.pointer (some ⟨p,0,none⟩)] 33 (0,0)))(hg:HeldP w p bg (.cells #[v] 26 (0,0)))
  (ho:HeldP w p bo (.cells #[.bool false,.slice none 0 0,.slice none 0 0,.slice none 0 0] 30 (0,0)))(hB2:B<=bo) :
  CallsD Tryz.prog 86 #[.pointer (some ⟨bm,0,none⟩),.pointer (some ⟨bg,0,none⟩),.pointer (some ⟨bo,0,none⟩)] .returning w fun e u' w'=>e=.returned (.tuple #[])/\u'=.returning/\EndAtE B w w' bg bo v true S:=by
 obtain⟨h1,vA,vL,vC,vN,L,h⟩:=h
 have hc:=cell_of_heap h.heap
 have hfz:=frozen_of_heap h.heap
 have cm:=hm.cells
 refine callsD_of_wpS Tryz.func86 rfl fun c₀ cs hu=>?_
 simp only [Tryz.ntmps86,List.size_toArray,List.length_cons,List.length_nil,Nat.reduceAdd,Nat.reduceSub,Array.replicate_succ,Array.replicate_zero,List.push_toArray,List.append_toArray,List.nil_append,List.cons_append]
 apply wpS_seq
 refine wpS_of_wp ?_
 go_wp2_with fail
 simp only [Exit.thenS]
 apply wpS_seq
 refine wpS_of_wp ?_
 go_wp2_with fail
 simp only [Exit.thenS]
 obtain⟨HM,HK⟩:=h.state 0
 have hmh:=Hd (hm.keep HK)
 have hgh:=Hd (hg.keep HK).1
 have hoh:=Hd (ho.keep HK)
 have hq:=cell_of_heap HM.heap
 have cm2:=hmh.out.cells
 have HMh:=Hd HM
 have hbel:=Hd HK.below
 clear HM HK hc hfz cm hm hg ho h
 generalize w.setCell ⟨p,0,none⟩ (V Z 0)=W at *
 apply wpS_seq
 apply wpS_seq
 apply wpS_region
 simp [wpOpsS,go_sem,recoverD,hu,Exit.thenS]
 refine wpS_of_wp ?_
 go_wp2_with fail
 simp only [Exit.thenS]
 refine wpS_of_wp ?_
 go_wp2_with fail
 have hI:Ints W vL L:=IntRow.ints HMh.out.rowL
 obtain⟨Al,cl,rfl,q1,q2⟩:=hI.slice
 have hIh:=Hd hI
 obtain⟨Ac,cc,rfl,-,-,-⟩:=vals_row HMh.out.rowC
 obtain⟨An,cn,rfl,-,-,-⟩:=vals_row HMh.out.rowN
 have hlen:=HMh.out.locN;have hplt:=HMh.out.lt;have hmlt:=hmh.out.lt;clear hI
 have hpo:p≠bo:=fun e=>hoh.out.2 (.inl e.symm)
 have hmo:bm≠bo:=fun e=>by
  have h1:=hmh.out.1;rw [e,hoh.out.1] at h1
  injection h1 with h1
  injection h1 with _ h2
  cases h2
 have hlo:(Value.slice Al L.length cl).ownBlock≠some bo:=row_not HMh.out.rowL hoh.out.1 (by decide)
 have hS:∀ w',Near W bo 4 30 w'->((∀ i,w'.cell? ⟨p,i,none⟩=(#[V Z 0,vA,.slice Al L.length cl,.slice Ac S.acc.length cc,.slice An S.nts.length cn]:Array Value)[i]?)/\(∀ i,w'.cell? ⟨bm,i,none⟩=(#[.pointer (some ⟨p,0,none⟩)]:Array Value)[i]?)/\(∀ i,w'.cell? ⟨bo,i,none⟩=(#[cellD w' bo 0,cellD w' bo 1,cellD w' bo 2,cellD w' bo 3]:Array Value)[i]?)/\(∀ i,w'.frozen? ⟨bo,i,none⟩=false)/\Near W bo 4 30 w'):=fun w' hx =>
  ⟨fun i=>(hx.cell hplt hpo).trans (hq i),fun i=>(hx.cell hmlt hmo).trans (cm2 i),hx.four,hx.frozen,hx⟩
 have hN:Near W bo 4 30 W:=Near.new hoh.out.1 rfl
 go_region_held2 (fun w'=>(∀ i,w'.cell? ⟨p,i,none⟩=(#[V Z 0,vA,.slice Al L.length cl,.slice Ac S.acc.length cc,.slice An S.nts.length cn]:Array Value)[i]?)/\(∀ i,w'.cell? ⟨bm,i,none⟩=(#[.pointer (some ⟨p,0,none⟩)]:Array Value)[i]?)/\(∀ i,w'.cell? ⟨bo,i,none⟩=(#[cellD w' bo 0,cellD w' bo 1,cellD w' bo 2,cellD w' bo 3]:Array Value)[i]?)/\(∀ i,w'.frozen? ⟨bo,i,none⟩=false)/\Near W bo 4 30 w') (first | exact hS _ hN.drew | (refine hS _ ?_;(repeat refine Near.set ?_ _ _);exact hN.drew.ext h2))
  (first
    | (go_at_call 87
       refine (tshort_p Al cl L _ (hIh.out.ext (Ext.refl W).drew) q1 q2 (by omega)).mono ?_
       rintro e w' ⟨v',rfl,h1,h2⟩
       obtain⟨As,cs,rfl,hs1,hs2⟩:=h1.ints.slice))
 have f3:∀ b,(Value.slice As (shortL L).length cs).ownBlock=some b->B<=b:=fun b hb=>by
  have q1:=(h1.lt b hb).1
  have q2:=HMh.out.ge;have q3:=HMh.out.lt
  rw [World.size_drew] at q1
  omega
 obtain⟨f1,f2⟩:=end_out (d:=true) HMh.out hoh.out.1 ((Ext.refl W).drew.trans h2) h1
 have fg:bg≠bo:=fun e=>by
  have h1:=hgh.out;rw [e,hoh.out.1] at h1
  injection h1 with h1
  injection h1 with _ h2
  cases h2
 refine⟨rfl,FrameMode.returning,(by cases c₀;simp only at hu;subst hu;rfl),.tuple #[],(by simp [results,Tryz.results86,go_sem]),rfl,rfl,?_,⟨_,_,_,f1,f2,f3⟩,?_⟩
 · rw [heap_setCell_ne _ _ fg,heap_setCell_ne _ _ fg,heap_setCell_ne _ _ fg,heap_setCell_ne _ _ fg]
   exact (Below.block ((Ext.refl W).drew.trans h2) bg (Array.getElem?_eq_some_iff.1 hgh.out).1).trans hgh.out
 · exact ((((hN.drew.ext h2).set _ _).set _ _).set _ _ |>.set _ _).below hbel.out hB2 (by have:=HMh.out.ge;omega)
set_option maxRecDepth 100000 in
set_option maxHeartbeats 1000000 in
theorem end_stopE (B p:Nat)(S:TS)(bm bg bo:Nat)(v:Value)(older:List PanicEntry)(w:World)(h:Stops B w p S)(hm:HeldP w p bm (.cells #[.pointer (some ⟨p,0,none⟩)] 33 (0,0)))(hg:HeldP w p bg (.cells #[v] 26 (0,0)))
  (ho:HeldP w p bo (.cells #[.bool false,.slice none 0 0,.slice none 0 0,.slice none 0 0] 30 (0,0)))(hB1:B<=bg)(hB2:B<=bo) :
  CallsD Tryz.prog 86 #[.pointer (some ⟨bm,0,none⟩),.pointer (some ⟨bg,0,none⟩),.pointer (some ⟨bo,0,none⟩)] (.panicking ({ v:=.iface 92 (.agg #[.pointer (some ⟨p,0,none⟩)]),recovered:=false } :: older)) w fun e u' w' =>
   e=.returned (.tuple #[])/\u'=.panicking ({ v:=.iface 92 (.agg #[.pointer (some ⟨p,0,none⟩)]),recovered:=true } :: older)/\EndAtE B w w' bg bo (V Z 0) false S:=by
 obtain⟨vA,vL,vC,vN,L,h⟩:=h
 have hc:=cell_of_heap h.heap
 have hfz:=frozen_of_heap h.heap
 have cm:=hm.cells
 refine callsD_of_wpS Tryz.func86 rfl fun c₀ cs hu=>?_
 simp only [Tryz.ntmps86,List.size_toArray,List.length_cons,List.length_nil,Nat.reduceAdd,Nat.reduceSub,Array.replicate_succ,Array.replicate_zero,List.push_toArray,List.append_toArray,List.nil_append,List.cons_append]
 apply wpS_seq
 refine wpS_of_wp ?_
 go_wp2_with fail
 simp only [Exit.thenS]
 apply wpS_seq
 refine wpS_of_wp ?_
 go_wp2_with fail
 simp only [Exit.thenS]
 obtain⟨HM,HK⟩:=h.state 0
 have hm2:=hm.keep HK
 have hg2:=hg.keep HK
 have ho2:=ho.keep HK
 clear hc hfz cm hm hg ho h
 generalize w.setCell ⟨p,0,none⟩ (V Z 0)=W0 at *
 have hX:=(Ext.refl W0).alloc (.cells #[.agg #[.pointer (some ⟨p,0,none⟩)]] 92)
 have hq0:=cell_of_heap HM.heap
 have cm0:=hm2.cells
 have hqa:Hid (∀ O,∀ i,(W0.alloc O).cell? ⟨bm,i,none⟩=(#[.pointer (some ⟨p,0,none⟩)]:Array Value)[i]?):=Hd fun O i=>(((Ext.refl W0).alloc O).cell (p:=⟨bm,i,none⟩) hm2.lt).trans (hm2.cells i)
 have cma:=hqa.out
 have fga:=frozen_of_heap hg2.1
 have cg0:=hg2.cells
 have W0lt:=hg2.lt
 have fgb:Hid (∀ O i,(W0.alloc O).frozen? ⟨bg,i,none⟩=false):=Hd fun O i=>frozen_of_heap ((Below.block ((Ext.refl W0).alloc O) bg hg2.lt).trans hg2.1) i
 have cgb:Hid (∀ O i,(W0.alloc O).cell? ⟨bg,i,none⟩=(#[v]:Array Value)[i]?):=Hd fun O i=>(((Ext.refl W0).alloc O).cell (p:=⟨bg,i,none⟩) hg2.lt).trans (hg2.cells i)
 have fgb':=fgb.out;have cgb':=cgb.out
 have HMh0:=Hd HM
 have HKh:=Hd HK
 have hmh0:=Hd hm2
 have hgh0:=Hd hg2
 have hoh0:=Hd ho2
 clear HM HK hm2 hg2 ho2
 apply wpS_seq
 apply wpS_seq
 apply wpS_region
 simp [wpOpsS,go_sem,recoverD,hu,Exit.thenS]
 refine wpS_of_wp ?_
 go_wp2_with fail
 simp only [Exit.thenS]
 refine wpS_of_wp ?_
 go_wp2_with fail
 have hgp:=hgh0.out.2
 have hmg:bm≠bg:=fun e=>by
  have h1:=hmh0.out.1;rw [e,hgh0.out.1] at h1
  injection h1 with h1
  injection h1 with _ h2
  cases h2
 have hog:bo≠bg:=fun e=>by
  have h1:=hoh0.out.1;rw [e,hgh0.out.1] at h1
  injection h1 with h1
  injection h1 with _ h2
  cases h2
 have HM1:=HMh0.out.setO hgp hB1 0 (V Z 0)
 have hm1:=hmh0.out.setO hmg hgp 0 (V Z 0)
 have ho1:=hoh0.out.setO hog hgp 0 (V Z 0)
 have hg1:=heap_setCell (i:=0) hgh0.out.1 (V Z 0)
 have hb1:Below B w (W0.setCell ⟨bg,0,none⟩ (V Z 0)):=Below.setCell HKh.out.below (by show B<=bg;exact hB1) _
 have HMh:=Hd (HM1.ext ((Ext.refl _).alloc (.cells #[.pointer (some ⟨p,0,none⟩)] 92)))
 have hmh:=Hd (hm1.alloc (.cells #[.pointer (some ⟨p,0,none⟩)] 92) HM1.lt)
 have hoh:=Hd (ho1.alloc (.cells #[.pointer (some ⟨p,0,none⟩)] 92) HM1.lt)
 have hgh:=Hd ((Below.block ((Ext.refl _).alloc (.cells #[.pointer (some ⟨p,0,none⟩)] 92)) bg (Array.getElem?_eq_some_iff.1 hg1).1).trans hg1)
 have hbel:=Hd (Below.alloc hb1 (by have:=HM1.ge;have:=HM1.lt;omega) (.cells #[.pointer (some ⟨p,0,none⟩)] 92))
 clear hX hq0 cm0 hqa cma fga cg0 fgb cgb fgb' cgb' HMh0 hmh0 hgh0 hoh0 HKh HM1 hm1 ho1 hg1 hb1 hgp W0lt
 generalize (World.alloc (W0.setCell ⟨bg,0,none⟩ (V Z 0)) (.cells #[.pointer (some ⟨p,0,none⟩)] 92))=W at *
 have hq:=cell_of_heap HMh.out.heap
 have cm2:=hmh.out.cells
 have hI:Ints W vL L:=IntRow.ints HMh.out.rowL
 obtain⟨Al,cl,rfl,q1,q2⟩:=hI.slice
 have hIh:=Hd hI
 obtain⟨Ac,cc,rfl,-,-,-⟩:=vals_row HMh.out.rowC
 obtain⟨An,cn,rfl,-,-,-⟩:=vals_row HMh.out.rowN
 have hlen:=HMh.out.locN;have hplt:=HMh.out.lt;have hmlt:=hmh.out.lt;clear hI
 have hpo:p≠bo:=fun e=>hoh.out.2 (.inl e.symm)
 have hmo:bm≠bo:=fun e=>by
  have h1:=hmh.out.1;rw [e,hoh.out.1] at h1
  injection h1 with h1
  injection h1 with _ h2
  cases h2
 have hlo:(Value.slice Al L.length cl).ownBlock≠some bo:=row_not HMh.out.rowL hoh.out.1 (by decide)
 have hS:∀ w',Near W bo 4 30 w'->((∀ i,w'.cell? ⟨p,i,none⟩=(#[V Z 0,vA,.slice Al L.length cl,.slice Ac S.acc.length cc,.slice An S.nts.length cn]:Array Value)[i]?)/\(∀ i,w'.cell? ⟨bm,i,none⟩=(#[.pointer (some ⟨p,0,none⟩)]:Array Value)[i]?)/\(∀ i,w'.cell? ⟨bo,i,none⟩=(#[cellD w' bo 0,cellD w' bo 1,cellD w' bo 2,cellD w' bo 3]:Array Value)[i]?)/\(∀ i,w'.frozen? ⟨bo,i,none⟩=false)/\Near W bo 4 30 w'):=fun w' hx =>
  ⟨fun i=>(hx.cell hplt hpo).trans (hq i),fun i=>(hx.cell hmlt hmo).trans (cm2 i),hx.four,hx.frozen,hx⟩
 have hN:Near W bo 4 30 W:=Near.new hoh.out.1 rfl
 go_region_held2 (fun w'=>(∀ i,w'.cell? ⟨p,i,none⟩=(#[V Z 0,vA,.slice Al L.length cl,.slice Ac S.acc.length cc,.slice An S.nts.length cn]:Array Value)[i]?)/\(∀ i,w'.cell? ⟨bm,i,none⟩=(#[.pointer (some ⟨p,0,none⟩)]:Array Value)[i]?)/\(∀ i,w'.cell? ⟨bo,i,none⟩=(#[cellD w' bo 0,cellD w' bo 1,cellD w' bo 2,cellD w' bo 3]:Array Value)[i]?)/\(∀ i,w'.frozen? ⟨bo,i,none⟩=false)/\Near W bo 4 30 w') (first | exact hS _ hN.drew | (refine hS _ ?_;(repeat refine Near.set ?_ _ _);exact hN.drew.ext h2))
  (first
    | (go_at_call 87
       refine (tshort_p Al cl L _ (hIh.out.ext (Ext.refl W).drew) q1 q2 (by omega)).mono ?_
       rintro e w' ⟨v',rfl,h1,h2⟩
       obtain⟨As,cs,rfl,hs1,hs2⟩:=h1.ints.slice))
 have f3:∀ b,(Value.slice As (shortL L).length cs).ownBlock=some b->B<=b:=fun b hb=>by
  have q1:=(h1.lt b hb).1
  have q2:=HMh.out.ge;have q3:=HMh.out.lt
  rw [World.size_drew] at q1
  omega
 obtain⟨f1,f2⟩:=end_out (d:=false) HMh.out hoh.out.1 ((Ext.refl W).drew.trans h2) h1
 have fg:bg≠bo:=fun e=>by
  have h1:=hgh.out;rw [e,hoh.out.1] at h1
  injection h1 with h1
  injection h1 with _ h2
  cases h2
 refine⟨rfl,FrameMode.panicking ({ v:=.iface 92 (.agg #[.pointer (some ⟨p,0,none⟩)]),recovered:=true } :: older),(by cases c₀;simp only at hu;subst hu;rfl),.tuple #[],(by simp [results,Tryz.results86,go_sem]),rfl,rfl,?_,⟨_,_,_,f1,f2,f3⟩,?_⟩
 · rw [heap_setCell_ne _ _ fg,heap_setCell_ne _ _ fg,heap_setCell_ne _ _ fg,heap_setCell_ne _ _ fg]
   exact (Below.block ((Ext.refl W).drew.trans h2) bg (Array.getElem?_eq_some_iff.1 hgh.out).1).trans hgh.out
 · exact ((((hN.drew.ext h2).set _ _).set _ _).set _ _ |>.set _ _).below hbel.out hB2 (by have:=HMh.out.ge;omega)
set_option maxRecDepth 100000 in
set_option maxHeartbeats 1000000 in
theorem play_errB (f:FuncId)(cap:Array Value)(T:Prog Int)(Al:Option Addr)(cl:Nat)(L:List Int)(Aa:Option Addr)(ca:Nat)(ans:List Int)(w:World)(h:Ints w (.slice Al L.length cl) L)(hl:L.length<=32768)(ha:Ints w (.slice Aa ans.length ca) ans)(hn:ans.length<=maxAns)
  (hb:∀ b,(Value.slice Aa ans.length ca).ownBlock=some b->b<w.heap.size)
  (hcf:∀ (args:Array Value) (w:World),(callFunc f args).run Tryz.prog w=.ok (.enter f args) w)
  (hdo:∀ w1 p,Ext w w1->Plays w.heap.size w1 p (TS0 L ans)->Calls Tryz.prog f (#[.pointer (some ⟨p,0,none⟩)]++cap) w1 (Post encI w.heap.size p w1 (T.run (TS0 L ans)))) :
  Calls Tryz.prog 13 #[.func (.func f) #[] cap,.slice Al L.length cl,.slice Aa ans.length ca] w fun e w'=>∃ v,e=.returned (.tuple #[V Z ((T.run (TS0 L ans)).1.getD 0),v])/\Outs w' v (T.run (TS0 L ans)).1.isSome (T.run (TS0 L ans)).2/\(∃ d vC vN vs,v=.agg #[.bool d,vC,vN,vs]/\∀ b,vs.ownBlock=some b->w.heap.size<=b)/\Ext w w':=by
 obtain⟨q1,q2⟩:L.length<=cl/\cl<=9223372036854775807:=by
  obtain⟨A',c',he,q1,q2,_⟩:=h
  injection he with e1 e2 e3
  subst e3
  exact⟨q1,q2⟩
 generalize hR:(fun e w'=>∃ v,e=Ending.returned (.tuple #[V Z ((T.run (TS0 L ans)).1.getD 0),v])/\Outs w' v (T.run (TS0 L ans)).1.isSome (T.run (TS0 L ans)).2/\(∃ d vC vN vs,v=.agg #[.bool d,vC,vN,vs]/\∀ b,vs.ownBlock=some b->w.heap.size<=b)/\Ext w w')=R
 have hfin:∀ v w',Outs w' v (T.run (TS0 L ans)).1.isSome (T.run (TS0 L ans)).2->(∃ d vC vN vs,v=.agg #[.bool d,vC,vN,vs]/\∀ b,vs.ownBlock=some b->w.heap.size<=b)->Ext w w'->R (.returned (.tuple #[V Z ((T.run (TS0 L ans)).1.getD 0),v])) w':=fun v w' h1 h3 h2=>hR▸⟨v,rfl,h1,h3,h2⟩
 clear hR
 have hmf:∀ (fn:Fn) (first cap:Array Value) (w:World),(Instr.makeFunc fn first cap).run Tryz.prog w=.ok (.func fn first cap) w:=fun _ _ _ _=>rfl
 go_enter_defers Tryz.func13,Tryz.ntmps13
 go_wp2_with fail
 obtain⟨hx,g1,g2,g3,g4⟩:=four_boxes w (.cells #[V Z 0] 26) (.cells #[.bool false,.slice none 0 0,.slice none 0 0,.slice none 0 0] 30) (.cells #[V Z 1,.slice Aa ans.length ca,.slice none 0 0,.slice none 0 0,.slice none 0 0] 90) (.cells #[.pointer (some ⟨w.heap.size+1+1,0,none⟩)] 33)
 generalize hW:World.alloc (World.alloc (World.alloc (World.alloc w _) _) _) _=W at *
 clear hW
 have hI:=h.ext hx
 have cm:=cell_of_heap g4
 have hN:Near W (w.heap.size+1+1) 5 90 W:=Near.new g3 rfl
 have hmlt:=(Array.getElem?_eq_some_iff.1 g4).1
 have hmin:min (L.length:Int) 32768=(L.length:Int):=by omega
 have hS:∀ w',Near W (w.heap.size+1+1) 5 90 w'->((∀ i,w'.cell? ⟨w.heap.size+1+1+1,i,none⟩=(#[.pointer (some ⟨w.heap.size+1+1,0,none⟩)]:Array Value)[i]?)/\(∀ i,w'.cell? ⟨w.heap.size+1+1,i,none⟩=(#[cellD w' (w.heap.size+1+1) 0,cellD w' (w.heap.size+1+1) 1,cellD w' (w.heap.size+1+1) 2,cellD w' (w.heap.size+1+1) 3,cellD w' (w.heap.size+1+1) 4]:Array Value)[i]?)/\(∀ i,w'.frozen? ⟨w.heap.size+1+1,i,none⟩=false)):=fun w' hx =>
  ⟨fun i=>(hx.cell hmlt (by omega)).trans (cm i),hx.five,hx.frozen⟩
 go_region_held3 (fun w'=>(∀ i,w'.cell? ⟨w.heap.size+1+1+1,i,none⟩=(#[.pointer (some ⟨w.heap.size+1+1,0,none⟩)]:Array Value)[i]?)/\(∀ i,w'.cell? ⟨w.heap.size+1+1,i,none⟩=(#[cellD w' (w.heap.size+1+1) 0,cellD w' (w.heap.size+1+1) 1,cellD w' (w.heap.size+1+1) 2,cellD w' (w.heap.size+1+1) 3,cellD w' (w.heap.size+1+1) 4]:Array Value)[i]?)/\(∀ i,w'.frozen? ⟨w.heap.size+1+1,i,none⟩=false)) (first | exact hS _ hN.drew | (refine hS _ ?_;(repeat refine Near.set ?_ _ _);exact hN.drew.ext h2))
  (first
    | (go_at_call 85
       refine (clone_any Al cl L _ (hI.ext (Ext.refl W).drew) (by omega)).mono ?_
       rintro e w' ⟨v',rfl,h1,h2⟩
       obtain⟨As,cs,rfl,hs1,hs2⟩:=h1.ints.slice))
 obtain⟨hP,hH,hE⟩:=play_start (p:=w.heap.size+1+1) hx (by omega) g3 ((Ext.refl W).drew.trans h2) h1 hl ha hn hb
 have hbg:=hH _ _ g1 (by omega)
 have hbo:=hH _ _ g2 (by omega)
 have hbm:=hH _ _ g4 (by omega)
 clear hH g1 g2 g3 g4 hS hN h1 h2 hI cm hmin hmlt
 rename_i hh
 clear hh
 have hT:=hdo _ _ hE hP
 clear hdo
 generalize World.setCell _ _ _=W2 at *
 have cbm:=hbm.cells
 have hnf:(binOp .neq 35 (.func (.func f) #[] cap) .nilFunc).run Tryz.prog W2=.ok (.bool true) W2:=by kernel_rfl
 go_wp2_with fail
 generalize hr:T.run (TS0 L ans)=r at hT hfin
 obtain⟨o,S⟩:=r
 clear hr
 cases o with
 | some a =>
   refine hT.mono ?_
   rintro e w3 ⟨rfl,hP3,hK3⟩
   have hbg3:=hbg.keep hK3
   have hbo3:=hbo.keep hK3
   have hbm3:=hbm.keep hK3
   have hE3:Ext w w3:=Below.trans hE hK3.below
   clear hbg hbo hbm hE hK3 hT hP cbm hnf;have cbg:=hbg3.cells
   have fbg:=frozen_of_heap hbg3.1
   have cbo:=hbo3.cells
   have fbo:=frozen_of_heap hbo3.1
   go_wp2_with fail
   have fgo:w.heap.size≠w.heap.size+1:=by omega
   have hg4:=heap_setCell (i:=0) hbg3.1 (V Z a)
   have hP4:Plays w.heap.size (w3.setCell ⟨w.heap.size,0,none⟩ (V Z a)) (w.heap.size+1+1) S:=by
    obtain⟨q,vA,vL,vC,vN,L',hM⟩:=hP3
    exact⟨q,vA,vL,vC,vN,L',hM.setO hbg3.2 (Nat.le_refl _) _ _⟩
   have hbm4:=hbm3.setO (b:=w.heap.size) (by omega) hbg3.2 0 (V Z a)
   have hbo4:=hbo3.setO (b:=w.heap.size) (by omega) hbg3.2 0 (V Z a)
   have hbg4:HeldP (w3.setCell ⟨w.heap.size,0,none⟩ (V Z a)) (w.heap.size+1+1) w.heap.size (.cells #[V Z a] 26 (0,0)):=⟨hg4,fun h'=>hbg3.2 ((ownR_same (heap_setCell_ne _ _ (by omega)) _).1 h')⟩
   have hE4:Ext w (w3.setCell ⟨w.heap.size,0,none⟩ (V Z a)):=hE3.setCell (Nat.le_refl _) _
   clear hP3 hbg3 hbo3 hbm3 hE3 cbg fbg cbo fbo hg4
   generalize World.setCell _ _ _=w4 at *
   generalize hbq:w.heap.size+1=bo at hbm4 hbo4 hP4 ⊢
   have fgo1:w.heap.size≠bo:=by omega
   have fgo2:bo≠w.heap.size:=by omega
   clear fgo;have cbg:=hbg4.cells
   have fbg:=frozen_of_heap hbg4.1
   have cbo:=hbo4.cells
   have fbo:=frozen_of_heap hbo4.1
   go_region
   all_goals
    generalize hW5:World.drew _=W5
    have hsm:SameW w4 W5:=by
     rw [<- hW5]
     repeat first | with_reducible exact SameW.refl _ | with_reducible refine SameW.drew2 ?_ | refine SameW.set ?_ hbg4.1 rfl | refine SameW.set ?_ hbo4.1 rfl
    clear hW5 cbg fbg cbo fbo
    have hP5:=hP4.ext hsm.ext
    have hbm5:=hbm4.ext hsm.ext hP4.lt
    have hbg5:=hbg4.ext hsm.ext (by rw [hbq];exact hP4.lt)
    have hbo5:=hbo4.ext hsm.ext hP4.lt
    have hE5:Ext w W5:=hE4.trans hsm.ext
    clear hP4 hbm4 hbg4 hbo4 hE4 hsm;go_wp2_with fail
    refine leaves_cons (f:=86) (args:=#[.pointer (some ⟨bo+1+1,0,none⟩),.pointer (some ⟨w.heap.size,0,none⟩),.pointer (some ⟨bo,0,none⟩)]) (by simp) (by simp [go_sem]) ?_
    refine (end_okE w.heap.size _ S _ _ _ _ _ hP5 hbm5 (by rw [<- hbq];exact hbg5) hbo5 (by omega)).mono ?_
    rintro e u' w4 ⟨rfl,rfl,hg,⟨vC,vN,vs,ho,hO,hvs⟩,hB⟩
    have cg:=cell_of_heap hg
    have co:=cell_of_heap ho
    have cg0:=cg 0
    have co0:=co 0
    have co1:=co 1
    have co2:=co 2
    have co3:=co 3
    refine⟨.tuple #[V Z a,.agg #[.bool true,vC,vN,vs]],?_,hfin _ _ hO ⟨_,vC,vN,vs,rfl,hvs⟩ (Below.trans hE5 hB)⟩
    simp [results,Tryz.results13,go_sem,cg0,co0,co1,co2,co3]
 | none =>
   refine hT.mono ?_
   rintro e w3 ⟨rfl,hP3,hK3⟩
   have hbg3:=hbg.keep hK3
   have hbo3:=hbo.keep hK3
   have hbm3:=hbm.keep hK3
   have hE3:Ext w w3:=Below.trans hE hK3.below
   clear hbg hbo hbm hE hK3 hT hP cbm hnf
   refine leaves_cons (f:=86) (args:=#[.pointer (some ⟨w.heap.size+1+1+1,0,none⟩),.pointer (some ⟨w.heap.size,0,none⟩),.pointer (some ⟨w.heap.size+1,0,none⟩)]) (by simp) (by simp [go_sem]) ?_
   refine (end_stopE w.heap.size _ S _ _ _ _ [] _ hP3 hbm3 hbg3 hbo3 (Nat.le_refl _) (by omega)).mono ?_
   rintro e u' w4 ⟨rfl,rfl,hg,⟨vC,vN,vs,ho,hO,hvs⟩,hB⟩
   have cg:=cell_of_heap hg
   have co:=cell_of_heap ho
   have cg0:=cg 0
   have co0:=co 0
   have co1:=co 1
   have co2:=co 2
   have co3:=co 3
   refine⟨.tuple #[V Z 0,.agg #[.bool false,vC,vN,vs]],?_,hfin _ _ hO ⟨_,vC,vN,vs,rfl,hvs⟩ (Below.trans hE3 hB)⟩
   simp [results,Tryz.results13,go_sem,cg0,co0,co1,co2,co3]
theorem play_err (f:FuncId)(cap:Array Value)(T:Prog Int)(Al:Option Addr)(cl:Nat)(L:List Int)(Aa:Option Addr)(ca:Nat)(ans:List Int)(w:World)(h:Ints w (.slice Al L.length cl) L)(hl:L.length<=32768)(ha:Ints w (.slice Aa ans.length ca) ans)(hn:ans.length<=maxAns)
  (hb:∀ b,(Value.slice Aa ans.length ca).ownBlock=some b->b<w.heap.size)
  (hcf:∀ (args:Array Value) (w:World),(callFunc f args).run Tryz.prog w=.ok (.enter f args) w)
  (hdo:∀ w1 p,Ext w w1->Plays w.heap.size w1 p (TS0 L ans)->Calls Tryz.prog f (#[.pointer (some ⟨p,0,none⟩)]++cap) w1 (Post encI w.heap.size p w1 (T.run (TS0 L ans)))) :
  Calls Tryz.prog 13 #[.func (.func f) #[] cap,.slice Al L.length cl,.slice Aa ans.length ca] w fun e w'=>∃ v,e=.returned (.tuple #[V Z ((T.run (TS0 L ans)).1.getD 0),v])/\Outs w' v (T.run (TS0 L ans)).1.isSome (T.run (TS0 L ans)).2/\Ext w w' :=
 (play_errB f cap T Al cl L Aa ca ans w h hl ha hn hb hcf hdo).mono fun _ _ ⟨v,he,ho,_,hx⟩=>⟨v,he,ho,hx⟩
theorem laid_all {l:List Want}{n mode b c:Int}{rs:List Reg}(h:layM l n mode b c=some rs):∀ r∈rs,r.ok/\r.n=n:=by
 intro r hr
 obtain⟨i,hi⟩:=List.getElem?_of_mem hr
 obtain⟨⟨_,_,n1,n2,_,_⟩,hw,_⟩:=layM_args h
 have hil:=(List.getElem?_eq_some_iff.1 hi).1
 rw [layM_len h] at hil
 obtain⟨r',hr',hL⟩:=layM_at h (List.getElem?_eq_getElem hil)
 obtain rfl:r=r':=by rw [hi] at hr';simpa using hr'
 obtain⟨h1,h2,_⟩:=hL.ok ⟨n1,n2⟩ (hw _ (List.getElem_mem hil))
 exact⟨h1,h2⟩
theorem laid_want {f:Nat->Want}{k:Nat}{n mode b c:Int}{rs:List Reg}(h:layM ((List.range k).map f) n mode b c=some rs){i:Nat}{r:Reg}(hi:rs[i]?=some r):Laid n mode (f i) r:=by
 have hil:=(List.getElem?_eq_some_iff.1 hi).1
 rw [layM_len h,List.length_map,List.length_range] at hil
 obtain⟨r',hr',hL⟩:=layM_at h (i:=i) (q:=f i) (by rw [List.getElem?_map,List.getElem?_range hil];rfl)
 obtain rfl:r=r':=by rw [hi] at hr';simpa using hr'
 exact hL
theorem laid_told {n mode:Int}{q:Want}{r:Reg}(h:Laid n mode q r)(_hm:1<=mode/\mode<=2)(hn:2<=n)(_hq:-1<=q.wr){me:Int}(hme:q.wr≠me):r.told me:=by
 obtain⟨⟨b,c,rfl,_,_⟩,_⟩:=h
 by_cases h2:mode=2
 · by_cases h3:0<=q.wr
   · refine .inr (.inl ⟨?_,fun h=>hme h.symm⟩)
     show kindM mode q.wr=6
     unfold kindM
     rw [if_pos h2,if_pos h3]
   · refine .inr (.inr ⟨?_,hn⟩)
     show kindM mode q.wr=7
     unfold kindM
     rw [if_pos h2,if_neg h3]
 · refine .inl ?_
   show kindM mode q.wr=1
   unfold kindM
   rw [if_neg h2]
theorem fil_told {N:Nat}{mode b c:Int}{rs:List Reg}{m:Nat}(h:layM (filWants N) N mode b c=some rs):∀ (i:Nat) r,rs[i]?=some r->i≠m->2<=N->r.told m:=by
 intro i r hi hm hN
 obtain⟨⟨h1,h2,_⟩,_⟩:=layM_args h
 refine laid_told (laid_want h hi) ⟨h1,h2⟩ (by omega) ?_ ?_
 · unfold filWant;split <;> simp <;> omega
 · unfold filWant;split <;> simp <;> omega
end Go.Proofs.YtbaajjkopdjbgaaGreat
namespace Kv
theorem sets_manyRs {b l n top me:Int}(hn:1<=n)(hm:0<=me)(hm2:me<n):∀ (k:Nat) (j s v:Int),0<=j->j+k<=n->(manyRs b l n top me k j s v).Sets l (l+n*(2+18*((n-1)*(n-1))))
 | 0,j,s,v,_,_=>.ret _
 | k+1,j,s,v,hj,hk=>by
   have hq:0<=(n-1)*(n-1):=Int.mul_nonneg (by omega) (by omega)
   have hX:0<=2+18*((n-1)*(n-1)):=by omega
   have e1:manyL l n j=l+j*(2+18*((n-1)*(n-1))):=by unfold manyL;rw [Int.mul_assoc 18]
   have e2:0<=j*(2+18*((n-1)*(n-1))):=Int.mul_nonneg hj hX
   have e3:(j+1)*(2+18*((n-1)*(n-1)))<=n*(2+18*((n-1)*(n-1))):=Int.mul_le_mul_of_nonneg_right (by omega) hX
   rw [Int.add_mul,Int.one_mul] at e3
   unfold manyRs
   refine ((sets_tableR hj (by omega) hm hm2).mono ?_ ?_).bind fun y=>?_
   · rw [e1];omega
   · rw [e1];omega
   · split <;> exact sets_manyRs hn hm hm2 k _ _ _ (by omega) (by omega)
theorem localsM_eq (r:Reg):localsM r=if r.kind=1 then 0 else if r.kind=6 then 2+18*((r.n-1)*(r.n-1)) else r.n*(2+18*((r.n-1)*(r.n-1))):=by
 unfold localsM
 rw [Int.mul_assoc 18]
theorem sets_regR {r:Reg}(h:r.ok){me:Int}(hm:0<=me)(hm2:me<r.n):(regR r me).Sets r.loc (r.loc+localsM r):=by
 rw [localsM_eq]
 unfold regR
 split
 · exact sets_rd _ _ _
 · split
   · rename_i h6
     exact sets_tableR (h.wr h6).1 (h.wr h6).2 hm hm2
   · unfold manyR
     exact (sets_manyRs h.n.1 hm hm2 _ _ _ _ (by omega) (by have:=h.n.1;omega)).bind fun p=>.ret _
theorem sets_zeroP {r:Reg}(h:r.ok){me:Int}(hm:0<=me)(hm2:me<r.n):∀ n:Nat,(zeroP r me n).Sets r.loc (r.loc+localsM r)
 | 0=>.ret _
 | n+1=>(sets_regR h hm hm2).bind fun x=>by
   split
   · exact .ret _
   · exact sets_zeroP h hm hm2 n
theorem Prog.bind_some {α β:Type}{p:Prog α}{f:α->Prog β}{S S':TS}{b:β}(h:(p.bind f).run S=(some b,S')):∃ a S1,p.run S=(some a,S1)/\(f a).run S1=(some b,S'):=by
 rw [Prog.run_bind] at h
 rcases hr:p.run S with⟨o,S1⟩
 rw [hr] at h
 cases o with
 | none=>simp [thenR] at h
 | some a=>exact⟨a,S1,rfl,h⟩
theorem layFrom_from {n mode:Int}(hn:1<=n/\n<=8):∀ (l:List Want) (b c:Int) (rs:List Reg),layFrom n mode l b c=some rs->∀ (i:Nat) r,rs[i]?=some r->c<=r.loc
 | [],b,c,rs,h,i,r,hi=>by
   obtain rfl:[]=rs:=by simpa [layFrom] using h
   simp at hi
 | q :: l,b,c,rs,h,i,r,hi=>by
   unfold layFrom at h
   split at h
   · have hz:=cells_nat (regOf n mode b c q) hn
     cases hr:layFrom n mode l (b+cellsM (regOf n mode b c q)) (c+localsM (regOf n mode b c q)) with
     | none=>rw [hr] at h;cases h
     | some rs' =>
       rw [hr] at h
       obtain rfl:regOf n mode b c q :: rs'=rs:=by simpa using h
       cases i with
       | zero =>
         obtain rfl:regOf n mode b c q=r:=by simpa using hi
         exact Int.le_refl _
       | succ i =>
         have:=layFrom_from hn l _ _ rs' hr i r (by simpa using hi)
         omega
   · cases h
theorem layFrom_apart {n mode:Int}(hn:1<=n/\n<=8):∀ (l:List Want) (b c:Int) (rs:List Reg),layFrom n mode l b c=some rs->∀ (i j:Nat) r s,i<j->rs[i]?=some r->rs[j]?=some s->r.loc+localsM r<=s.loc
 | [],b,c,rs,h,i,j,r,s,_,hi,_=>by
   obtain rfl:[]=rs:=by simpa [layFrom] using h
   simp at hi
 | q :: l,b,c,rs,h,i,j,r,s,hij,hi,hj=>by
   unfold layFrom at h
   split at h
   · cases hr:layFrom n mode l (b+cellsM (regOf n mode b c q)) (c+localsM (regOf n mode b c q)) with
     | none=>rw [hr] at h;cases h
     | some rs' =>
       rw [hr] at h
       obtain rfl:regOf n mode b c q :: rs'=rs:=by simpa using h
       cases j with
       | zero=>omega
       | succ j =>
         have hj':rs'[j]?=some s:=by simpa using hj
         cases i with
         | zero =>
           obtain rfl:regOf n mode b c q=r:=by simpa using hi
           exact layFrom_from hn l _ _ rs' hr j s hj'
         | succ i=>exact layFrom_apart hn l _ _ rs' hr i j r s (by omega) (by simpa using hi) hj'
   · cases h
theorem layM_apart {l:List Want}{n mode b c:Int}{rs:List Reg}(h:layM l n mode b c=some rs){i j:Nat}{r s:Reg}(hij:i<j)(hi:rs[i]?=some r)(hj:rs[j]?=some s):r.loc+localsM r<=s.loc:=by
 obtain⟨⟨_,_,n1,n2,_,_⟩,_,hf⟩:=layM_args h
 exact layFrom_apart ⟨n1,n2⟩ l b c rs hf i j r s hij hi hj
theorem TS.got_upd {S:TS}{i v:Int}(h1:0<=i)(h2:i<32768):(S.upd i v).got i=v:=by
 unfold TS.upd
 rw [if_pos ⟨h1,h2⟩]
 unfold TS.got
 rw [if_neg (by omega)]
 simp
def ownZ (r:Reg) (S:TS):Prop:=r.kind=6->S.got (r.loc+1)=0
theorem ownZ_wrote {r:Reg}{m:Int}(h0:0<=r.loc)(hf:r.loc+localsM r<=32768)(hn:1<=r.n)(hw:r.kind=6->r.wr=m){S S':TS}(h:(regW r m 0).run S=(some (),S')):ownZ r S':=by
 intro h6
 rw [localsM_eq,if_neg (by omega),if_pos h6] at hf
 have hq:0<=(r.n-1)*(r.n-1):=Int.mul_nonneg (by omega) (by omega)
 unfold regW at h
 rw [if_neg (by omega),if_pos h6] at h
 unfold tableW at h
 rw [if_neg (by rw [hw h6];simp)] at h
 obtain⟨a1,S1,-,h⟩:=Prog.bind_some h
 obtain⟨a2,S2,-,h⟩:=Prog.bind_some h
 obtain⟨a3,S3,-,h⟩:=Prog.bind_some h
 have e:S3.upd (r.loc+1) (clamp 0 (clamp r.top 1048576))=S':=by
  have:=h
  simp only [st,Prog.run,Prod.mk.injEq,true_and] at this
  exact this
 have hc:clamp 0 (clamp r.top 1048576)=0:=by unfold clamp within;omega
 rw [<- e,hc]
 exact TS.got_upd (by omega) (by omega)
theorem ownZ_kept {r s:Reg}{m:Int}(_h0:0<=r.loc)(hn:1<=r.n)(hs:s.ok)(hm:0<=m)(hm2:m<s.n)(ha:r.loc+localsM r<=s.loc∨s.loc+localsM s<=r.loc){D:Nat}{S S':TS}(h:(zeroP s m D).run S=(some (),S'))(hz:ownZ r S):ownZ r S':=by
 intro h6
 have hq:0<=(r.n-1)*(r.n-1):=Int.mul_nonneg (by omega) (by omega)
 rw [localsM_eq r,if_neg (by omega),if_pos h6] at ha
 have e:=(sets_zeroP hs hm hm2 D).got (i:=r.loc+1) (by omega) S
 rw [h] at e
 rw [<- hz h6]
 exact e
theorem zeroP_own {r:Reg}{m:Int}(hk:r.kind=6)(hw:r.wr=m):∀ (D:Nat) (S S':TS),(zeroP r m D).run S=(some (),S')->S=S'
 | 0,S,S',h=>by
   have:=h
   simp only [zeroP,Prog.run,Prod.mk.injEq,true_and] at this
   exact this
 | D+1,S,S',h=>by
   rw [show zeroP r m (D+1)=(regR r m).bind fun x=>if x=0 then .ret () else zeroP r m D from rfl] at h
   have e:regR r m=gt (r.loc+1):=by
    unfold regR tableR
    rw [if_neg (by omega),if_pos hk,if_pos hw.symm]
   rw [e] at h
   have h:(if S.got (r.loc+1)=0 then Prog.ret () else zeroP r m D).run S=(some (),S'):=h
   split at h
   · simp only [Prog.run,Prod.mk.injEq,true_and] at h
     exact h
   · exact zeroP_own hk hw D S S' h
theorem ownZ_read {r:Reg}{m:Int}(hk:r.kind=6)(hw:r.wr=m){S:TS}(hz:ownZ r S):(regR r m).run S=(some 0,S):=by
 unfold regR tableR
 rw [if_neg (by omega),if_pos hk,if_pos hw.symm]
 show (some (S.got (r.loc+1)),S)=_
 rw [hz hk]
end Kv
namespace Go.Proofs.YtbaajjkopdjbgaaGreat
open Kv
theorem fast_told {N:Nat}{mode b c:Int}{rs:List Reg}{m:Nat}(h:layM (fastWants N) N mode b c=some rs)(hN:¬(N=1/\mode=2)):∀ (i:Nat) r,rs[i]?=some r->i≠2+m->r.told m:=by
 intro i r hi hm
 obtain⟨⟨h1,h2,n1,_⟩,_⟩:=layM_args h
 have hL:=laid_want h hi
 by_cases hm2:mode=2
 · refine laid_told hL ⟨h1,h2⟩ (by omega) ?_ ?_
   · unfold fastWant;split <;> simp <;> omega
   · unfold fastWant;split <;> simp <;> omega
 · obtain⟨⟨b,c,rfl,_,_⟩,_⟩:=hL
   refine .inl ?_
   show kindM mode _=1
   unfold kindM
   rw [if_neg hm2]
theorem fast_own {N:Nat}{mode b c:Int}{rs:List Reg}{m:Nat}{rm:Reg}(h:layM (fastWants N) N mode b c=some rs)(hr:rs[2+m]?=some rm):rm.kind=1∨rm.kind=6/\rm.wr=m:=by
 obtain⟨⟨h1,h2,n1,_⟩,_⟩:=layM_args h
 obtain⟨⟨b,c,rfl,_,_⟩,_⟩:=laid_want h hr
 have e:(fastWant N (2+m)).wr=m:=by unfold fastWant;rw [if_neg (by omega)];simp;omega
 show kindM mode _=1∨kindM mode _=6/\_=_
 unfold kindM
 split
 · rw [e,if_pos (by omega)]
   exact .inr ⟨rfl,e⟩
 · exact .inl rfl
theorem laid_fine {l:List Want}{n mode b c:Int}{rs:List Reg}(h:layM l n mode b c=some rs):∀ r∈rs,fineM r=true:=by
 intro r hr
 obtain⟨i,hi⟩:=List.getElem?_of_mem hr
 have hil:=(List.getElem?_eq_some_iff.1 hi).1
 rw [layM_len h] at hil
 obtain⟨r',hr',hL⟩:=layM_at h (List.getElem?_eq_getElem hil)
 obtain rfl:r=r':=by rw [hi] at hr';simpa using hr'
 exact hL.fine
theorem fast_hz {N:Nat}{mode b c:Int}{rs:List Reg}{m D:Nat}(h:layM (fastWants N) N mode b c=some rs)(hm:m<N) :
  ∃ Zq:TS->Prop,(∀ rm,rs[2+m]?=some rm->∀ S S',(regW rm m 0).run S=(some (),S')->Zq S') /\
   (∀ (j:Nat) r,rs[j]?=some r->∀ S S',(zeroP r m D).run S=(some (),S')->Zq S->Zq S') /\
   (∀ rm,rs[2+m]?=some rm->∀ S,Zq S->rm.told m∨(regR rm m).run S=(some 0,S)):=by
 have hlen:=layM_len h
 rw [fastWants_len] at hlen
 obtain⟨rm,hrm⟩:∃ r,rs[2+m]?=some r:=⟨_,List.getElem?_eq_getElem (by omega)⟩
 obtain⟨okm,nm⟩:=laid_all h rm (List.mem_of_getElem? hrm)
 have hown:=fast_own h hrm
 refine⟨ownZ rm,?_,?_,?_⟩
 · intro r hr S S' hS
   obtain rfl:rm=r:=by rw [hrm] at hr;simpa using hr
   refine ownZ_wrote okm.loc.1 ?_ (by have:=okm.n;omega) (fun h6=>?_) hS
   · have:=laid_fine h rm (List.mem_of_getElem? hrm)
     unfold fineM at this
     simp only [Bool.and_eq_true,decide_eq_true_eq] at this
     exact this.2
   · rcases hown with h1 | h1
     · omega
     · exact h1.2
 · intro j r hr S S' hS hz
   obtain⟨okr,nr⟩:=laid_all h r (List.mem_of_getElem? hr)
   by_cases hj:j=2+m
   · subst hj
     obtain rfl:rm=r:=by rw [hrm] at hr;simpa using hr
     rcases hown with h1 | h1
     · intro h6;omega
     · rw [<- zeroP_own h1.1 h1.2 D S S' hS];exact hz
   · refine ownZ_kept okm.loc.1 (by have:=okm.n;omega) okr (by omega) (by rw [nr];omega) ?_ hS hz
     by_cases hlt:j<2+m
     · exact .inr (layM_apart h hlt hr hrm)
     · exact .inl (layM_apart h (by omega) hrm hr)
 · intro r hr S hz
   obtain rfl:rm=r:=by rw [hrm] at hr;simpa using hr
   rcases hown with h1 | h1
   · exact .inl (.inl h1)
   · exact .inr (ownZ_read h1.1 h1.2 hz)
end Go.Proofs.YtbaajjkopdjbgaaGreat
namespace Kv
theorem unLo_bd (x:Int){top:Int}(h:0<=room top):0<=unLo x top/\unLo x top<=room top:=by
 unfold unLo
 have h1:=Int.emod_nonneg (unX x) (show room top+1≠0 by omega)
 have h2:=Int.emod_lt_of_pos (unX x) (show 0<room top+1 by omega)
 omega
def TameA (S:TS):Prop:=∀ v∈S.ans,0<=v/\v<=1048576
theorem TameA.run {α:Type}{S S':TS}{p:Prog α}{a:Option α}(h:TameA S)(hr:p.run S=(a,S')):TameA S':=by
 have:=Prog.run_ans p S
 rw [hr] at this
 unfold TameA
 rw [this]
 exact h
theorem rd_bd {c v:Int}{S S':TS}(h:TameA S)(hr:(rd c).run S=(some v,S')):0<=v/\v<=1048576:=by
 unfold rd at hr
 simp only [Prog.run] at hr
 cases hn:S.next with
 | none=>rw [hn] at hr;simp at hr
 | some u =>
   rw [hn] at hr
   simp only [Prod.mk.injEq,Option.some.injEq] at hr
   rw [<- hr.1]
   exact h u (List.mem_of_getElem? hn)
theorem ret_run {α:Type}{a b:α}{S S':TS}(h:(Prog.ret a).run S=(some b,S')):a=b/\S=S':=by
 simpa [Prog.run] using h
theorem tableR_bd {b l n wr top me v:Int}{S S':TS}(hne:me≠wr)(hr:(tableR b l n wr top me).run S=(some v,S')):0<=v/\v<=1048576:=by
 unfold tableR at hr;rw [if_neg hne] at hr
 obtain⟨x1,S1,-,hr⟩:=Prog.bind_some hr
 obtain⟨x2,S2,-,hr⟩:=Prog.bind_some hr
 obtain⟨x3,S3,-,hr⟩:=Prog.bind_some hr
 obtain⟨rfl,-⟩:=ret_run hr
 have h1:=room_bd (clamp top 1048576)
 have h2:=unLo_bd x2 (top:=clamp top 1048576) h1.1
 omega
theorem manyRs_bd {b l n top me:Int}:∀ (k:Nat) (j s v:Int) {S S':TS} {p:Int × Int},0<=v->v<=1048576->(manyRs b l n top me k j s v).run S=(some p,S')->0<=p.2/\p.2<=1048576
 | 0,j,s,v,S,S',p,h1,h2,hr=>by
   unfold manyRs at hr
   obtain⟨rfl,-⟩:=ret_run hr
   exact⟨h1,h2⟩
 | k+1,j,s,v,S,S',p,h1,h2,hr=>by
   unfold manyRs at hr
   obtain⟨y,S1,-,hr⟩:=Prog.bind_some hr
   split at hr
   · have h3:=room_bd (clamp top 255)
     have h4:=unLo_bd y (top:=clamp top 255) h3.1
     exact manyRs_bd k _ _ _ (by omega) (by omega) hr
   · exact manyRs_bd k _ _ _ h1 h2 hr
theorem regR_bd {r:Reg}{me v:Int}{S S':TS}(_hok:r.ok)(ht:r.kind=6->me≠r.wr)(h:TameA S)(hr:(regR r me).run S=(some v,S')):0<=v/\v<=1048576:=by
 unfold regR at hr
 split at hr
 · exact rd_bd h hr
 · split at hr
   · rename_i h6
     exact tableR_bd (ht h6) hr
   · unfold manyR at hr
     obtain⟨p,S1,hp,hr⟩:=Prog.bind_some hr
     obtain⟨rfl,-⟩:=ret_run hr
     exact manyRs_bd _ _ _ _ (by omega) (by omega) hp
theorem bwChoose_eq (r:Reg)(me:Int):∀ n:Nat,bwChoose r me n=zeroP r me n
 | 0=>rfl
 | n+1=>by
   rw [show bwChoose r me (n+1)=(regR r me).bind fun x=>if x=0 then .ret () else bwChoose r me n from rfl,show zeroP r me (n+1)=(regR r me).bind fun x=>if x=0 then .ret () else zeroP r me n from rfl,bwChoose_eq r me n]
theorem bwWait_bind {β:Type}(l:List Reg)(n me j t c:Int)(k:Nat)(f:Unit->Prog β):(bwWait l n me j t c (k+1)).bind f =
  (regR (regAt l (1+n+j)) me).bind fun x =>
    if x / 2=0 then f () else if x % 2=c then (if t<x / 2∨(x / 2=t/\me<j) then f () else (bwWait l n me j t c k).bind f)
    else (regR (regAt l 0) me).bind fun y=>if bitM y=c then (bwWait l n me j t c k).bind f else f ():=by
 rw [show bwWait l n me j t c (k+1)=(regR (regAt l (1+n+j)) me).bind fun x =>
   if x / 2=0 then .ret () else if x % 2=c then (if t<x / 2∨(x / 2=t/\me<j) then .ret () else bwWait l n me j t c k)
   else (regR (regAt l 0) me).bind fun y=>if bitM y=c then bwWait l n me j t c k else .ret () from rfl,Prog.bind_assoc]
 congr 1
 funext x
 by_cases h1:x / 2=0
 · rw [if_pos h1,if_pos h1];rfl
 · rw [if_neg h1,if_neg h1]
   by_cases h2:x % 2=c
   · rw [if_pos h2,if_pos h2]
     by_cases h3:t<x / 2∨(x / 2=t/\me<j)
     · rw [if_pos h3,if_pos h3];rfl
     · rw [if_neg h3,if_neg h3]
   · rw [if_neg h2,if_neg h2,Prog.bind_assoc]
     congr 1
     funext y
     by_cases h4:bitM y=c
     · rw [if_pos h4,if_pos h4]
     · rw [if_neg h4,if_neg h4];rfl
theorem notes_bwWait (l:List Reg)(n me j t c:Int):∀ k:Nat,(bwWait l n me j t c k).Notes 0
 | 0=>.ret _ _
 | k+1=>by
   rw [show bwWait l n me j t c (k+1)=(regR (regAt l (1+n+j)) me).bind fun x =>
    if x / 2=0 then .ret () else if x % 2=c then (if t<x / 2∨(x / 2=t/\me<j) then .ret () else bwWait l n me j t c k)
    else (regR (regAt l 0) me).bind fun y=>if bitM y=c then bwWait l n me j t c k else .ret () from rfl]
   refine (notes_regR _ _).bind0 fun x=>?_
   by_cases h1:x / 2=0
   · rw [if_pos h1];exact .ret _ _
   · rw [if_neg h1]
     by_cases h2:x % 2=c
     · rw [if_pos h2]
       by_cases h3:t<x / 2∨(x / 2=t/\me<j)
       · rw [if_pos h3];exact .ret _ _
       · rw [if_neg h3];exact notes_bwWait l n me j t c k
     · rw [if_neg h2]
       refine (notes_regR _ _).bind0 fun y=>?_
       by_cases h4:bitM y=c
       · rw [if_pos h4];exact notes_bwWait l n me j t c k
       · rw [if_neg h4];exact .ret _ _
theorem bwMost_cons {β:Type}(l:List Reg)(n me c a t:Int)(r:List Int)(k:Int->Prog β) :
  (forP (fun j t=>(regR (regAt l (1+n+j)) me).bind fun x=>.ret (if x % 2=c then max t (x / 2) else t)) (a :: r) t).bind k =
    (regR (regAt l (1+n+a)) me).bind fun x=>(forP (fun j t=>(regR (regAt l (1+n+j)) me).bind fun x=>.ret (if x % 2=c then max t (x / 2) else t)) r (if x % 2=c then max t (x / 2) else t)).bind k:=by
 rw [forP_consB,Prog.bind_assoc]
 rfl
def bwFor (l:List Reg) (N:Nat) (n me j t c:Int):Prog Unit:=(bwChoose (regAt l (1+j)) me N).bind fun _=>bwWait l n me j t c N
theorem notes_bwFor (l:List Reg)(N:Nat)(n me j t c:Int):(bwFor l N n me j t c).Notes 0:=by
 unfold bwFor
 rw [bwChoose_eq]
 exact (notes_zeroP _ _ _).bind0 fun _=>notes_bwWait _ _ _ _ _ _ _
theorem bwFor_bind {β:Type}(l:List Reg)(N:Nat)(n me j t c:Int)(f:Unit->Prog β):(bwFor l N n me j t c).bind f=(zeroP (regAt l (1+j)) me N).bind fun _=>(bwWait l n me j t c N).bind f:=by
 unfold bwFor
 rw [bwChoose_eq,Prog.bind_assoc]
def bwIn (N:Nat) (l:List Reg) (n me c t:Int):Prog Int :=
 (forP (fun j _=>bwFor l N n me j t c) (ranksFrom me n.toNat 0) ()).bind fun _=>(nt 3).bind fun _=>.ret 0
def bwThrough (N:Nat) (l:List Reg) (n me c t:Int):Prog Int :=
 (regW (regAt l (1+n+me)) me (2*(t+1)+c)).bind fun _=>(regW (regAt l (1+me)) me 0).bind fun _=>(nt 2).bind fun _=>bwIn N l n me c (t+1)
theorem bwA_eq (N:Nat)(l:List Reg)(own n me:Int):bwA N l own n me =
  (nt 1).bind fun _=>(regW (regAt l (1+me)) me 1).bind fun _=>(regR (regAt l 0) me).bind fun y=>(st own (bitM y)).bind fun _ =>
    (forP (fun j t=>(regR (regAt l (1+n+j)) me).bind fun x=>.ret (if x % 2=bitM y then max t (x / 2) else t)) (ranksFrom me n.toNat 0) 0).bind (bwThrough N l n me (bitM y)):=rfl
theorem told_ne {r:Reg}{me:Int}(h:r.told me):r.kind=6->me≠r.wr:=by
 intro h6
 rcases h with h | ⟨_,h⟩ | ⟨h,_⟩
 · omega
 · exact h
 · omega
def zeroC (c:Int):Nat->Prog Unit
 | 0=>.ret ()
 | n+1=>(rd c).bind fun x=>if x=0 then .ret () else zeroC c n
theorem zeroC_bind {β:Type}(c:Int)(n:Nat)(f:Unit->Prog β):(zeroC c (n+1)).bind f=(rd c).bind fun x=>if x=0 then f () else (zeroC c n).bind f:=by
 rw [show zeroC c (n+1)=(rd c).bind fun x=>if x=0 then .ret () else zeroC c n from rfl,Prog.bind_assoc]
 congr 1
 funext x
 split <;> rfl
theorem notes_zeroC (c:Int):∀ n:Nat,(zeroC c n).Notes 0
 | 0=>.ret _ _
 | n+1=>by
   rw [show zeroC c (n+1)=(rd c).bind fun x=>if x=0 then .ret () else zeroC c n from rfl]
   refine (notes_rd _).bind0 fun x=>?_
   split
   · exact .ret _ _
   · exact notes_zeroC c n
def bakWait (c t me j:Int):Nat->Prog Unit
 | 0=>.ret ()
 | n+1=>(rd c).bind fun x=>if x≠0/\(x<t∨x=t/\j<me) then bakWait c t me j n else .ret ()
theorem bakWait_bind {β:Type}(c t me j:Int)(n:Nat)(f:Unit->Prog β):(bakWait c t me j (n+1)).bind f=(rd c).bind fun x=>if x≠0/\(x<t∨x=t/\j<me) then (bakWait c t me j n).bind f else f ():=by
 rw [show bakWait c t me j (n+1)=(rd c).bind fun x=>if x≠0/\(x<t∨x=t/\j<me) then bakWait c t me j n else .ret () from rfl,Prog.bind_assoc]
 congr 1
 funext x
 split <;> rfl
theorem notes_bakWait (c t me j:Int):∀ n:Nat,(bakWait c t me j n).Notes 0
 | 0=>.ret _ _
 | n+1=>by
   rw [show bakWait c t me j (n+1)=(rd c).bind fun x=>if x≠0/\(x<t∨x=t/\j<me) then bakWait c t me j n else .ret () from rfl]
   refine (notes_rd _).bind0 fun x=>?_
   split
   · exact notes_bakWait c t me j n
   · exact .ret _ _
def bakFor (D:Nat) (base n me t j:Int):Prog Unit:=(zeroC (base+j) D).bind fun _=>bakWait (base+n+j) t me j D
theorem notes_bakFor (D:Nat)(base n me t j:Int):(bakFor D base n me t j).Notes 0:=by
 unfold bakFor
 exact (notes_zeroC _ _).bind0 fun _=>notes_bakWait _ _ _ _ _
def bakIn (D:Nat) (base n room own me:Int) (t:Int):Prog Int :=
 if room<t+1 then (wr (base+me) 0).bind fun _=>(nt 4).bind fun _=>.ret 11 else
  (wr (base+n+me) (t+1)).bind fun _=>(st own (t+1)).bind fun _=>(wr (base+me) 0).bind fun _=>(nt 2).bind fun _ =>
    (forP (fun j _=>bakFor D base n me (t+1) j) (ranksFrom me n.toNat 0) ()).bind fun _=>(nt 3).bind fun _=>.ret 0
def bakA (D:Nat) (base n room own me:Int):Prog Int :=
 (nt 1).bind fun _=>(wr (base+me) 1).bind fun _ =>
   (forP (fun j t=>(rd (base+n+j)).bind fun x=>.ret (max t x)) (ranksFrom me n.toNat 0) 0).bind (bakIn D base n room own me)
def bakR (base n own me:Int):Prog Unit:=(nt 5).bind fun _=>(wr (base+n+me) 0).bind fun _=>st own 0
theorem bakMost_cons {β:Type}(base n a t:Int)(r:List Int)(k:Int->Prog β) :
  (forP (fun j t=>(rd (base+n+j)).bind fun x=>.ret (max t x)) (a :: r) t).bind k=(rd (base+n+a)).bind fun x=>(forP (fun j t=>(rd (base+n+j)).bind fun x=>.ret (max t x)) r (max t x)).bind k:=by
 rw [forP_consB,Prog.bind_assoc]
 rfl
def oneUp (D:Nat) (base:Int) (me:Nat):Nat->Nat->Prog Unit
 | 0,_=>.ret ()
 | f+1,j=>if j<me then (rd (base+j)).bind fun x=>if x=0 then oneUp D base me f (j+1) else
    (wr (base+me) 0).bind fun _=>(zeroC (base+j) D).bind fun _=>(wr (base+me) 1).bind fun _=>oneUp D base me f 0
   else .ret ()
def oneA (D:Nat) (base:Int) (n me:Nat):Prog Int :=
 (nt 1).bind fun _=>(wr (base+me) 1).bind fun _=>(oneUp D base me D 0).bind fun _=>(nt 2).bind fun _ =>
   (forP (fun j _=>zeroC (base+j) D) (ranksFrom (-1) (n-1-me) ((me:Int)+1)) ()).bind fun _=>(nt 3).bind fun _=>.ret 0
def oneR (base me:Int):Prog Unit:=(nt 5).bind fun _=>wr (base+me) 0
theorem oneUp_lt {β:Type}(D:Nat)(base:Int)(me f j:Nat)(h:j<me)(F:Unit->Prog β):(oneUp D base me (f+1) j).bind F=(rd (base+j)).bind fun x=>if x=0 then (oneUp D base me f (j+1)).bind F else
  (wr (base+me) 0).bind fun _=>(zeroC (base+j) D).bind fun _=>(wr (base+me) 1).bind fun _=>(oneUp D base me f 0).bind F:=by
 rw [show oneUp D base me (f+1) j=if j<me then (rd (base+j)).bind fun x=>if x=0 then oneUp D base me f (j+1) else
   (wr (base+me) 0).bind fun _=>(zeroC (base+j) D).bind fun _=>(wr (base+me) 1).bind fun _=>oneUp D base me f 0
  else .ret () from rfl,if_pos h,Prog.bind_assoc]
 congr 1
 funext x
 split
 · rfl
 · simp only [Prog.bind_assoc]
theorem oneUp_ge {β:Type}(D:Nat)(base:Int)(me f:Nat)(F:Unit->Prog β):(oneUp D base me f me).bind F=F ():=by
 cases f with
 | zero=>rfl
 | succ f =>
   rw [show oneUp D base me (f+1) me=if me<me then (rd (base+me)).bind fun x=>if x=0 then oneUp D base me f (me+1) else
    (wr (base+me) 0).bind fun _=>(zeroC (base+me) D).bind fun _=>(wr (base+me) 1).bind fun _=>oneUp D base me f 0
   else .ret () from rfl,if_neg (Nat.lt_irrefl _)]
   rfl
def sumC (l:List Reg):Int:=(l.map cellsM).sum
def sumL (l:List Reg):Int:=(l.map localsM).sum
theorem sumC_next {l:List Reg}{j:Nat}{r:Reg}(h:l[j]?=some r):sumC (l.take (j+1))=sumC (l.take j)+cellsM r:=by
 unfold sumC
 rw [List.take_add_one,h]
 simp [List.sum_append]
theorem sumL_next {l:List Reg}{j:Nat}{r:Reg}(h:l[j]?=some r):sumL (l.take (j+1))=sumL (l.take j)+localsM r:=by
 unfold sumL
 rw [List.take_add_one,h]
 simp [List.sum_append]
theorem sum_bd {l:List Reg}(h:∀ r∈l,r.ok):∀ j:Nat,j<=l.length->(0<=sumC (l.take j)/\sumC (l.take j)<=6272*j)/\(0<=sumL (l.take j)/\sumL (l.take j)<=7072*j)
 | 0,_=>by simp [sumC,sumL]
 | j+1,hj=>by
   obtain⟨r,hr⟩:∃ r,l[j]?=some r:=⟨_,List.getElem?_eq_getElem (by omega)⟩
   have h1:=sum_bd h j (by omega)
   have h2:=cells_nat r (h r (List.mem_of_getElem? hr)).n
   rw [sumC_next hr,sumL_next hr]
   omega
end Kv
namespace Go.Proofs.YtbaajjkopdjbgaaGreat
open Go.RowKit Kv
set_option maxRecDepth 100000 in
set_option maxHeartbeats 1000000 in
theorem size_p (b c:Nat)(rs:List Reg)(w:World)(hb:b<w.heap.size)(hc:∀ (i:Nat) u,(rs.flatMap regVals)[i]?=some u->w.cell? ⟨b,i,none⟩=some u)(hok:∀ r∈rs,r.ok)(hl:rs.length<=300) :
  Calls Tryz.prog 164 #[.slice (some ⟨b,0,none⟩) rs.length c] w fun e w'=>e=.returned (.tuple #[V Z (sumC rs),V Z (sumL rs)])/\Ext w w':=by
 have hokh:=Hd hok
 have hbd:=Hd (sum_bd hok)
 have hch:=Hd hc
 clear hok hc
 go_enter Tryz.func164,Tryz.ntmps164
 go_wp2_with fail
 go_loopw [4,5,10] (fun u v i wr=>∃ j:Nat,i=V Z j/\j<=rs.length/\u=V Z (sumC (rs.take j))/\v=V Z (sumL (rs.take j))/\Ext w wr) (fun _ _ i _=>rs.length-(intOf i).toNat)
 case atStart=>exact⟨0,rfl,by omega,rfl,rfl,Ext.refl w⟩
 case round =>
  obtain⟨j,rfl,hj,rfl,rfl,hX⟩:=hrel
  by_cases hlt:j<rs.length
  · have dl:decide ((j:Int)<(rs.length:Int))=true:=by rw [decide_eq_true_eq];omega
    obtain⟨r,hr⟩:∃ r,rs[j]?=some r:=⟨_,List.getElem?_eq_getElem hlt⟩
    have hrk:=hokh.out r (List.mem_of_getElem? hr)
    have h1:=hbd.out j (by omega)
    have h2:=cells_nat r hrk.n
    have n1:=sumC_next hr
    have n2:=sumL_next hr
    obtain⟨a0,a1,a2,a3,a4,a5,a6⟩:=reg_cells (w:=wr) (b:=b) (fun i u hu=>(hX.cell (p:=⟨b,i,none⟩) hb).trans (hch.out i u hu)) hr
    have hC:=fun w=>cells_all r w hrk.kind hrk.n
    have hL:=fun w=>locals_p r w hrk.kind hrk.n
    unfold encR at hC hL
    have w1:IntKind.i64.wrap (sumC (rs.take j)+cellsM r)=sumC (rs.take (j+1)):=by rw [IntWalk.i64_in _ (by omega),n1]
    have w2:IntKind.i64.wrap (sumL (rs.take j)+localsM r)=sumL (rs.take (j+1)):=by rw [IntWalk.i64_in _ (by omega),n2]
    have c_n:=fun i=>cell_of_heap (heap_alloc_new wr (.cells #[V Z r.kind,V Z r.base,V Z r.loc,V Z r.n,V Z r.wr,V Z r.rd,V Z r.top] 67)) i
    have hX1:=hX.alloc (.cells #[V Z r.kind,V Z r.base,V Z r.loc,V Z r.n,V Z r.wr,V Z r.rd,V Z r.top] 67)
    have g1:=Blk.new wr (.cells #[V Z r.kind,V Z r.base,V Z r.loc,V Z r.n,V Z r.wr,V Z r.rd,V Z r.top] 67)
    clear hr h1 h2 n1 n2;go_wp2_with fail
    refine (hC _).mono ?_
    rintro e w2 ⟨rfl,hx2⟩
    clear c_n
    have g2:=g1.ext hx2
    have c_g:=g2.cells;replace hX1:=hX1.trans hx2;clear hx2 a0 a1 a2 a3 a4 a5 a6 g1;go_wp2_with fail
    refine (hL _).mono ?_
    rintro e w3 ⟨rfl,hx3⟩
    replace hX1:=hX1.trans hx3;clear hx3 c_g g2;go_wp2_with fail
    refine⟨⟨j+1,by go_num,by omega,rfl,rfl,hX1⟩,?_⟩
    simp [intOf];omega
  · obtain rfl:j=rs.length:=by omega
    have dl:decide ((rs.length:Int)<(rs.length:Int))=false:=by rw [decide_eq_false_iff_not];omega
    rw [List.take_length]
    go_wp2_with fail
    first | go_ret2 | go_ret
    exact⟨rfl,hX⟩
set_option maxRecDepth 100000 in
set_option maxHeartbeats 1000000 in
theorem size_r (b c:Nat)(rs:List Reg)(w:World)(hb:b<w.heap.size)(hc:∀ (i:Nat) u,(rs.flatMap regVals)[i]?=some u->w.cell? ⟨b,i,none⟩=some u)(hok:∀ r∈rs,r.ok)(hl:rs.length<=300) :
  Calls Tryz.prog 182 #[.slice (some ⟨b,0,none⟩) rs.length c] w fun e w'=>e=.returned (.tuple #[V Z (sumC rs),V Z (sumL rs)])/\Ext w w':=by
 have hokh:=Hd hok
 have hbd:=Hd (sum_bd hok)
 have hch:=Hd hc
 clear hok hc
 go_enter Tryz.func182,Tryz.ntmps182
 go_wp2_with fail
 go_loopw [4,5,6] (fun u v i wr=>∃ j:Nat,i=V Z j/\j<=rs.length/\u=V Z (sumC (rs.take j))/\v=V Z (sumL (rs.take j))/\Ext w wr) (fun _ _ i _=>rs.length-(intOf i).toNat)
 case atStart=>exact⟨0,rfl,by omega,rfl,rfl,Ext.refl w⟩
 case round =>
  obtain⟨j,rfl,hj,rfl,rfl,hX⟩:=hrel
  by_cases hlt:j<rs.length
  · have dl:decide ((j:Int)<(rs.length:Int))=true:=by rw [decide_eq_true_eq];omega
    obtain⟨r,hr⟩:∃ r,rs[j]?=some r:=⟨_,List.getElem?_eq_getElem hlt⟩
    have hrk:=hokh.out r (List.mem_of_getElem? hr)
    have h1:=hbd.out j (by omega)
    have h2:=cells_nat r hrk.n
    have n1:=sumC_next hr
    have n2:=sumL_next hr
    obtain⟨a0,a1,a2,a3,a4,a5,a6⟩:=reg_cells (w:=wr) (b:=b) (fun i u hu=>(hX.cell (p:=⟨b,i,none⟩) hb).trans (hch.out i u hu)) hr
    have hC:=fun w=>cells_r r w hrk.kind hrk.n
    have hL:=fun w=>locals_r r w hrk.kind hrk.n
    unfold encR at hC hL
    have w1:IntKind.i64.wrap (sumC (rs.take j)+cellsM r)=sumC (rs.take (j+1)):=by rw [IntWalk.i64_in _ (by omega),n1]
    have w2:IntKind.i64.wrap (sumL (rs.take j)+localsM r)=sumL (rs.take (j+1)):=by rw [IntWalk.i64_in _ (by omega),n2]
    have hX1:=hX;clear h1 h2 n1 n2;go_wp2_with fail
    refine (hC _).mono ?_
    rintro e w2 ⟨rfl,hx2⟩
    replace hX1:=hX1.trans hx2;clear hx2 a0 a1 a2 a3 a4 a5 a6
    obtain⟨a0,a1,a2,a3,a4,a5,a6⟩:=reg_cells (w:=w2) (b:=b) (fun i u hu=>(hX1.cell (p:=⟨b,i,none⟩) hb).trans (hch.out i u hu)) hr
    go_wp2_with fail
    refine (hL _).mono ?_
    rintro e w3 ⟨rfl,hx3⟩
    replace hX1:=hX1.trans hx3;clear hx3 a0 a1 a2 a3 a4 a5 a6;go_wp2_with fail
    refine⟨⟨j+1,by go_num,by omega,rfl,rfl,hX1⟩,?_⟩
    simp [intOf];omega
  · obtain rfl:j=rs.length:=by omega
    have dl:decide ((rs.length:Int)<(rs.length:Int))=false:=by rw [decide_eq_false_iff_not];omega
    rw [List.take_length]
    go_wp2_with fail
    first | go_ret2 | go_ret
    exact⟨rfl,hX⟩
theorem bw_told {N:Nat}{mode b c:Int}{rs:List Reg}{m:Nat}(h:layM (bwWants N) N mode b c=some rs):∀ (i:Nat) r,rs[i]?=some r->i≠1+m->i≠1+N+m->2<=N->r.told m:=by
 intro i r hi hm hm2 hN
 obtain⟨⟨h1,h2,_⟩,_⟩:=layM_args h
 have hw:(bwWant N i).wr=if i=0 then -1 else if i<=N then (i:Int)-1 else (i:Int)-1-N:=by
  unfold bwWant
  split
  · rfl
  · split <;> rfl
 refine laid_told (laid_want h hi) ⟨h1,h2⟩ (by omega) ?_ ?_
 · rw [hw]
   split
   · omega
   · split <;> omega
 · rw [hw]
   split
   · omega
   · split <;> omega
end Go.Proofs.YtbaajjkopdjbgaaGreat
namespace Kv
theorem lev_least {m:Nat}(h:m<=64){j:Nat}(hj:j<levels m):2 ^ j<m:=by
 have:∀ m:Nat,m<65->∀ j:Nat,j<levels m->2 ^ j<m:=by decide +kernel
 exact this m (by omega) j hj
end Kv
namespace Go.Proofs.YtbaajjkopdjbgaaGreat
open Go.RowKit Kv
theorem leaves_r (m:Nat)(w:World)(h2:m<=64):Calls Tryz.prog 243 #[V Z m] w fun e w'=>e=.returned (V Z ((2 ^ levels m:Nat):Int))/\w=w':=by
 have hlt:=fun j (hj:j<levels m)=>lev_least h2 hj
 have hge:=lev_ge h2
 have hle:=lev_le h2
 generalize levels (m:Int)=L at *
 have hp2:=(pow_le hle).2
 obtain⟨P,hP⟩:∃ P,2 ^ L=P:=⟨_,rfl⟩
 rw [hP] at hge hp2 ⊢
 have hlth:=Hd hlt
 have hgeh:=Hd hge
 have hPh:=Hd hP
 clear hlt hge hP
 go_enter Tryz.func243,Tryz.ntmps243
 go_wp2_with fail
 go_loop [3] (fun p=>∃ j q:Nat,p=V Z q/\1<=q/\q<=128/\Hid (q=2 ^ j/\j<=L)) (fun p=>256-(intOf p).toNat)
 case atStart=>exact⟨0,1,rfl,by omega,by omega,Hd ⟨rfl,by omega⟩⟩
 case round =>
  obtain⟨j,q,rfl,q1,q2,hq⟩:=hrel
  by_cases hm:q<m
  · have d1:decide ((q:Int)<(m:Int))=true:=by rw [decide_eq_true_eq];omega
    have hj:j<L:=by
     have h1:=hq.out.2;have h3:=hgeh.out
     by_cases e:j=L
     · have h4:=hq.out.1
       rw [e,hPh.out] at h4;omega
     · omega
    have hq2:Hid (2*q=2 ^ (j+1)/\j+1<=L):=Hd ⟨by rw [hq.out.1,Nat.pow_succ];omega,by omega⟩
    clear hq;go_wp2_with fail
    go_round
    case rel=>exact⟨j+1,2*q,by go_num,by omega,by omega,hq2⟩
    case measure=>simp [intOf];omega
  · have d1:decide ((q:Int)<(m:Int))=false:=by rw [decide_eq_false_iff_not];omega
    have hj:j=L:=by
     by_cases e:j=L
     · exact e
     · have:=hlth.out j (by have:=hq.out.2;omega)
       rw [<- hq.out.1] at this
       omega
    have hf:=hq.out.1;rw [hj,hPh.out] at hf;subst hf;clear hq hPh hlth hgeh;go_wp2_with fail
    go_ret
    exact⟨rfl,rfl⟩
theorem each_r (kind:Int)(w:World):Calls Tryz.prog 242 #[V Z kind] w fun e w'=>e=.returned (V Z ((eachK kind:Nat):Int))/\w=w':=by
 unfold eachK
 by_cases h:kind=7
 · have d:(kind==7)=true:=by simpa using h
   rw [if_pos h]
   clear h
   go_enter Tryz.func242,Tryz.ntmps242
   go_wp2_with fail
   go_ret
   exact⟨rfl,rfl⟩
 · have d:(kind==7)=false:=by simpa using h
   rw [if_neg h]
   clear h
   go_enter Tryz.func242,Tryz.ntmps242
   go_wp2_with fail
   go_ret
   exact⟨rfl,rfl⟩
theorem rtwants_r (kind:Int)(m:Nat)(w:World)(h2:m<=64) :
  Calls Tryz.prog 180 #[V Z kind,V Z m] w fun e w'=>∃ v,e=.returned v/\WantsAt w' v (treeWants (eachK kind) m)/\Ext w w':=by
 have hL:=fun w=>leaves_r m w h2
 have hE:=fun w=>each_r kind w
 obtain⟨p1,p2⟩:=pow_le (lev_le h2)
 obtain⟨e1,e2⟩:=each_le kind
 have hW:=fun w=>wants28_r (eachK kind*(2 ^ levels m-1)) w (by
  have:=Nat.mul_le_mul e2 (show 2 ^ levels (m:Int)-1<=63 by omega)
  omega)
 unfold treeWants
 generalize eachK kind=E at *
 generalize 2 ^ levels (m:Int)=P at *
 have hmul:(E:Int)*((P:Int)-1)=((E*(P-1):Nat):Int):=by
  obtain⟨M,rfl⟩:∃ M,P=M+1:=⟨P-1,by omega⟩
  rw [Int.natCast_mul]
  congr 1
  omega
 have hb:E*(P-1)<=4*63:=Nat.mul_le_mul e2 (by omega)
 have w1:IntKind.i64.wrap ((P:Int)-1)=(P:Int)-1:=IntWalk.i64_in _ (by omega)
 have w2:IntKind.i64.wrap ((E:Int)*((P:Int)-1))=((E*(P-1):Nat):Int):=by rw [hmul];exact IntWalk.i64_in _ (by omega)
 generalize E*(P-1)=M at *
 clear hmul
 go_enter Tryz.func180,Tryz.ntmps180
 go_wp2_with fail
 refine (hE _).mono ?_
 rintro e w' ⟨rfl,rfl⟩;go_wp2_with fail
 refine (hL _).mono ?_
 rintro e w' ⟨rfl,rfl⟩;go_wp2_with fail
 refine (hW _).mono ?_
 rintro e w3 ⟨v,rfl,hv,hx⟩
 have hf:=Hd hv
 clear hv;go_wp2_with fail
 go_ret
 exact⟨_,rfl,hf.out,hx⟩
theorem tree_all {E N:Nat}{mode b c:Int}{rs:List Reg}{m:Nat}(h:layM (treeWants E N) N mode b c=some rs)(hm:m<N):∀ r∈rs,r.ok/\(m:Int)<r.n/\r.told m:=by
 intro r hr
 obtain⟨h1,h2⟩:=laid_all h r hr
 refine⟨h1,by omega,?_⟩
 obtain⟨⟨m1,m2,_⟩,_⟩:=layM_args h
 obtain⟨i,hi⟩:=List.getElem?_of_mem hr
 have hil:=(List.getElem?_eq_some_iff.1 hi).1
 have hlen:=layM_len h
 have hwi:(treeWants E N)[i]?=some ⟨-1,1⟩:=by
  unfold treeWants at *
  rw [List.length_replicate] at hlen
  rw [List.getElem?_replicate,if_pos (by omega)]
 obtain⟨r',hr',hL⟩:=layM_at h hwi
 obtain rfl:r=r':=by rw [hi] at hr';simpa using hr'
 by_cases hN:N=1
 · subst hN
   unfold treeWants at hlen
   rw [List.length_replicate,show levels ((1:Nat):Int)=0 from by decide] at hlen
   omega
 · exact laid_told hL ⟨m1,m2⟩ (by omega) (by decide) (by show (-1:Int)≠m;omega)
theorem path_none_p (m place:Int)(w:World)(h:m<1∨64<m∨place<0∨m<=place):Calls Tryz.prog 172 #[V Z m,V Z place] w fun e w'=>e=.returned (.slice none 0 0)/\w=w':=by
 by_cases h1:m<1
 · have d1:decide (m<1)=true:=by rw [decide_eq_true_eq];exact h1
   clear h h1
   go_enter Tryz.func172,Tryz.ntmps172
   go_wp2_with fail
   go_ret
   exact⟨rfl,rfl⟩
 · have d1:decide (m<1)=false:=by rw [decide_eq_false_iff_not];exact h1
   by_cases h2:64<m
   · have d2:decide (64<m)=true:=by rw [decide_eq_true_eq];exact h2
     clear h h1 h2
     go_enter Tryz.func172,Tryz.ntmps172
     go_wp2_with fail
     go_ret
     exact⟨rfl,rfl⟩
   · have d2:decide (64<m)=false:=by rw [decide_eq_false_iff_not];exact h2
     by_cases h3:place<0
     · have d3:decide (place<0)=true:=by rw [decide_eq_true_eq];exact h3
       clear h h1 h2 h3
       go_enter Tryz.func172,Tryz.ntmps172
       go_wp2_with fail
       go_ret
       exact⟨rfl,rfl⟩
     · have d3:decide (place<0)=false:=by rw [decide_eq_false_iff_not];exact h3
       have d4:decide (m<=place)=true:=by rw [decide_eq_true_eq];omega
       clear h h1 h2 h3
       go_enter Tryz.func172,Tryz.ntmps172
       go_wp2_with fail
       go_ret
       exact⟨rfl,rfl⟩
end Go.Proofs.YtbaajjkopdjbgaaGreat
namespace Go.Proofs.YtbaajjkopdjbgaaGreat
open Kv
def lkWants (alg:Int) (N:Nat):List Want :=
 if alg=3 then bwWants N else if alg=4 then filWants N else if alg=5 then fastWants N else if alg=6∨alg=7 then treeWants (eachK alg) N else adWants N
def lkA (D:Nat) (alg:Int) (N:Nat) (base loc room:Int) (rs:List Reg) (m:Nat):Prog Int :=
 if alg=1 then bakA D base N room loc m else if alg=2 then oneA D base N m else if alg=3 then bwA D rs (loc+sumL rs) N m else if alg=4 then filA D rs N m else if alg=5 then fastA D rs N m
 else if alg=8 then adA D rs (loc+sumL rs) N m else treeA (eachK alg) D rs N m
def lkR (alg:Int) (N:Nat) (base loc:Int) (rs:List Reg) (m:Nat):Prog Unit :=
 if alg=1 then bakR base N loc m else if alg=2 then oneR base m else if alg=3 then bwR rs (loc+sumL rs) N m else if alg=4 then filR rs m else if alg=5 then fastR rs m
 else if alg=8 then adR rs (loc+sumL rs) N m else treeR (eachK alg) rs N m
def lkC (alg:Int) (N:Nat) (rs:List Reg):Int:=if alg=1 then 2*N else if alg=2 then N else sumC rs
def lkL (alg:Int) (rs:List Reg):Int:=if alg=1 then 1 else if alg=2 then 0 else if alg=3∨alg=8 then sumL rs+1 else sumL rs
structure LkOk (alg:Int) (N:Nat) (mode base loc room:Int) (rs:List Reg):Prop where
 halg:1<=alg/\alg<=8
 hn:1<=N/\N<=8
 hmode:1<=mode/\mode<=2
 hbase:0<=base/\base<=32768
 hloc:0<=loc/\loc<=32768
 hroom:1<=room/\room<=1048576
 hlay:3<=alg->layM (lkWants alg N) N mode base loc=some rs
 hcells:base+lkC alg N rs<=32768
 hlocals:loc+lkL alg rs<=32768
theorem notes_fastTry (N:Nat)(l:List Reg)(n me:Int):∀ k:Nat,(fastTry N l n me k).Notes 0
 | 0=>.ret _ _
 | k+1=>by
   have ih:=notes_fastTry N l n me k
   rw [show fastTry N l n me (k+1)=(regW (regAt l (2+me)) me 1).bind fun _=>(regW (regAt l 0) me (me+1)).bind fun _=>(regR (regAt l 1) me).bind fun y =>
    if y=0 then
     (regW (regAt l 1) me (me+1)).bind fun _=>(regR (regAt l 0) me).bind fun x =>
       if x=me+1 then .ret () else
        (regW (regAt l (2+me)) me 0).bind fun _=>(forP (fun j _=>zeroP (regAt l (2+j)) me N) (ranksFrom (-1) n.toNat 0) ()).bind fun _ =>
          (regR (regAt l 1) me).bind fun y=>if y=me+1 then .ret () else (zeroP (regAt l 1) me N).bind fun _=>fastTry N l n me k
    else (regW (regAt l (2+me)) me 0).bind fun _=>(zeroP (regAt l 1) me N).bind fun _=>fastTry N l n me k from rfl]
   refine (notes_regW _ _ _).bind0 fun _=>(notes_regW _ _ _).bind0 fun _=>(notes_regR _ _).bind0 fun y=>?_
   split
   · refine (notes_regW _ _ _).bind0 fun _=>(notes_regR _ _).bind0 fun x=>?_
     split
     · exact .ret _ _
     · refine (notes_regW _ _ _).bind0 fun _=>(notes_forP (fun _ _=>notes_zeroP _ _ _) _ _).bind0 fun _=>(notes_regR _ _).bind0 fun y=>?_
       split
       · exact .ret _ _
       · exact (notes_zeroP _ _ _).bind0 fun _=>ih
   · exact (notes_regW _ _ _).bind0 fun _=>(notes_zeroP _ _ _).bind0 fun _=>ih
theorem notes_filLevel (N:Nat)(l:List Reg)(n me level:Int):(filLevel N l n me level).Notes 0:=by
 unfold filLevel
 exact (notes_regW _ _ _).bind0 fun _=>(notes_regW _ _ _).bind0 fun _=>notes_forP (fun _ _=>notes_filWait _ _ _ _ _) _ _
theorem notes_oneUp (D:Nat)(base:Int)(me:Nat):∀ f j:Nat,(oneUp D base me f j).Notes 0
 | 0,_=>.ret _ _
 | f+1,j=>by
   rw [show oneUp D base me (f+1) j=if j<me then (rd (base+j)).bind fun x=>if x=0 then oneUp D base me f (j+1) else
    (wr (base+me) 0).bind fun _=>(zeroC (base+j) D).bind fun _=>(wr (base+me) 1).bind fun _=>oneUp D base me f 0
   else .ret () from rfl]
   split
   · refine (notes_rd _).bind0 fun x=>?_
     split
     · exact notes_oneUp D base me f (j+1)
     · exact (notes_wr _ _).bind0 fun _=>(notes_zeroC _ _).bind0 fun _=>(notes_wr _ _).bind0 fun _=>notes_oneUp D base me f 0
   · exact .ret _ _
theorem notes_in {α:Type}{p:Prog α}(h:p.Notes 0)(a:Int):((nt 1).bind fun _=>p.bind fun _=>(nt 3).bind fun _=>Prog.ret a).Notes 4 :=
 Prog.Notes.mono ((notes_nt 1).bind fun _=>h.bind0 fun _=>(notes_nt 3).bind fun _=>.ret a 0) (by omega)
theorem notes_lkA (D:Nat)(alg:Int)(N:Nat)(base loc room:Int)(rs:List Reg)(m:Nat):(lkA D alg N base loc room rs m).Notes 4:=by
 unfold lkA
 repeat' split
 · unfold bakA
   refine Prog.Notes.mono ((notes_nt 1).bind fun _=>(notes_wr _ _).bind0 fun _=>(notes_forP (fun j t=>(notes_rd _).bind0 fun x=>.ret _ 0) _ _).bind0 fun t=>(show (bakIn D base N room loc m t).Notes 3 from ?_)) (by omega)
   unfold bakIn
   split
   · exact Prog.Notes.mono ((notes_wr _ _).bind0 fun _=>(notes_nt 4).bind fun _=>.ret _ 0) (by omega)
   · exact Prog.Notes.mono ((notes_wr _ _).bind0 fun _=>(notes_st _ _).bind0 fun _=>(notes_wr _ _).bind0 fun _=>(notes_nt 2).bind fun _=>(notes_forP (fun _ _=>notes_bakFor _ _ _ _ _ _) _ _).bind0 fun _=>(notes_nt 3).bind fun _=>.ret _ 0) (by omega)
 · unfold oneA
   exact Prog.Notes.mono ((notes_nt 1).bind fun _=>(notes_wr _ _).bind0 fun _=>(notes_oneUp _ _ _ _ _).bind0 fun _=>(notes_nt 2).bind fun _=>(notes_forP (fun _ _=>notes_zeroC _ _) _ _).bind0 fun _=>(notes_nt 3).bind fun _=>.ret _ 0) (by omega)
 · unfold bwA bwMost
   exact Prog.Notes.mono ((notes_nt 1).bind fun _=>(notes_regW _ _ _).bind0 fun _=>(notes_regR _ _).bind0 fun y=>(notes_st _ _).bind0 fun _=>(notes_forP (fun j t=>(notes_regR _ _).bind0 fun x=>.ret _ 0) _ _).bind0 fun t =>
    (notes_regW _ _ _).bind0 fun _=>(notes_regW _ _ _).bind0 fun _=>(notes_nt 2).bind fun _=>(notes_forP (fun j _=>notes_bwFor rs D N m j (t+1) (bitM y)) _ _).bind0 fun _=>(notes_nt 3).bind fun _=>.ret _ 0) (by omega)
 · exact notes_in (notes_forP (fun _ _=>notes_filLevel _ _ _ _ _) _ _) 0
 · exact notes_in (notes_fastTry _ _ _ _ _) 0
 · unfold adA
   exact Prog.Notes.mono ((notes_nt 1).bind fun _=>(notes_getM _ _ _ _).bind0 fun name=>(notes_adClimb _ _ _ _ _).bind0 fun _=>(notes_nt 3).bind fun _=>.ret _ 0) (by omega)
 · exact notes_in (notes_forP (fun _ _=>notes_nodeE _ _ _ _ _) _ _) 0
theorem notes_lkR (alg:Int)(N:Nat)(base loc:Int)(rs:List Reg)(m:Nat):(lkR alg N base loc rs m).Notes 1:=by
 unfold lkR
 repeat' split
 · exact (notes_nt 5).bind fun _=>(notes_wr _ _).bind0 fun _=>notes_st _ _
 · exact (notes_nt 5).bind fun _=>notes_wr _ _
 · exact (notes_nt 5).bind fun _=>(notes_gt _).bind0 fun x=>(notes_regW _ _ _).bind0 fun _=>notes_regW _ _ _
 · exact (notes_nt 5).bind fun _=>notes_regW _ _ _
 · exact (notes_nt 5).bind fun _=>(notes_regW _ _ _).bind0 fun _=>notes_regW _ _ _
 · unfold adR
   have hd:∀ name:Int,(adDown (rs.drop (2*triN N)) (triN N) (m:Int) name).Notes 0:=fun name=>by
    unfold adDown
    split
    · exact notes_forP (fun _ _=>notes_nodeL _ _ _ _) _ _
    · exact .ret _ _
   exact (notes_nt 5).bind fun _=>(notes_gt _).bind0 fun had=>hd _
 · exact (notes_nt 5).bind fun _=>notes_forP (fun _ _=>notes_nodeL _ _ _ _) _ _
theorem ad_told {N:Nat}{mode b c:Int}{rs:List Reg}{m:Nat}(h:layM (adWants N) N mode b c=some rs)(hN:1<=N):∀ r∈rs.drop (2*triN N),r.told m:=by
 intro r hr
 obtain⟨i,hi⟩:=List.getElem?_of_mem hr
 rw [List.getElem?_drop] at hi
 have hil:=(List.getElem?_eq_some_iff.1 hi).1
 have hlen:=layM_len h
 rw [adWants_len] at hlen
 obtain⟨⟨m1,m2,_⟩,_⟩:=layM_args h
 have hwi:(adWants N)[2*triN N+i]?=some ⟨-1,1⟩:=by
  unfold adWants treeWants
  rw [List.getElem?_append_right (by rw [renW_len];omega),renW_len,List.getElem?_replicate,if_pos (by omega)]
 obtain⟨r',hr',hL⟩:=layM_at h hwi
 obtain rfl:r=r':=by rw [hi] at hr';simpa using hr'
 by_cases h1:N=1
 · subst h1
   rw [show triN 1=1 from by decide,show levels ((1:Nat):Int)=0 from by decide] at hlen
   rw [show triN 1=1 from by decide] at hil
   omega
 · exact laid_told hL ⟨m1,m2⟩ (by omega) (by decide) (by show (-1:Int)≠m;omega)
end Go.Proofs.YtbaajjkopdjbgaaGreat
namespace Go.Proofs.YtbaajjkopdjbgaaGreat
open Go.RowKit Kv
theorem heap_setCells_all {w:World}{z:Nat}{t:TypeId}{cur:Array Value}(h:w.heap[z]?=some (.cells cur t (0,0)))(vs:List Value)(hl:vs.length=cur.size):(w.setCells z 0 vs).heap[z]?=some (.cells vs.toArray t (0,0)):=by
 obtain⟨cur',h1,h2⟩:=heap_setCells_ex z t vs 0 w cur h
 rw [h1]
 congr 2
 apply Array.ext_getElem?
 intro i
 by_cases hi:i<vs.length
 · have hc:=World.cell?_setCells_in z vs 0 w (fun j hj=>by
    rw [Nat.zero_add,cell_of_heap h]
    have:j<cur.size:=by omega
    simp [this]) i hi
   rw [Nat.zero_add,cell_of_heap h1] at hc
   rw [hc]
   simp [hi]
 · rw [Array.getElem?_eq_none (by omega),Array.getElem?_eq_none (by simpa using hi)]
set_option maxRecDepth 100000 in
set_option maxHeartbeats 1000000 in
theorem bwlay_p (alg mode base loc room me:Int)(N:Nat)(rs:List Reg)(w:World)(h1:1<=N)(h2:N<=8)(hl:layM (bwWants N) N mode base loc=some rs)(hlc:0<=loc/\loc<=32768)(hm0:0<=me)(hm1:me<N)(r0:Reg)(hr0:rs[0]?=some r0) :
  Calls Tryz.prog 244 #[.agg #[V Z alg,V Z N,V Z mode,V Z base,V Z loc,V Z room],V Z me] w fun e w'=>∃ b c1 c2,e=.returned (.tuple #[.agg #[V Z r0.kind,V Z r0.base,V Z r0.loc,V Z r0.n,V Z r0.wr,V Z r0.rd,V Z r0.top,.slice (some ⟨b,7,none⟩) N c1,.slice (some ⟨b,(1+N)*7,none⟩) N c2,V Z (loc+sumL rs)],V Z 0])/\w.heap.size<=b/\b<w'.heap.size/\(∀ (i:Nat) u,(rs.flatMap regVals)[i]?=some u->w'.cell? ⟨b,i,none⟩=some u)/\Ext w w':=by
 have hlen:=layM_len hl
 rw [bwWants_len] at hlen
 have hok:∀ r∈rs,r.ok:=fun r hr=>(laid_all hl r hr).1
 have hbd:=sum_bd hok rs.length (Nat.le_refl _)
 rw [List.take_length] at hbd
 have hw:=IntWalk.i64_in (loc+sumL rs) (by omega)
 have hw2:=IntWalk.i64_in ((1:Int)+(N:Int)) (by omega)
 replace hl:=Hd hl
 have hlenh:=Hd hlen
 have hokh:=Hd hok
 have hr0h:=Hd hr0
 clear hlen hok hbd hr0
 have d1:decide (me<0)=false:=by rw [decide_eq_false_iff_not];omega
 have d2:decide ((N:Int)<=me)=false:=by rw [decide_eq_false_iff_not];omega
 have hX:=Ext.refl w
 have b1:=Blk.new w (.cells #[V Z alg,V Z N,V Z mode,V Z base,V Z loc,V Z room] 23)
 replace hX:=hX.alloc (.cells #[V Z alg,V Z N,V Z mode,V Z base,V Z loc,V Z room] 23)
 have c_b1:=b1.cells
 go_enter Tryz.func244,Tryz.ntmps244
 go_wp2_with fail
 have z1:=Blk.new (w.alloc (.cells #[V Z alg,V Z N,V Z mode,V Z base,V Z loc,V Z room] 23)) (.cells #[V Z 0,V Z 0,V Z 0,V Z 0,V Z 0,V Z 0,V Z 0,.slice none 0 0,.slice none 0 0,V Z 0] 187)
 rw [World.size_alloc] at z1
 replace b1:=b1.alloc (.cells #[V Z 0,V Z 0,V Z 0,V Z 0,V Z 0,V Z 0,V Z 0,.slice none 0 0,.slice none 0 0,V Z 0] 187)
 replace hX:=hX.alloc (.cells #[V Z 0,V Z 0,V Z 0,V Z 0,V Z 0,V Z 0,V Z 0,.slice none 0 0,.slice none 0 0,V Z 0] 187)
 clear c_b1
 generalize World.alloc (World.alloc w _) _=W at *
 have hXW:=hX;clear hX
 have hX:=(Ext.refl W).drew
 have hS:∀ w',Ext W w'->(∀ i,w'.cell? ⟨w.heap.size,i,none⟩=(#[V Z alg,V Z N,V Z mode,V Z base,V Z loc,V Z room]:Array Value)[i]?):=fun w' hx=>(b1.ext hx).cells
 go_region_held2 (fun w'=>∀ i,w'.cell? ⟨w.heap.size,i,none⟩=(#[V Z alg,V Z N,V Z mode,V Z base,V Z loc,V Z room]:Array Value)[i]?) (exact hS _ hX)
  (first
    | (go_at_call 185
       refine (bwwants_p N _ h1 h2).mono ?_
       rintro e w2 ⟨v2,rfl,hw2,hx⟩
       replace hX:=hX.trans hx;have hz2:=hX.size
       clear hx)
    | (go_at_call 163
       refine (layp_some hl.out _ (hw2.ext (Ext.refl _)) (by rw [bwWants_len];omega)).mono ?_
       rintro e w3 ⟨v3,rfl,hr3,hx⟩
       replace hX:=hX.trans hx
       clear hx))
 rename_i hh
 clear hh
 obtain⟨⟨A,c0,rfl,q1,q2,hV⟩,hown⟩:=hr3
 obtain⟨c,rfl⟩:∃ c,c0=c+N+2:=⟨c0-N-2,by have:=hlenh.out;omega⟩
 obtain⟨b,rfl,hb,hcells⟩:=hV (by cases rs with | nil=>have:=hlenh.out;simp only [List.length_nil] at this;omega | cons r l=>simp [regVals])
 have hgeW:W.heap.size<=b:=Nat.le_trans hz2 (hown b rfl)
 have hge:w.heap.size<=b:=Nat.le_trans hXW.size hgeW
 have hch:=Hd hcells
 clear hcells hV hown hz2;go_wp2_with fail
 refine (size_p b (c+N+2) rs w3 hb hch.out hokh.out (by have:=hlenh.out;omega)).mono ?_
 rintro e w4 ⟨rfl,hx4⟩
 have hX4:=hX.trans hx4
 have hcells4:∀ (i:Nat) u,(rs.flatMap regVals)[i]?=some u->w4.cell? ⟨b,i,none⟩=some u:=fun i u hu=>(hx4.cell (p:=⟨b,i,none⟩) hb).trans (hch.out i u hu)
 have hb4:=Nat.lt_of_lt_of_le hb hx4.size
 obtain⟨a0,a1,a2,a3,a4,a5,a6⟩:=reg_cells (w:=w4) (b:=b) hcells4 hr0h.out
 simp only [Nat.zero_mul,Nat.zero_add] at a0 a1 a2 a3 a4 a5 a6
 have c_b4:=(b1.ext hX4).cells
 have z4:=z1.ext hX4
 have hlen9:(rs.length:Int)=2*(N:Int)+1:=by have:=hlenh.out;omega
 have hcells4h:=Hd hcells4
 have c_z4:=z4.cells
 have hfz:∀ i,w4.frozen? ⟨w.heap.size+1,i,none⟩=false:=fun i=>by
  have z5:=z4
  unfold Blk at z5
  simp [World.frozen?,z5]
 have l1:(0:Int)<2*(N:Int)+1:=by omega
 clear hcells4 hx4 hX hch hb;go_wp2_with fail
 go_region
 have hne:w.heap.size+1≠b:=by have:=z1.lt;omega
 have hE4:Ext w w4:=hXW.trans hX4
 have hg9:w.heap.size<=w.heap.size+1:=Nat.le_succ _
 have hWW:((((((((((w4.setCell ⟨w.heap.size+1,0,none⟩ (V Z r0.kind)).setCell ⟨w.heap.size+1,1,none⟩ (V Z r0.base)).setCell ⟨w.heap.size+1,2,none⟩ (V Z r0.loc)).setCell ⟨w.heap.size+1,3,none⟩ (V Z r0.n)).setCell ⟨w.heap.size+1,4,none⟩ (V Z r0.wr)).setCell ⟨w.heap.size+1,5,none⟩ (V Z r0.rd)).setCell ⟨w.heap.size+1,6,none⟩ (V Z r0.top)).setCell ⟨w.heap.size+1,7,none⟩ (.slice (some ⟨b,7,none⟩) N (c+N+1))).setCell ⟨w.heap.size+1,8,none⟩ (.slice (some ⟨b,(1+N)*7,none⟩) (rs.length-(1+N)) (c+N+2-(1+N)))).setCell ⟨w.heap.size+1,9,none⟩ (V Z (loc+sumL rs)))=w4.setCells (w.heap.size+1) 0 [V Z r0.kind,V Z r0.base,V Z r0.loc,V Z r0.n,V Z r0.wr,V Z r0.rd,V Z r0.top,.slice (some ⟨b,7,none⟩) N (c+N+1),.slice (some ⟨b,(1+N)*7,none⟩) (rs.length-(1+N)) (c+N+2-(1+N)),V Z (loc+sumL rs)]:=rfl
 obtain⟨W5,hW5⟩:∃ W5,W5=w4.setCells (w.heap.size+1) 0 [V Z r0.kind,V Z r0.base,V Z r0.loc,V Z r0.n,V Z r0.wr,V Z r0.rd,V Z r0.top,.slice (some ⟨b,7,none⟩) N (c+N+1),.slice (some ⟨b,(1+N)*7,none⟩) (rs.length-(1+N)) (c+N+2-(1+N)),V Z (loc+sumL rs)]:=⟨_,rfl⟩
 have z5:W5.heap[w.heap.size+1]?=some (.cells #[V Z r0.kind,V Z r0.base,V Z r0.loc,V Z r0.n,V Z r0.wr,V Z r0.rd,V Z r0.top,.slice (some ⟨b,7,none⟩) N (c+N+1),.slice (some ⟨b,(1+N)*7,none⟩) (rs.length-(1+N)) (c+N+2-(1+N)),V Z (loc+sumL rs)] 187 (0,0)):=by
  rw [hW5]
  exact heap_setCells_all z4 [V Z r0.kind,V Z r0.base,V Z r0.loc,V Z r0.n,V Z r0.wr,V Z r0.rd,V Z r0.top,.slice (some ⟨b,7,none⟩) N (c+N+1),.slice (some ⟨b,(1+N)*7,none⟩) (rs.length-(1+N)) (c+N+2-(1+N)),V Z (loc+sumL rs)] rfl
 have hE5:Ext w W5:=by
  rw [hW5]
  exact Ext.setCells hE4 hg9 _ _
 have hB:W5.heap[b]?=w4.heap[b]?:=by
  rw [hW5]
  exact World.heap_setCells_other _ _ _ _ hb4 (fun h=>hne h.symm)
 rw [<- hW5] at hWW
 clear hW5
 have hcl:∀ i,W5.cell? ⟨b,i,none⟩=w4.cell? ⟨b,i,none⟩:=fun i=>World.cell?_of_block (w:=w4) (a:=⟨b,i,none⟩) hB
 have hb5:b<W5.heap.size:=by
  have:W5.heap[b]?=some w4.heap[b]:=by rw [hB];exact Array.getElem?_eq_getElem hb4
  exact (Array.getElem?_eq_some_iff.1 this).1
 have hcells5:Hid (∀ (i:Nat) u,(rs.flatMap regVals)[i]?=some u->W5.cell? ⟨b,i,none⟩=some u):=Hd fun i u hu=>(hcl i).trans (hcells4h.out i u hu)
 have c_z5:=fun i=>cell_of_heap z5 i
 try rw [hWW]
 clear a0 a1 a2 a3 a4 a5 a6 c_b4 c_z4 hfz hcl hB hcells4h z4 z1 b1;go_wp2_with fail
 refine bodyPost_ret (v:=.tuple #[.agg #[V Z r0.kind,V Z r0.base,V Z r0.loc,V Z r0.n,V Z r0.wr,V Z r0.rd,V Z r0.top,.slice (some ⟨b,7,none⟩) N (c+N+1),.slice (some ⟨b,(1+N)*7,none⟩) (rs.length-(1+N)) (c+N+2-(1+N)),V Z (loc+sumL rs)],V Z 0]) (by simp [results,Tryz.results244,go_sem,c_z5]) rfl ?_
 rw [show rs.length-(1+N)=N from by have:=hlenh.out;omega]
 exact⟨_,_,_,rfl,hge,hb5,hcells5.out,hE5.drew⟩
end Go.Proofs.YtbaajjkopdjbgaaGreat
namespace Kv
theorem Ref.congr {α:Type}{T T':Prog α}(h:∀ S,T.run S=T'.run S){o o':Bool}{S S':TS}{a:α}(hr:Ref T o S a o' S'):Ref T' o S a o' S':=by
 cases hr with
 | over=>exact .over _ _
 | done k=>exact .done ((h _).symm.trans k)
 | stop _ k=>exact .stop _ ((h _).symm.trans k)
end Kv
namespace Go.Proofs.YtbaajjkopdjbgaaGreat
open Go.RowKit Kv
theorem bwbit_p (x:Int)(w:World):Calls Tryz.prog 245 #[V Z x] w fun e w'=>e=.returned (V Z (bitM x))/\w=w':=by
 unfold bitM
 by_cases h:x=0
 · rw [if_pos h]
   go_enter Tryz.func245,Tryz.ntmps245
   go_wp2_with fail
   go_ret
   exact⟨rfl,rfl⟩
 · rw [if_neg h]
   have hb:(x != 0)=true:=by rw [bne_iff_ne];exact h
   go_enter Tryz.func245,Tryz.ntmps245
   go_wp2_with fail
   go_ret
   exact⟨rfl,rfl⟩
set_option maxRecDepth 100000 in
set_option maxHeartbeats 1000000 in
theorem bwrel_p (B p N:Nat)(S:TS)(alg mode base loc room:Int)(m:Nat)(rs:List Reg)(w:World)(h:Plays B w p S)(h1:1<=N)(h2:N<=8)(hm1:m<N)(hl:layM (bwWants N) N mode base loc=some rs)(hlc:0<=loc/\loc<=32768)
  (hok:∀ r∈rs,r.ok/\r.n=N)(hn0:S.nts.length<=100000) :
  Calls Tryz.prog 187 #[.pointer (some ⟨p,0,none⟩),.agg #[V Z alg,V Z N,V Z mode,V Z base,V Z loc,V Z room],V Z m] w (Post encU B p w ((bwR rs (loc+sumL rs) N m).run S)):=by
 have hlen:=layM_len hl
 rw [bwWants_len] at hlen
 generalize hR:Post encU B p w ((bwR rs (loc+sumL rs) N m).run S)=R
 have hO:Owes R encU B p w ((bwR rs (loc+sumL rs) N m).run S):=hR▸owes _ _ _ _ _
 clear hR
 obtain⟨b1,hK,hP⟩:=h.entry (.cells #[V Z alg,V Z N,V Z mode,V Z base,V Z loc,V Z room] 23)
 have c_b1:=b1.cells;clear h;unfold bwR at hO
 obtain⟨r0,hr0⟩:∃ r,rs[0]?=some r:=⟨_,List.getElem?_eq_getElem (by omega)⟩
 obtain⟨rm,hrm⟩:∃ r,rs[1+N+m]?=some r:=⟨_,List.getElem?_eq_getElem (by omega)⟩
 have hok0:=(hok _ (List.mem_of_getElem? hr0)).1
 have hm0':(m:Int)<r0.n:=by rw [(hok _ (List.mem_of_getElem? hr0)).2];omega
 have hokm:=(hok _ (List.mem_of_getElem? hrm)).1
 have hmm:(m:Int)<rm.n:=by rw [(hok _ (List.mem_of_getElem? hrm)).2];omega
 rw [regAt_of (show (0:Int)=((0:Nat):Int) from rfl) hr0,regAt_of (show (1:Int)+(N:Int)+(m:Int)=((1+N+m:Nat):Int) from by omega) hrm] at hO
 have hmN:(m:Int)<(N:Int):=by omega
 have hrh:=Hd (And.intro hr0 hrm)
 have hlM:=Hd hl
 clear hlen hr0 hrm hok hl
 go_enter Tryz.func187,Tryz.ntmps187
 go_wp2_with fail
 refine (bwlay_p alg mode base loc room m N rs _ h1 h2 hlM.out hlc (by omega) (by omega) r0 hrh.out.1).mono ?_
 rintro e w1 ⟨b,c1,c2,rfl,hge,hb,hcells,hx⟩
 have hreg:RegsAt [2,3,4] w1 p b rs:=⟨hb,hP.fresh hx hge,hcells⟩
 replace hK:=hK.trans (Keep.of_ext hx hP.lt hP.le);replace hP:=hP.ext hx;clear hx hcells hge hb c_b1 b1
 generalize w.heap.size=z0 at *
 have g1:=hP.held (.cells #[V Z r0.kind,V Z r0.base,V Z r0.loc,V Z r0.n,V Z r0.wr,V Z r0.rd,V Z r0.top,.slice (some ⟨b,7,none⟩) N c1,.slice (some ⟨b,(1+N)*7,none⟩) N c2,V Z (loc+sumL rs)] 187)
 replace hreg:=hreg.extL ((Ext.refl w1).alloc (.cells #[V Z r0.kind,V Z r0.base,V Z r0.loc,V Z r0.n,V Z r0.wr,V Z r0.rd,V Z r0.top,.slice (some ⟨b,7,none⟩) N c1,.slice (some ⟨b,(1+N)*7,none⟩) N c2,V Z (loc+sumL rs)] 187)) hP.lt
 replace hK:=hK.trans (Keep.alloc (.cells #[V Z r0.kind,V Z r0.base,V Z r0.loc,V Z r0.n,V Z r0.wr,V Z r0.rd,V Z r0.top,.slice (some ⟨b,7,none⟩) N c1,.slice (some ⟨b,(1+N)*7,none⟩) N c2,V Z (loc+sumL rs)] 187) hP.lt hP.le)
 replace hP:=hP.alloc (.cells #[V Z r0.kind,V Z r0.base,V Z r0.loc,V Z r0.n,V Z r0.wr,V Z r0.rd,V Z r0.top,.slice (some ⟨b,7,none⟩) N c1,.slice (some ⟨b,(1+N)*7,none⟩) N c2,V Z (loc+sumL rs)] 187)
 go_wp2_with fail
 generalize w1.heap.size=z at *
 generalize w1.alloc _=W at *
 refine tstepN (notes_nt 5) hO hK (noteO hP (by unfold maxAns;omega)) (fun _ h=>⟨rfl,h⟩) ?_
 clear hO hK hP;intro u S1 w2 _ _ _ hP hk hK hO;replace hreg:=hreg.keep hk;replace g1:=g1.keep hk;clear hk;have c_g:=g1.cells;have hOh:=Hd hO;clear hO;go_wp2_with fail
 replace hO:=hOh.out;clear hOh
 refine (get_p B p S1 (loc+sumL rs) _ hP).mono ?_
 rintro e w' ⟨rfl,rfl⟩;rw [run_gt] at hO
 generalize S1.got (loc+sumL rs)=x at hO ⊢
 have hOh:=Hd hO;clear hO;go_wp2_with fail
 refine (bwbit_p x _).mono ?_
 rintro e w' ⟨rfl,rfl⟩
 have hbx:0<=bitM x/\bitM x<=1:=bitM_bd x
 generalize bitM x=bx at *
 have hw3:=IntWalk.i64_in (1-bx) (by omega)
 go_wp2_with fail
 replace hO:=hOh.out;clear hOh c_g
 refine tstepN (notes_regW _ _ _) hO hK (reg_write_p B p S1 r0 m (1-bx) _ hP hok0 ⟨by omega,hm0'⟩) (fun _ h=>⟨rfl,h⟩) ?_
 clear hO hK hP;intro u S2 w3 _ _ _ hP hk hK hO;replace hreg:=hreg.keep hk;replace g1:=g1.keep hk;clear hk;have c_g:=g1.cells
 obtain⟨a0,a1,a2,a3,a4,a5,a6⟩:=hreg.nth hrh.out.2
 have hsh:(1+N+m)*7=(1+N)*7+m*7:=by omega
 rw [hsh] at a0 a1 a2 a3 a4 a5 a6
 have hOh:=Hd hO;clear hO;go_wp2_with fail
 replace hO:=hOh.out;clear a0 a1 a2 a3 a4 a5 a6 hrh hreg hOh c_g
 refine tlast hO hK (reg_write_p B p S2 rm m bx _ hP hokm ⟨by omega,hmm⟩) (fun _ h=>⟨rfl,h⟩) ?_
 clear hO hK hP;intro u S3 w4 hr hP hk hK hO
 have hf:=hO.done hP hK
 clear hO hP hK hr hk;go_wp2_with fail
 first | exact hf | (refine bodyPost_ret (results_none rfl _ _ _) rfl ?_;exact hf)
end Go.Proofs.YtbaajjkopdjbgaaGreat
namespace Kv
end Kv
namespace Go.Proofs.YtbaajjkopdjbgaaGreat
open Go.RowKit Kv
set_option maxRecDepth 100000 in
set_option maxHeartbeats 1000000 in
theorem fwait_p (B p D:Nat)(S:TS)(r:Reg)(me:Int)(w:World)(h:Plays B w p S)(hr:r.ok)(hm0:0<=me)(hmr:me<r.n)(ht:r.told me)(hD:S.left<D) :
  Calls Tryz.prog 249 #[.pointer (some ⟨p,0,none⟩),encR r,V Z me] w (Post encB B p w (((zeroP r me D).bind fun _=>.ret true).run S)):=by
 generalize hR:Post encB B p w (((zeroP r me D).bind fun _=>.ret true).run S)=R
 have hO:Owes R encB B p w (((zeroP r me D).bind fun _=>.ret true).run S):=hR▸owes _ _ _ _ _
 clear hR
 have hCm:=fun w=>cells_pm r me w hr ht ⟨hm0,hmr⟩
 have hRd:=fun S w (h:Plays B w p S)=>reg_read_p B p S r me w h hr ⟨hm0,hmr⟩
 unfold encR at hCm hRd ⊢
 obtain⟨b1,hK,hP⟩:=h.entry (.cells #[V Z r.kind,V Z r.base,V Z r.loc,V Z r.n,V Z r.wr,V Z r.rd,V Z r.top] 67)
 have c_b1:=b1.cells;clear h
 have hRh:=Hd hRd
 clear hRd
 go_enter Tryz.func249,Tryz.ntmps249
 go_wp2_with fail
 clear c_b1
 generalize hbb:w.heap.size=b at *
 generalize World.alloc _ _=W0 at *
 have hOh:=Hd hO;clear hO hbb
 go_loopw [] (fun wr=>∃ (n:Nat) (S2:TS),Plays B wr p S2/\KeepP B p w wr/\HeldP wr p b (.cells #[V Z r.kind,V Z r.base,V Z r.loc,V Z r.n,V Z r.wr,V Z r.rd,V Z r.top] 67)/\Hid (Owes R encB B p w (((zeroP r me n).bind fun _=>.ret true).run S2))/\S2.left<n) (fun wr=>leftW 1 3 wr p)
 case atStart=>exact⟨D,S,hP,hK,b1,hOh,hD⟩
 case round =>
  clear hP hK b1 hOh hD
  obtain⟨n,S2,hP,hK,b1,hO,hD⟩:=hrel
  replace hO:=hO.out
  have hlw:=Hd hP.left
  cases n with
  | zero=>omega
  | succ n =>
    rw [zeroP_bind] at hO;have c_b1:=b1.cells;have hOh:=Hd hO;clear hO;go_wp2_with fail
    replace hO:=hOh.out;clear c_b1 hOh
    refine tstepL hO hK (hRh.out S2 _ hP) (fun _ h=>⟨rfl,h⟩) ?_
    clear hO hK hP;intro x S3 w4 _ hlf hP hk hK hO
    replace hlf:=hlf (asks_regR _ _ ht)
    replace b1:=b1.keep hk;clear hk
    by_cases hx:x=0
    · have dx:(x != 0)=false:=by simpa using hx
      rw [if_pos hx] at hO
      have hf:R (.returned (encB true)) w4:=hO.done (v:=true) hP hK
      clear hO hP hK hx b1;go_wp2_with fail
      first | exact hf | (go_ret;exact hf)
    · have dx:(x != 0)=true:=by simpa using hx
      rw [if_neg hx] at hO;clear hx;have c_b1:=b1.cells;have hOh:=Hd hO;clear hO;go_wp2_with fail
      refine (hCm _).mono ?_
      rintro e w6 ⟨cc,rfl,hcc,hx⟩
      replace b1:=b1.ext hx hP.lt;replace hK:=hK.trans (Keep.of_ext hx hP.lt hP.le);replace hP:=hP.ext hx;clear hx c_b1
      have hlw2:=Hd hP.left
      go_wp2_with fail
      refine⟨⟨n,S3,hP,hK,b1,hOh,by omega⟩,?_⟩
      rw [hlw.out,hlw2.out]
      omega
set_option maxRecDepth 100000 in
theorem fwait_z (B p D:Nat)(S:TS)(r:Reg)(me:Int)(w:World)(h:Plays B w p S)(hr:r.ok)(hm0:0<=me)(hmr:me<r.n)(hz:(regR r me).run S=(some 0,S)) :
  Calls Tryz.prog 249 #[.pointer (some ⟨p,0,none⟩),encR r,V Z me] w (Post encB B p w (((zeroP r me (D+1)).bind fun _=>.ret true).run S)):=by
 generalize hR:Post encB B p w (((zeroP r me (D+1)).bind fun _=>.ret true).run S)=R
 have hO:Owes R encB B p w (((zeroP r me (D+1)).bind fun _=>.ret true).run S):=hR▸owes _ _ _ _ _
 clear hR
 have hRd:=fun S w (h:Plays B w p S)=>reg_read_p B p S r me w h hr ⟨hm0,hmr⟩
 unfold encR at hRd ⊢
 obtain⟨b1,hK,hP⟩:=h.entry (.cells #[V Z r.kind,V Z r.base,V Z r.loc,V Z r.n,V Z r.wr,V Z r.rd,V Z r.top] 67)
 have c_b1:=b1.cells;clear h
 have hRh:=Hd hRd
 have hzh:=Hd hz
 clear hRd hz
 go_enter Tryz.func249,Tryz.ntmps249
 go_wp2_with fail
 clear c_b1
 generalize hbb:w.heap.size=b at *
 generalize World.alloc _ _=W0 at *
 have hOh:=Hd hO;clear hO hbb
 go_loopw [] (fun wr=>W0=wr) (fun _=>0)
 case atStart=>rfl
 case round =>
  subst hrel;have hO:=hOh.out;rw [zeroP_bind] at hO;have c_b1:=b1.cells
  have hOk:=Hd hO
  clear hO hOh;go_wp2_with fail
  replace hO:=hOk.out;clear c_b1 hOk
  refine tstep hO hK (hRh.out S _ hP) (fun _ h=>⟨rfl,h⟩) ?_
  clear hO hK hP;intro x S3 w4 hr3 hP hk hK hO;rw [hzh.out] at hr3
  obtain⟨rfl,rfl⟩:0=x/\S=S3:=by simpa using hr3
  rw [if_pos rfl] at hO
  have hf:R (.returned (encB true)) w4:=hO.done (v:=true) hP hK
  clear hO hP hK b1 hk hr3;go_wp2_with fail
  first | exact hf | (go_ret;exact hf)
set_option maxRecDepth 100000 in
set_option maxHeartbeats 1000000 in
theorem fastrel_p (B p N:Nat)(S:TS)(alg mode base loc room:Int)(m:Nat)(rs:List Reg)(w:World)(h:Plays B w p S)(h1:1<=N)(h2:N<=8)(hm1:m<N)(hl:layM (fastWants N) N mode base loc=some rs)
  (hok:∀ r∈rs,r.ok/\r.n=N)(hn0:S.nts.length<=100000) :
  Calls Tryz.prog 193 #[.pointer (some ⟨p,0,none⟩),.agg #[V Z alg,V Z N,V Z mode,V Z base,V Z loc,V Z room],V Z m] w (Post encU B p w ((fastR rs m).run S)):=by
 have hlen:=layM_len hl
 rw [fastWants_len] at hlen
 generalize hR:Post encU B p w ((fastR rs m).run S)=R
 have hO:Owes R encU B p w ((fastR rs m).run S):=hR▸owes _ _ _ _ _
 clear hR
 obtain⟨b1,hK,hP⟩:=h.entry (.cells #[V Z alg,V Z N,V Z mode,V Z base,V Z loc,V Z room] 23)
 have c_b1:=b1.cells;clear h;unfold fastR at hO
 go_enter Tryz.func193,Tryz.ntmps193
 go_wp2_with fail
 refine (fastlay_p alg mode base loc room m N rs _ h1 h2 hl (by omega) (by omega)).mono ?_
 rintro e w1 ⟨b,c,rfl,hge,hb,hcells,q1,q2,hx⟩
 have hreg:RegsAt [2,3,4] w1 p b rs:=⟨hb,hP.fresh hx hge,hcells⟩
 replace hK:=hK.trans (Keep.of_ext hx hP.lt hP.le);replace hP:=hP.ext hx
 obtain⟨r1,hr1⟩:∃ r,rs[1]?=some r:=⟨_,List.getElem?_eq_getElem (by omega)⟩
 obtain⟨rm,hrm⟩:∃ r,rs[2+m]?=some r:=⟨_,List.getElem?_eq_getElem (by omega)⟩
 have hok1:=(hok _ (List.mem_of_getElem? hr1)).1
 have hm1':(m:Int)<r1.n:=by rw [(hok _ (List.mem_of_getElem? hr1)).2];omega
 have hokm:=(hok _ (List.mem_of_getElem? hrm)).1
 have hmm:(m:Int)<rm.n:=by rw [(hok _ (List.mem_of_getElem? hrm)).2];omega
 rw [regAt_of (show (1:Int)=((1:Nat):Int) from rfl) hr1,regAt_of (show (2:Int)+(m:Int)=((2+m:Nat):Int) from by omega) hrm] at hO
 have hw1:=IntWalk.i64_in ((2:Int)+(m:Int)) (by omega)
 have hi2:(2:Int)+(m:Int)<(rs.length:Int):=by omega
 have hi0:0<=(2:Int)+(m:Int):=by omega
 have hi1:((2:Int)+(m:Int)).toNat=2+m:=by omega
 have hj2:(1:Nat)<rs.length:=by omega
 have hj3:(1:Int)<(rs.length:Int):=by omega
 have hrh:=Hd (And.intro hr1 hrm)
 clear hx hcells hge hb b1 c_b1 hlen hr1 hrm hl hok;go_wp2_with fail
 refine tstepN (notes_nt 5) hO hK (noteO hP (by unfold maxAns;omega)) (fun _ h=>⟨rfl,h⟩) ?_
 clear hO hK hP;intro u S1 w2 _ _ _ hP hk hK hO;replace hreg:=hreg.keep hk;clear hk
 obtain⟨a0,a1,a2,a3,a4,a5,a6⟩:=hreg.nth hrh.out.1
 go_wp2_with fail
 clear a0 a1 a2 a3 a4 a5 a6
 refine tstepN (notes_regW _ _ _) hO hK (reg_write_p B p S1 r1 m 0 _ hP hok1 ⟨by omega,hm1'⟩) (fun _ h=>⟨rfl,h⟩) ?_
 clear hO hK hP;intro u S2 w3 _ _ _ hP hk hK hO;replace hreg:=hreg.keep hk;clear hk
 obtain⟨a0,a1,a2,a3,a4,a5,a6⟩:=hreg.nth hrh.out.2
 go_wp2_with fail
 clear a0 a1 a2 a3 a4 a5 a6 hrh hreg
 refine tlast hO hK (reg_write_p B p S2 rm m 0 _ hP hokm ⟨by omega,hmm⟩) (fun _ h=>⟨rfl,h⟩) ?_
 clear hO hK hP;intro u S3 w4 hr hP hk hK hO
 have hf:=hO.done hP hK
 clear hO hP hK hr hk;go_wp2_with fail
 first | exact hf | (refine bodyPost_ret (results_none rfl _ _ _) rfl ?_;exact hf)
end Go.Proofs.YtbaajjkopdjbgaaGreat
namespace Kv
theorem fastTry_bind {β:Type}(N:Nat)(l:List Reg)(n me:Int)(k:Nat)(f:Unit->Prog β):(fastTry N l n me (k+1)).bind f =
  (regW (regAt l (2+me)) me 1).bind fun _=>(regW (regAt l 0) me (me+1)).bind fun _=>(regR (regAt l 1) me).bind fun y =>
    if y=0 then
     (regW (regAt l 1) me (me+1)).bind fun _=>(regR (regAt l 0) me).bind fun x =>
       if x=me+1 then f () else
        (regW (regAt l (2+me)) me 0).bind fun _=>(forP (fun j _=>zeroP (regAt l (2+j)) me N) (ranksFrom (-1) n.toNat 0) ()).bind fun _ =>
          (regR (regAt l 1) me).bind fun y=>if y=me+1 then f () else (zeroP (regAt l 1) me N).bind fun _=>(fastTry N l n me k).bind f
    else (regW (regAt l (2+me)) me 0).bind fun _=>(zeroP (regAt l 1) me N).bind fun _=>(fastTry N l n me k).bind f:=by
 simp only [fastTry,Prog.bind_assoc]
 congr 1;funext _;congr 1;funext _;congr 1;funext y
 by_cases hy:y=0
 · simp only [if_pos hy,Prog.bind_assoc]
   congr 1;funext _;congr 1;funext x
   by_cases hx:x=me+1
   · simp only [if_pos hx];rfl
   · simp only [if_neg hx,Prog.bind_assoc]
     congr 1;funext _;congr 1;funext _;congr 1;funext z
     by_cases hz:z=me+1
     · simp only [if_pos hz];rfl
     · simp only [if_neg hz,Prog.bind_assoc]
 · simp only [if_neg hy,Prog.bind_assoc]
theorem zeroT_bind {β:Type}(r:Reg)(me:Int)(D:Nat)(f:Unit->Prog β):(zeroP r me D).bind f=((zeroP r me D).bind fun _=>Prog.ret true).bind fun _=>f ():=by
 rw [Prog.bind_assoc];rfl
theorem zeroT_run {r:Reg}{me:Int}{D:Nat}{S S1:TS}{v:Bool}(h:((zeroP r me D).bind fun _=>Prog.ret true).run S=(some v,S1)):v=true/\(zeroP r me D).run S=(some (),S1):=by
 rw [Prog.run_bind] at h
 rcases hr:(zeroP r me D).run S with⟨o,S2⟩
 rw [hr] at h
 cases o with
 | none=>simp [thenR] at h
 | some u =>
   simp only [thenR,Prog.run,Prod.mk.injEq,Option.some.injEq] at h
   exact⟨h.1.symm,by rw [<- h.2]⟩
theorem notes_zeroT (r:Reg)(me:Int)(D:Nat):((zeroP r me D).bind fun _=>Prog.ret true).Notes 0:=(notes_zeroP r me D).bind0 fun _=>.ret _ _
end Kv
namespace Go.Proofs.YtbaajjkopdjbgaaGreat
open Go.RowKit Kv
theorem tstepA {α β:Type}{B p:Nat}{w0 w:World}{S:TS}{R:Ending->World->Prop}{P:Program}{f:FuncId}{args:Array Value}{K:Ending->World->Prop}{enc:α->Value}{enc':β->Value}{T:Prog α}{g:α->Prog β}{k:Nat}(hN:T.Notes k)
  (hO:Owes R enc' B p w0 ((T.bind g).run S))(hB:KeepP B p w0 w)(h:Calls P f args w (Post enc B p w (T.run S)))(hp:∀ w',R (stopE p) w'->K (stopE p) w')
  (hk:∀ v S1 w1,T.run S=(some v,S1)->S1.left<=S.left->(T.Asks->S1.left<S.left)->S1.nts.length<=S.nts.length+k->Plays B w1 p S1->KeepP B p w w1->KeepP B p w0 w1->Owes R enc' B p w0 ((g v).run S1)->K (.returned (enc v)) w1):Calls P f args w K:=by
 refine tstep hO hB h hp fun v S1 w1 hr hP hk1 hk2 hO1=>hk v S1 w1 hr ?_ (fun ha=>ha.left hr hP.1) ?_ hP hk1 hk2 hO1
 · have:=Prog.run_left T S
   rw [hr] at this
   exact this
 · have:=hN.run S
   rw [hr] at this
   exact this
theorem two_laid {B p b:Nat}{w:World}{S:TS}{rs:List Reg}(h:Plays B w p S)(hl:RegsAt [2,3,4] w p b rs)(o1 o2:Obj) :
  HeldP ((w.alloc o1).alloc o2).drew p w.heap.size o1/\HeldP ((w.alloc o1).alloc o2).drew p (w.heap.size+1) o2/\Plays B ((w.alloc o1).alloc o2).drew p S/\KeepP B p w ((w.alloc o1).alloc o2).drew/\RegsAt [2,3,4] ((w.alloc o1).alloc o2).drew p b rs:=by
 have h2:=(h.alloc o1).held o2
 rw [World.size_alloc] at h2
 exact⟨((h.held o1).alloc o2 (h.alloc o1).lt).drew,h2.drew,((h.alloc o1).alloc o2).drew,((Keep.alloc o1 h.lt h.le).trans (Keep.alloc o2 (h.alloc o1).lt (h.alloc o1).le)).drew,hl.extL ((((Ext.refl w).alloc o1).alloc o2).drew) h.lt⟩
end Go.Proofs.YtbaajjkopdjbgaaGreat
namespace Kv
open Go
def FrG:List Bool->List Value->(List Value->Prop)->Prop
 | [],l,G=>G l
 | _ :: _,[],G=>G []
 | true :: m,_ :: l,G=>∀ u:Value,FrG m l fun r=>G (u :: r)
 | false :: m,v :: l,G=>FrG m l fun r=>G (v :: r)
def fillM:List Bool->List Value->List Value->List Value
 | [],l,_=>l
 | _ :: _,[],_=>[]
 | _ :: _,_ :: _,[]=>[]
 | true :: m,_ :: l,u :: r=>u :: fillM m l r
 | false :: m,v :: l,_ :: r=>v :: fillM m l r
theorem frG_all:∀ (m:List Bool) (l:List Value) (G:List Value->Prop),FrG m l G->∀ r,r.length=l.length->r=fillM m l r->G r
 | [],l,G,h,r,_,he=>by
   rw [fillM] at he
   rw [he]
   exact h
 | _ :: _,[],G,h,r,hl,_=>by
   obtain rfl:r=[]:=List.length_eq_zero_iff.1 hl
   exact h
 | _ :: _,_ :: _,G,h,[],hl,_=>by simp at hl
 | true :: m,v :: l,G,h,u :: r,hl,he=>by
   rw [FrG] at h;rw [fillM] at he
   injection he with _ he
   exact frG_all m l (fun r=>G (u :: r)) (h u) r (by simpa using hl) he
 | false :: m,v :: l,G,h,u :: r,hl,he=>by
   rw [FrG] at h;rw [fillM] at he
   injection he with h1 he
   subst h1
   exact frG_all m l (fun r=>G (u :: r)) h r (by simpa using hl) he
structure SameM (m:List Bool) (t:Array Value) (a:Act):Prop where
 defers:a.defers=[]
 size:a.tmps.toList.length=t.toList.length
 slots:a.tmps.toList=fillM m t.toList a.tmps.toList
section
variable {P:Program} {w:World} {Q:Exit->Act->World->Prop}
theorem wp_scope_mask {c:Code}{t:Array Value}(m:List Bool)(J:Nat->World->Prop)(μ:Nat->World->Nat)
  (pass:∀ l w,J l w->(∀ l' rest a' w',findLabel c l'=some (.seq .skip rest)->SameM m t a'->J l' w'->μ l' w'<μ l w->rest.wp P (Jumps (fun l2 a2 w2=>(SameM m t a2/\J l2 w2)/\μ l2 w2<μ l w) Q) a' w') ->
    FrG m t.toList fun r=>∃ rest,findLabel c l=some (.seq .skip rest)/\rest.wp P (Jumps (fun l2 a2 w2=>(SameM m t a2/\J l2 w2)/\μ l2 w2<μ l w) Q) ⟨r.toArray,[]⟩ w)
  (first:(∀ l rest a w,findLabel c l=some (.seq .skip rest)->SameM m t a->J l w->rest.wp P (Jumps (fun l a w=>SameM m t a/\J l w) Q) a w)->c.wp P (Jumps (fun l a w=>SameM m t a/\J l w) Q) ⟨t,[]⟩ w):(Code.scope c).wp P Q ⟨t,[]⟩ w:=by
 refine wp_scope_fall (fun l a w=>SameM m t a/\J l w) (fun l _ w=>μ l w) ?_ fun hf=>first fun l rest a w h1 h2 h3=>hf l rest a w h1 ⟨h2,h3⟩
 have key:∀ n l a w,μ l w=n->SameM m t a->J l w->∃ rest,findLabel c l=some (.seq .skip rest)/\rest.wp P (Jumps (fun l2 a2 w2=>(SameM m t a2/\J l2 w2)/\μ l2 w2<μ l w) Q) a w:=by
  intro n
  induction n using Nat.strongRecOn with
  | _ n ih =>
    intro l a w hn hs hj
    have h:=pass l w hj fun l' rest a' w' hl' hs' hj' hlt=>by
     obtain⟨rest',hr',hp⟩:=ih (μ l' w') (by omega) l' a' w' rfl hs' hj'
     obtain rfl:rest=rest':=by rw [hl'] at hr';simpa using hr'
     refine Code.wp_mono (fun e a2 w2 hq=>?_) hp
     cases e with
     | goto l2=>exact⟨hq.1,Nat.lt_trans hq.2 hlt⟩
     | normal=>exact hq
     | exit id=>exact hq
     | ret=>exact hq
     | panic ch=>exact hq
     | outgrown=>exact hq
    have h2:=frG_all m t.toList _ h a.tmps.toList hs.size hs.slots
    obtain⟨⟨tl⟩,d⟩:=a
    obtain rfl:d=[]:=hs.defers
    exact h2
 exact fun l a w h=>key _ l a w rfl h.1 h.2
end
end Kv
