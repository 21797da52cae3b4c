/-
  RwRowSaid: part 9 of its proof.
-/
import Derived.Test.YtbaajjkopdjbgaaGreatJRwRowSaid8
import Derived.Deep.DeepCutAuto
import Derived.BigQuiet
import Derived.Deep.QuietTactic
open Go.Value renaming int -> V
open Go.IntKind renaming i64 -> Z
namespace Go.Proofs.YtbaajjkopdjbgaaGreat
open Go.RowKit Kv
structure BelowX (X:Nat->Prop) (w w':World):Prop where
 os:w'.os=w.os
 tape:w'.tape=w.tape
 output:w'.output=w.output
 size:w.heap.size<=w'.heap.size
 blocks:∀ k,k<w.heap.size->¬ X k->w'.heap[k]?=w.heap[k]?
theorem BelowX.of {X:Nat->Prop}{w w':World}(h:Ext w w'):BelowX X w w':=⟨h.os,h.tape,h.output,h.size,fun k hk _=>h.block k hk⟩
theorem BelowX.refl (X:Nat->Prop)(w:World):BelowX X w w:=BelowX.of (Ext.refl w)
theorem BelowX.trans {X:Nat->Prop}{w w' w'':World}(h:BelowX X w w')(g:BelowX X w' w''):BelowX X w w'' :=
 ⟨g.os.trans h.os,g.tape.trans h.tape,g.output.trans h.output,Nat.le_trans h.size g.size,fun k hk hx=>(g.blocks k (Nat.lt_of_lt_of_le hk h.size) hx).trans (h.blocks k hk hx)⟩
theorem BelowX.set {X:Nat->Prop}{w w':World}(h:BelowX X w w'){b:Nat}(hb:X b)(i:Nat)(v:Value):BelowX X w (w'.setCell ⟨b,i,none⟩ v):=by
 have e:∀ k,k≠b->(w'.setCell ⟨b,i,none⟩ v).heap[k]?=w'.heap[k]?:=fun k hk=>heap_setCell_ne _ _ hk
 exact⟨h.os,h.tape,h.output,by simpa using h.size,fun k hk hx=>(e k (fun hkb=>hx (hkb▸hb))).trans (h.blocks k hk hx)⟩
theorem BelowX.mono {X Y:Nat->Prop}{w w':World}(h:BelowX X w w')(hxy:∀ k,X k->Y k):BelowX Y w w' :=
 ⟨h.os,h.tape,h.output,h.size,fun k hk hx=>h.blocks k hk fun q=>hx (hxy k q)⟩
theorem BelowX.blk {X:Nat->Prop}{w w':World}(h:BelowX X w w'){b:Nat}{o:Obj}(hb:Blk w b o)(hx:¬ X b):Blk w' b o:=(h.blocks b hb.lt hx).trans hb
theorem BelowX.ints {X:Nat->Prop}{w w':World}{v:Value}{l:List Int}(h:BelowX X w w')(hl:Ints w v l)(hx:∀ b,v.ownBlock=some b->¬ X b):Ints w' v l:=by
 obtain⟨A,c,rfl,h1,h2,h3⟩:=hl
 refine⟨A,c,rfl,h1,h2,fun hne=>?_⟩
 obtain⟨b,off,rfl,hb,hc⟩:=h3 hne
 refine⟨b,off,rfl,Nat.lt_of_lt_of_le hb h.size,fun i x hi=>?_⟩
 rw [<- hc i x hi]
 unfold World.cell?
 simp only
 rw [h.blocks b hb (hx b rfl)]
theorem BelowX.grown {X:Nat->Prop}{w w' wr:World}{o:Obj}{row:Option Nat}(h:BelowX X w wr)(hg:(wr.alloc o).grownBy w' row)(hr:∀ b,row=some b->w.heap.size<=b):BelowX X w w':=by
 have h1:=h.trans (BelowX.of ((Ext.refl wr).alloc o))
 exact⟨hg.os.trans h1.os,hg.tape.trans h1.tape,hg.output.trans h1.output,Nat.le_trans h1.size hg.size,fun k hk hx=>(hg.block k (Nat.lt_of_lt_of_le hk h1.size) (fun e=>by have:=hr k e.symm;omega)).trans (h1.blocks k hk hx)⟩
set_option maxRecDepth 100000 in
set_option maxHeartbeats 1000000 in
theorem goes_p (F:FuncId)(caps:Array Value)(T T':Prog Int)(S':TS)(M M' L:List Int)(n most bc bl il:Nat)(e0:Int)(A:Option Addr)(cl:Nat)(vs:Array Value)(tl:TypeId)(K0:World->Prop)(w:World)
  (hcf:∀ (args:Array Value) (w:World),(callFunc F args).run Tryz.prog w=.ok (.enter F args) w)(hK0:∀ W W',BelowX (fun k=>k=bc) W W'->K0 W->K0 W')
  (hSt:Sol T (TS0 L []) M n T' S' M')(hend:(T'=.ret e0/\n<=most)∨n=most+1)(hmost:most<=1000)(hTa:∀ v∈S'.ans,0<=v/\v<=1048576)
  (hbc:Blk w bc (.cells (M.map (V Z)).toArray 3))(hbl:Blk w bl (.cells vs tl))(hvs:vs[il]?=some (.slice A L.length cl))(hL:Ints w (.slice A L.length cl) L)(hL2:L.length<=32768)
  (hAb:∀ b,(Value.slice A L.length cl).ownBlock=some b->b≠bc)(hne:bc≠bl)(_hMl:M.length<=100000)(hk0:K0 w)
  (hdo:∀ (W0 W:World) (p:Nat) (ans:List Int),K0 W0->Ext W0 W->Plays W0.heap.size W p (TS0 L ans)->ans.length<=most->(∀ v∈ans,0<=v/\v<=1048576)->Calls Tryz.prog F (#[.pointer (some ⟨p,0,none⟩)]++caps) W (Post encI W0.heap.size p W (T.run (TS0 L ans)))) :
  Calls Tryz.prog 79 #[.func (.func F) #[] caps,.slice (some ⟨bc,0,none⟩) M.length M.length,.pointer (some ⟨bl,il,none⟩),V Z most] w fun e w' =>
   ((∃ (v:Value) (L':List Int),e=.returned (.tuple #[V Z e0,.bool true])/\T'=.ret e0/\n<=most/\Blk w' bc (.cells (M'.map (V Z)).toArray 3)/\Blk w' bl (.cells (vs.setIfInBounds il v) tl) /\
      Ints w' v (shortL L')/\(∀ i,L'.getD i 0=S'.loc i)/\L'.length<=32768/\(∀ b,v.ownBlock=some b->w.heap.size<=b)) ∨
     (e=.returned (.tuple #[V Z 0,.bool false])/\n=most+1))/\BelowX (fun k=>k=bc∨k=bl) w w':=by
 generalize hR:(fun (e:Ending) (w':World) =>
   ((∃ (v:Value) (L':List Int),e=.returned (.tuple #[V Z e0,.bool true])/\T'=.ret e0/\n<=most/\Blk w' bc (.cells (M'.map (V Z)).toArray 3)/\Blk w' bl (.cells (vs.setIfInBounds il v) tl) /\
      Ints w' v (shortL L')/\(∀ i,L'.getD i 0=S'.loc i)/\L'.length<=32768/\(∀ b,v.ownBlock=some b->w.heap.size<=b)) ∨
     (e=.returned (.tuple #[V Z 0,.bool false])/\n=most+1))/\BelowX (fun k=>k=bc∨k=bl) w w')=R
 have hyes:∀ (v:Value) (L':List Int) (w':World),T'=.ret e0->n<=most->Blk w' bc (.cells (M'.map (V Z)).toArray 3)->Blk w' bl (.cells (vs.setIfInBounds il v) tl) ->
   Ints w' v (shortL L')->(∀ i,L'.getD i 0=S'.loc i)->L'.length<=32768->(∀ b,v.ownBlock=some b->w.heap.size<=b)->BelowX (fun k=>k=bc∨k=bl) w w'->R (.returned (.tuple #[V Z e0,.bool true])) w' :=
  fun v L' w' h1 h2 h3 h4 h5 h6 h7 h8 h9=>hR▸⟨.inl ⟨v,L',rfl,h1,h2,h3,h4,h5,h6,h7,h8⟩,h9⟩
 have hno:∀ w',n=most+1->BelowX (fun k=>k=bc∨k=bl) w w'->R (.returned (.tuple #[V Z 0,.bool false])) w':=fun w' h1 h2=>hR▸⟨.inr ⟨rfl,h1⟩,h2⟩
 clear hR;have hlen0:=hSt.len;replace hlen0:=Hd hlen0
 have hyesh:=Hd hyes
 have hnoh:=Hd hno
 have hdoh:=Hd hdo
 have hK0h:=Hd hK0
 have hendh:=Hd hend
 have hTah:=Hd hTa
 have hAbh:=Hd hAb
 have hmostn:n<=most+1:=by have:=hendh.out;omega
 have hbcl:=hbc.lt;have hbll:=hbl.lt
 have hili:il<vs.size:=(Array.getElem?_eq_some_iff.1 hvs).1
 clear hyes hno hdo hK0 hend hTa hAb
 go_enter Tryz.func79,Tryz.ntmps79
 go_wp2_with fail
 go_loopw [10,11,12,13,14] (fun v i _ _ _ wr=>∃ (j:Nat) (Tj:Prog Int) (Sj:TS) (Mj:List Int),i=V Z j/\j<=n/\Hid (Sol Tj Sj Mj (n-j) T' S' M'/\Res T (TS0 L []) Tj Sj/\Sj.acc.length=j)/\Mj.length=M.length/\Sj.ans.length=j/\IntRow wr w.heap.size v Sj.ans /\
   Blk wr bc (.cells (Mj.map (V Z)).toArray 3)/\BelowX (fun k=>k=bc) w wr) (fun _ i _ _ _ _=>most+1-(intOf i).toNat)
 case atStart=>exact⟨0,T,TS0 L [],M,rfl,by omega,⟨hSt,Res.refl _ _,rfl⟩,rfl,rfl,IntRow.nil _ _,hbc,BelowX.refl _ _⟩
 case round =>
  have hblh:Hid (∀ W,BelowX (fun k=>k=bc) w W->Blk W bl (.cells vs tl)):=fun W h=>h.blk hbl fun e=>hne e.symm
  have hLh:Hid (∀ W,BelowX (fun k=>k=bc) w W->Ints W (.slice A L.length cl) L):=fun W h=>h.ints hL hAbh.out
  have hk0h:Hid (∀ W,BelowX (fun k=>k=bc) w W->K0 W):=fun W h=>hK0h.out _ _ h hk0
  clear hbc hbl hL hk0 hSt hK0h
  obtain⟨j,Tj,Sj,Mj,rfl,hj,hS,hMj,hja,hrow,hbc,hB⟩:=hrel
  by_cases hjm:j<=most
  rotate_left
  · have d1:decide ((j:Int)<=(most:Int))=false:=by rw [decide_eq_false_iff_not];omega
    have hf:=hnoh.out _ (by omega) (hB.mono fun k hk=>.inl hk)
    clear hS hrow hbc hB hnoh hyesh;go_wp2_with fail
    first | with_reducible exact hf | (go_ret;exact hf) | exact hf
  have d1:decide ((j:Int)<=(most:Int))=true:=by rw [decide_eq_true_eq];omega
  have c_bl:wr.cell? ⟨bl,il,none⟩=some (.slice A L.length cl):=((hblh.out _ hB).cells il).trans hvs
  obtain⟨Aa,ca,rfl,hca1,hca2⟩:=hrow.ints.slice
  have htam:∀ v∈Sj.ans,0<=v/\v<=1048576:=fun v hv=>by
   obtain⟨x,hx⟩:=hS.out.1.pre
   exact hTah.out v (hx▸List.mem_append_left _ hv)
  have hPl:=play_errB F caps T A cl L Aa ca Sj.ans wr (hLh.out _ hB) hL2 hrow.ints (by rw [hja];unfold maxAns;omega) (fun b hb=>(hrow.lt b hb).2) hcf (fun W p hx hP=>hdoh.out wr W p Sj.ans (hk0h.out _ hB) hx hP (by omega) htam)
  rw [show T.run (TS0 L Sj.ans)=Tj.run Sj from hS.out.2.1.now] at hPl
  have hPh:=Hd hPl
  have hrowh:=Hd hrow
  clear hPl htam hrow;go_wp2_with fail
  refine Calls.mono (by rw [<- hja];exact hPh.out) ?_
  clear hPh
  rintro e w1 ⟨v,rfl,hO,hvb,hx⟩
  obtain⟨A1,c1,D1,d1',vs1,L1,rfl,hO⟩:=hO
  obtain⟨E1,k1,hvs1,_,_⟩:=hO.locs.slice
  subst hvs1
  obtain⟨_,_,_,_,he,hvb⟩:=hvb
  unfold outV at he ⊢
  simp only [Value.agg.injEq,Array.mk.injEq,List.cons.injEq,and_true] at he
  obtain⟨_,_,_,rfl⟩:=he
  clear c_bl
  cases hnj:n-j with
  | zero =>
    obtain rfl:j=n:=by omega
    have hT':=hendh.out.resolve_right (by omega)
    obtain⟨hrun,hM'⟩:=Sol.stop hS.out.1 hnj hT'.1
    rw [hrun] at hO ⊢
    simp only [Option.isSome_some,Option.getD_some] at hO ⊢
    have hx':=hx.alloc (.cells #[.bool true,.slice A1 S'.acc.length c1,.slice D1 S'.nts.length d1',.slice E1 (shortL L1).length k1] 30)
    have bo:=Blk.new w1 (.cells #[.bool true,.slice A1 S'.acc.length c1,.slice D1 S'.nts.length d1',.slice E1 (shortL L1).length k1] 30)
    replace hO:=hO.ext ((Ext.refl w1).alloc (.cells #[.bool true,.slice A1 S'.acc.length c1,.slice D1 S'.nts.length d1',.slice E1 (shortL L1).length k1] 30))
    have hrow:=row_ext hrowh.out hx'
    replace hbc:=hbc.ext hx';have hBs:=hB.size
    replace hB:=hB.trans (BelowX.of hx')
    have hsz1:=hx'.size;clear hx' hx hrowh;have c_bo:=bo.cells
    generalize hzo:w1.heap.size=zo at *
    generalize hW1:World.alloc w1 _=W1 at *
    have hbl:=hblh.out _ hB
    have hfz:W1.frozen? ⟨bl,il,none⟩=false:=frozen_of_heap hbl il
    have hb2:Blk (W1.setCell ⟨bl,il,none⟩ (.slice E1 (shortL L1).length k1)) bl (.cells (vs.setIfInBounds il (.slice E1 (shortL L1).length k1)) tl):=heap_setCell hbl _
    have hb3:Blk (W1.setCell ⟨bl,il,none⟩ (.slice E1 (shortL L1).length k1)) bc (.cells (M'.map (V Z)).toArray 3):=(heap_setCell_ne _ _ hne).trans (hM'▸hbc)
    have hIn:Ints (W1.setCell ⟨bl,il,none⟩ (.slice E1 (shortL L1).length k1)) (.slice E1 (shortL L1).length k1) (shortL L1):=(BelowX.set (X:=fun k=>k=bl) (BelowX.refl _ W1) rfl il _).ints hO.locs (fun b hb he=>by have:=hvb b hb;omega)
    have hf:=Hd (hyesh.out (.slice E1 (shortL L1).length k1) L1 _ hT'.1 hT'.2 hb3 hb2 hIn (fun i=>(hO.is i).symm) hO.len (fun b hb=>Nat.le_trans hBs (hvb b hb)) ((hB.mono fun k hk=>.inl hk).set (.inr rfl) _ _))
    have c_l:=(hbl.cells il).trans hvs
    clear hyesh hnoh hdoh hk0h hblh hLh hendh hTah hAbh hS hrow hbc hbl hB hb2 hb3 hIn hO bo hvs hT' hrun hM';subst hW1;go_wp2_with fail
    first | with_reducible exact hf.out | (go_ret;exact hf.out) | exact hf.out
  | succ m =>
    obtain⟨c,a,x,T1,S1,S2,M1,hac,hcM,hkind,hx1,hrun,hacc1,hans2,hacc2,hst,hres⟩:=hS.out.1.next m hnj (by rw [hS.out.2.2];exact hja)
    rw [hrun] at hO ⊢
    simp only [Option.isSome_none,Option.getD_none] at hO ⊢
    have hsj:=hS.out.2.2
    have hl1:S1.acc.length=j+1:=by rw [hacc1];simp [hsj]
    rw [hl1]
    have hx':=hx.alloc (.cells #[.bool false,.slice A1 (j+1) c1,.slice D1 S1.nts.length d1',.slice E1 (shortL L1).length k1] 30)
    have bo:=Blk.new w1 (.cells #[.bool false,.slice A1 (j+1) c1,.slice D1 S1.nts.length d1',.slice E1 (shortL L1).length k1] 30)
    replace hO:=hO.ext ((Ext.refl w1).alloc (.cells #[.bool false,.slice A1 (j+1) c1,.slice D1 S1.nts.length d1',.slice E1 (shortL L1).length k1] 30))
    have hrow:=row_ext hrowh.out hx'
    replace hbc:=hbc.ext hx';have hBs:=hB.size
    replace hB:=hB.trans (BelowX.of hx')
    have hsz1:=hx'.size;clear hx' hx hrowh;have c_bo:=bo.cells
    generalize hzo:w1.heap.size=zo at *
    generalize hW1:World.alloc w1 _=W1 at *
    have hat:S1.acc[j]?=some a:=by rw [hacc1,List.getElem?_append_right (by omega)];simp [hsj]
    obtain⟨ba,rfl,hba,q0,q1,q2⟩:=hO.accs.at_ hat
    rw [hac] at q1
    have hSh:=Hd (show Sol T1 S2 M1 m T' S' M'/\Res T (TS0 L []) T1 S2/\S2.acc.length=j+1 from ⟨hst,hS.out.2.1.trans hres hans2,by rw [hacc2];simp [hsj]⟩)
    have hans2h:=Hd hans2
    have hxj:=(List.getElem?_eq_some_iff.1 hx1).1
    have hM1l:M1.length=M.length:=by rcases hkind with⟨_,e⟩ | ⟨_,e⟩ <;> rw [e] <;> simp [hMj]
    clear hst hres hans2 hacc2 hacc1 hrun hat hO bo hyesh hnoh hsj
    have e0:(((j+1:Nat):Int)==0)=false:=by rw [beq_eq_false_iff_ne];omega
    have e1:decide ((c:Int)<0)=false:=by rw [decide_eq_false_iff_not];omega
    have e2:decide ((M.length:Int)<=(c:Int))=false:=by rw [decide_eq_false_iff_not];omega
    obtain⟨ak,ac,av⟩:=a
    simp only at hac q0 q1 q2 hkind
    clear hac
    have hkindh:=Hd hkind
    have hx1h:=Hd hx1
    have bA:=Blk.new W1 (.cells #[V Z ak,V Z c,V Z av] 112)
    have hx':=(Ext.refl W1).alloc (.cells #[V Z ak,V Z c,V Z av] 112)
    replace hrow:=row_ext hrow hx';replace hbc:=hbc.ext hx'
    have hza:w.heap.size<=W1.heap.size:=hB.size
    replace hB:=hB.trans (BelowX.of hx')
    replace hsz1:=Nat.le_trans hsz1 hx'.size
    generalize hzz:W1.heap.size=za at *
    generalize hW2:World.alloc W1 _=W2 at *
    have c_ac:=bA.cells;clear hkind hx1 hS hx' bA;subst hW2 hW1
    go_upto_region 14 with fail
    generalize World.alloc (World.alloc w1 _) _=W2 at *
    clear q0 q1 q2 c_bo hzz hzo e0 e1 e2 hba
    have hsz2:w.heap.size<=W2.heap.size:=hB.size
    have hlen9:Sj.ans.length<1000000000000:=by omega
    have hcm:c<Mj.length:=hcM
    have hxh:Hid (M1[c]?=some x):=hx1h.out
    have hblk:=Hd hblh.out
    rcases hkindh.out with⟨rfl,hM1⟩ | ⟨rfl,hM1⟩
    · have hc0:W2.cell? ⟨bc,c,none⟩=some (V Z x):=by
       rw [hbc.cells c]
       have:=hxh.out
       rw [hM1] at this
       simp [this]
      have hf:Hid (∀ v' w',IntRow w' w.heap.size v' (Sj.ans++[x])->(W2.alloc (.cells #[V Z x] 3)).grownBy w' (Value.slice Aa j ca).ownBlock->Blk w' bc (.cells (M1.map (V Z)).toArray 3)/\BelowX (fun k=>k=bc) w w'):=by
       intro v' w' _ hg
       have hr:∀ b,(Value.slice Aa j ca).ownBlock=some b->w.heap.size<=b:=fun b hb=>(hrow.lt b (by rw [hja];exact hb)).1
       refine⟨?_,hB.grown hg hr⟩
       rw [hM1]
       exact grown_heap (hbc.alloc _) (fun e=>by have:=hr bc e;omega) hg
      clear hkindh hx1h hM1 hxh hbc hB
      go_wp2_with (at_builtin;refine append_int rfl _ _ rfl w.heap.size _ Sj.ans x (by rw [<- hja] at *;exact hrow) rfl rfl hlen9 hsz2 ?_)
      intro v' w1' hown hgrow
      obtain⟨hbc',hB'⟩:=hf.out v' w1' hown hgrow
      rw [<- hans2h.out] at hown
      have hS9:=hSh.out
      have hnm:m=n-(j+1):=by omega
      rw [hnm] at hS9
      have hl9:S2.ans.length=j+1:=by rw [hans2h.out];simp [hja]
      have hSk:=Hd hS9
      clear hf hgrow hSh hans2h hS9 c_ac;go_wp2_with fail
      refine⟨⟨j+1,T1,S2,M1,by first | rfl | go_num,by omega,hSk.out,hM1l,hl9,hown,hbc',hB'⟩,?_⟩
      simp [intOf]
      omega
    · have hc0:W2.cell? ⟨bc,c,none⟩=some (V Z (Mj.getD c 0)):=by
       rw [hbc.cells c]
       simp [hcm]
      have hfz:W2.frozen? ⟨bc,c,none⟩=false:=frozen_of_heap hbc c
      obtain rfl:x=av:=by
       have:=hxh.out
       rw [hM1] at this
       simpa [hcm] using this.symm
      have hb3:Blk (W2.setCell ⟨bc,c,none⟩ (V Z x)) bc (.cells (M1.map (V Z)).toArray 3):=by
       have h:=heap_setCell (i:=c) hbc (V Z x)
       rw [hM1]
       have e:((Mj.map (V Z)).toArray).setIfInBounds c (V Z x)=((Mj.set c x).map (V Z)).toArray:=by
        rw [List.map_set]
        simp
       rw [<- e]
       exact h
      have hB3:=hB.set (b:=bc) rfl c (V Z x)
      have hrow3:=row_set (i:=c) (u:=V Z x) hrow (fun e=>by
       have:=(hrow.lt bc e).1
       omega)
      have hsz3:w.heap.size<=(W2.setCell ⟨bc,c,none⟩ (V Z x)).heap.size:=hB3.size
      have hcx:(W2.setCell ⟨bc,c,none⟩ (V Z x)).cell? ⟨bc,c,none⟩=some (V Z x):=by
       rw [hb3.cells c]
       have:=hxh.out
       simp [this]
      have c_ac3:∀ i,(W2.setCell ⟨bc,c,none⟩ (V Z x)).cell? ⟨za,i,none⟩=(#[V Z 2,V Z c,V Z x]:Array Value)[i]?:=by
       intro i
       rw [<- c_ac i]
       unfold World.cell?
       simp only
       rw [heap_setCell_ne _ _ (show za≠bc by omega)]
      clear hkindh hx1h hM1 hxh hbc hB hrow
      go_upto_region 16 with fail
      generalize World.setCell W2 _ _=W3 at *
      clear c_ac hc0 hfz
      have hf:Hid (∀ v' w',IntRow w' w.heap.size v' (Sj.ans++[x])->(W3.alloc (.cells #[V Z x] 3)).grownBy w' (Value.slice Aa j ca).ownBlock->Blk w' bc (.cells (M1.map (V Z)).toArray 3)/\BelowX (fun k=>k=bc) w w'):=by
       intro v' w' _ hg
       have hr:∀ b,(Value.slice Aa j ca).ownBlock=some b->w.heap.size<=b:=fun b hb=>(hrow3.lt b (by rw [hja];exact hb)).1
       refine⟨?_,hB3.grown hg hr⟩
       exact grown_heap (hb3.alloc _) (fun e=>by have:=hr bc e;omega) hg
      clear hb3 hB3
      go_wp2_with (at_builtin;refine append_int rfl _ _ rfl w.heap.size _ Sj.ans x (by rw [<- hja] at *;exact hrow3) rfl rfl hlen9 hsz3 ?_)
      intro v' w1' hown hgrow
      obtain⟨hbc',hB'⟩:=hf.out v' w1' hown hgrow
      rw [<- hans2h.out] at hown
      have hS9:=hSh.out
      have hnm:m=n-(j+1):=by omega
      rw [hnm] at hS9
      have hl9:S2.ans.length=j+1:=by rw [hans2h.out];simp [hja]
      have hSk:=Hd hS9
      clear hf hgrow hSh hans2h hS9 c_ac3 hcx;go_wp2_with fail
      refine⟨⟨j+1,T1,S2,M1,by first | rfl | go_num,by omega,hSk.out,hM1l,hl9,hown,hbc',hB'⟩,?_⟩
      simp [intOf]
      omega
end Go.Proofs.YtbaajjkopdjbgaaGreat
namespace Go.Proofs.YtbaajjkopdjbgaaGreat
open Go.ChangeShapes Go.WideShapes Go.ChangeAt Go.RowKit Kv
def U8s (w:World) (v:Value) (l:List Int):Prop :=
 ∃ A c,v=.slice A l.length c/\l.length<=c/\c<=9223372036854775807/\(l≠[]->∃ b off,A=some ⟨b,off,none⟩/\b<w.heap.size/\∀ i x,l[i]?=some x->w.cell? ⟨b,off+i,none⟩=some (.int .u8 x))
theorem U8s.ext {w w':World}{v:Value}{l:List Int}(h:U8s w v l)(hx:Ext w w'):U8s w' v l:=by
 obtain⟨A,c,rfl,h1,h2,h3⟩:=h
 refine⟨A,c,rfl,h1,h2,fun hl=>?_⟩
 obtain⟨b,off,rfl,hb,hc⟩:=h3 hl
 exact⟨b,off,rfl,Nat.lt_of_lt_of_le hb (Ext.size hx),fun i x hi=>(Ext.cell hx (p:=⟨b,off+i,none⟩) hb).trans (hc i x hi)⟩
theorem U8s.at_ {w:World}{A:Option Addr}{n c:Nat}{l:List Int}(h:U8s w (.slice A n c) l){i:Nat}{x:Int}(hi:l[i]?=some x) :
  ∃ b off,A=some ⟨b,off,none⟩/\b<w.heap.size/\w.cell? ⟨b,off+i,none⟩=some (.int .u8 x):=by
 obtain⟨A',c',he,h1,h2,h3⟩:=h
 injection he with e1 e2 e3
 subst e1 e2 e3
 have hl:l≠[]:=by rintro rfl;simp at hi
 obtain⟨b,off,rfl,hb,hc⟩:=h3 hl
 exact⟨b,off,rfl,hb,hc i x hi⟩
theorem cellsByte:Tryz.prog.cellsOf 5=1:=by kernel_rfl
set_option maxRecDepth 100000 in
theorem bytes_arg {H:Type}{enc:TypeId × Value->H}{W:World}{b0:Nat}{r:Reach}{v:Value}{d:DataW H}{p:List MemPlace}
  (hv:Value.okWide Tryz.prog W r b0 54 v)(h:DataW.Trod enc Tryz.prog W 0 (fun _=>true) true 54 v d p) :
  ∃ l,U8s W v l/\∀ x∈l,0<=x/\x<256:=by
 obtain⟨a0,len,cap,rfl⟩:=okWide_slice Tryz.underlying54 hv
 obtain⟨fuel,hf⟩:=h
 rcases open_ints Tryz.underlying54 Tryz.underlying5 cellsByte hf with⟨hcs,hx⟩ | ⟨a,len',cap',zs,hcs,_,hl,hm,hz,hx,hcell,hwz⟩
 · simp [Value.cells] at hcs
   obtain⟨rfl,rfl,rfl⟩:=hcs
   exact⟨[],⟨none,0,rfl,by simp,by omega,fun h=>absurd rfl h⟩,by simp⟩
 · simp [Value.cells] at hcs
   obtain⟨rfl,rfl,rfl⟩:=hcs
   simp only [if_true] at hz
   refine⟨zs.take len,?_,fun x hx=>by have:=bounds_u8 (hwz x (List.mem_of_mem_take hx));omega⟩
   have hlen:(zs.take len).length=len:=by rw [List.length_take];omega
   refine⟨some a,cap,by rw [hlen],by omega,by unfold maxLen at hm;exact hm,fun hne=>?_⟩
   have hpos:0<zs.length:=by
    rcases Nat.eq_zero_or_pos zs.length with h0 | h0
    · have:zs=[]:=List.eq_nil_of_length_eq_zero h0
      subst this
      simp at hne
    · exact h0
   obtain⟨b,off,rfl,hc⟩:=ints_at hcell hpos
   refine⟨b,off,rfl,cell_lt (hc 0 hpos),fun i x hi=>?_⟩
   have hi2:i<zs.length:=by
    have:=(List.getElem?_eq_some_iff.1 hi).1
    rw [List.length_take] at this
    omega
   rw [hc i hi2]
   have hi3:i<len:=by
    have:=(List.getElem?_eq_some_iff.1 hi).1
    omega
   rw [List.getElem?_take,if_pos hi3] at hi
   rw [List.getD_eq_getElem?_getD,hi]
   rfl
end Go.Proofs.YtbaajjkopdjbgaaGreat
namespace Go.Proofs.YtbaajjkopdjbgaaGreat
open Go.RowKit Kv
theorem use36 {N m:Nat}(h1:1<=N)(h2:N<=4)(hm:m<N):LkUse 2 N 1 0 0 1 [] m :=
 ⟨⟨by decide,by omega,by decide,by decide,by decide,by decide,fun h=>absurd h (by decide),by show (0:Int)+N<=32768;omega,by decide⟩,hm,fun h=>absurd h.2 (by decide)⟩
structure SInv (w0:World) (N:Nat) (ob:Obj) (bo bc bl bh:Nat) (tl:TypeId) (wr:World) (nums:List Int) (hs:List Int) (vs:Array Value):Prop where
 ext:Ext w0 wr
 kO:Blk wr bo ob
 kC:Blk wr bc (.cells ((cellsM N nums).map (V Z)).toArray 3)
 kL:Blk wr bl (.cells vs tl)
 sz:vs.size=4
 len:hs.length=4
 locs:∀ t,t<4->∃ A c L,vs[t]?=some (.slice A L.length c)/\Ints wr (.slice A L.length c) L/\L.length<=32768/\L.getD 0 0=hs.getD t 0/\∀ b,(Value.slice A L.length c).ownBlock=some b->b≠bc/\b≠bl/\b≠bh
 ge:w0.heap.size<=bo/\w0.heap.size<=bc/\w0.heap.size<=bl/\w0.heap.size<=bh
 ne:bo≠bc/\bo≠bl/\bo≠bh/\bc≠bl/\bc≠bh/\bl≠bh
 kH:bh<wr.heap.size
section
variable {w0:World} {N:Nat} {ob:Obj} {bo bc bl bh:Nat} {tl:TypeId} {wr W:World} {nums hs:List Int} {vs:Array Value}
theorem SInv.keep (h:SInv w0 N ob bo bc bl bh tl wr nums hs vs)(hx:Ext wr W):SInv w0 N ob bo bc bl bh tl W nums hs vs :=
 { h with
  ext:=h.ext.trans hx,kO:=h.kO.ext hx,kC:=h.kC.ext hx,kL:=h.kL.ext hx
  locs:=fun t ht=>by
   obtain⟨A,c,L,q1,q2,q3⟩:=h.locs t ht
   exact⟨A,c,L,q1,q2.ext hx,q3⟩
  kH:=Nat.lt_of_lt_of_le h.kH hx.size }
theorem SInv.setH (h:SInv w0 N ob bo bc bl bh tl wr nums hs vs)(i:Nat)(v:Value):SInv w0 N ob bo bc bl bh tl (wr.setCell ⟨bh,i,none⟩ v) nums hs vs:=by
 obtain⟨n1,n2,n3,n4,n5,n6⟩:=h.ne
 have hB:BelowX (fun k=>k=bh) wr (wr.setCell ⟨bh,i,none⟩ v):=(BelowX.refl (fun k=>k=bh) wr).set rfl i v
 exact { h with
  ext:=h.ext.setCell (p:=⟨bh,i,none⟩) h.ge.2.2.2 v,kO:=hB.blk h.kO n3,kC:=hB.blk h.kC n5,kL:=hB.blk h.kL n6
  locs:=fun t ht=>by
   obtain⟨A,c,L,q1,q2,q3,q4,q5⟩:=h.locs t ht
   exact⟨A,c,L,q1,hB.ints q2 fun b hb=>(q5 b hb).2.2,q3,q4,q5⟩
  kH:=by simpa using h.kH }
theorem SInv.went (h:SInv w0 N ob bo bc bl bh tl wr nums hs vs){t:Nat}(ht:t<4)(hB:BelowX (fun k=>k=bc∨k=bl) wr W){nums':List Int}(hc:Blk W bc (.cells ((cellsM N nums').map (V Z)).toArray 3)){v:Value}{L':List Int}{x:Int}
  (hl:Blk W bl (.cells (vs.setIfInBounds t v) tl))(hI:Ints W v (shortL L'))(hlen:L'.length<=32768)(hx:L'.getD 0 0=x)(hown:∀ b,v.ownBlock=some b->wr.heap.size<=b) :
  SInv w0 N ob bo bc bl bh tl W nums' (hs.set t x) (vs.setIfInBounds t v):=by
 obtain⟨n1,n2,n3,n4,n5,n6⟩:=h.ne
 obtain⟨g1,g2,g3,g4⟩:=h.ge
 have hbc:=h.kC.lt;have hbl:=h.kL.lt;have hbh:=h.kH
 refine⟨?_,hB.blk h.kO (fun e=>by rcases e with e | e <;> omega),hc,hl,by simp [h.sz],by simp [h.len],?_,h.ge,h.ne,Nat.lt_of_lt_of_le hbh hB.size⟩
 · have he:=h.ext
   exact⟨hB.os.trans he.os,hB.tape.trans he.tape,hB.output.trans he.output,Nat.le_trans he.size hB.size,fun k hk=>(hB.blocks k (Nat.lt_of_lt_of_le hk he.size) (fun e=>by rcases e with e | e <;> omega)).trans (he.block k hk)⟩
 · intro s hs4
   by_cases hst:t=s
   · subst hst
     obtain⟨A,c,rfl,q1,q2⟩:=hI.slice
     refine⟨A,c,shortL L',by simp [h.sz,ht],hI,by unfold shortL;simp;omega,?_,fun b hb=>by have:=hown b hb;omega⟩
     rw [shortL_at,hx]
     simp [List.getD,h.len,ht]
   · obtain⟨A,c,L,q1,q2,q3,q4,q5⟩:=h.locs s hs4
     refine⟨A,c,L,by rw [Array.getElem?_setIfInBounds_ne hst];exact q1,hB.ints q2 (fun b hb e=>by have:=q5 b hb;omega),q3,?_,q5⟩
     rw [q4]
     simp [List.getD,List.getElem?_set_ne hst]
end
theorem goes_inv {w0:World}{N:Nat}{ob:Obj}{bo bc bl bh:Nat}{tl:TypeId}{wr:World}{nums hs:List Int}{vs:Array Value}(h:SInv w0 N ob bo bc bl bh tl wr nums hs vs)(F:FuncId)(caps:Array Value)(T:Prog Int)(K0:World->Prop)(t n most ml:Nat)(e0 x:Int)(nums':List Int)
  (ht:t<4)(hcf:∀ (args:Array Value) (w:World),(callFunc F args).run Tryz.prog w=.ok (.enter F args) w)(hK0:∀ W W',BelowX (fun k=>k=bc) W W'->K0 W->K0 W')(hk0:K0 wr)(hn:n<=most)(hmost:most<=1000)(hml:N+nums.length=ml)(hml2:ml<=100000)
  (hd:∀ L:List Int,L.getD 0 0=hs.getD t 0->∃ loc',Does T (TS0 L []).loc (cellsM N nums) n e0 loc' (cellsM N nums')/\loc' 0=x)
  (hdo:∀ (L:List Int) (W0 W:World) (p:Nat) (ans:List Int),K0 W0->Ext W0 W->Plays W0.heap.size W p (TS0 L ans)->ans.length<=most->(∀ v∈ans,0<=v/\v<=1048576)->Calls Tryz.prog F (#[.pointer (some ⟨p,0,none⟩)]++caps) W (Post encI W0.heap.size p W (T.run (TS0 L ans)))) :
  Calls Tryz.prog 79 #[.func (.func F) #[] caps,.slice (some ⟨bc,0,none⟩) ml ml,.pointer (some ⟨bl,t,none⟩),V Z most] wr fun e w' =>
   e=.returned (.tuple #[V Z e0,.bool true])/\BelowX (fun k=>k=bc∨k=bl) wr w'/\∃ vs',SInv w0 N ob bo bc bl bh tl w' nums' (hs.set t x) vs':=by
 obtain⟨A,c,L,q1,q2,q3,q4,q5⟩:=h.locs t ht
 obtain⟨loc',hD,hx⟩:=hd L q4
 obtain⟨S',r1,r2,r3⟩:=hD (TS0 L []) rfl (fun v hv=>by simp [TS0] at hv)
 have hg:=goes_p F caps T (.ret e0) S' (cellsM N nums) (cellsM N nums') L n most bc bl t e0 A c vs tl K0 wr hcf hK0 r1 (.inl ⟨rfl,hn⟩) hmost r3 h.kC h.kL q1 q2 q3 (fun b hb=>(q5 b hb).1) h.ne.2.2.2.1 (by rw [cellsM_len];omega) hk0 (hdo L)
 rw [cellsM_len,hml] at hg
 refine hg.mono ?_
 rintro e w' ⟨hor,hB⟩
 rcases hor with⟨v,L',rfl,_,_,a1,a2,a3,a4,a5,a6⟩ | ⟨_,hc⟩
 · exact⟨rfl,hB,_,h.went ht hB a1 a2 a3 a5 ((a4 0).trans (by rw [r2];exact hx)) a6⟩
 · omega
def rtailA (c:Int):Prog Int:=(rd (c+3)).bind fun t=>(wr (c+3) (wrap64 (t+1))).bind fun _=>.ret t
theorem rtailA_bind {β:Type}(c:Int)(f:Int->Prog β):(rtailA c).bind f=(rd (c+3)).bind fun t=>(wr (c+3) (wrap64 (t+1))).bind fun _=>f t:=by
 unfold rtailA
 simp only [Prog.bind_assoc]
 rfl
theorem rtailA_notes (c:Int):(rtailA c).Notes 0:=(notes_rd _).bind0 fun _=>(notes_wr _ _).bind0 fun _=>.ret _ _
def rmark (w:Bool):Int:=if w=true then 2 else 1
def rgetA (c t n:Int) (w:Bool):Prog Bool:=(if w=true then wr (c+1) 1 else wr c (wrap64 (n+1))).bind fun _=>(wr (c+2) (wrap64 (t+1))).bind fun _=>.ret true
def rturnA (c t:Int) (w:Bool):Prog Bool:=(rd (c+2)).bind fun h=>if h=t then (rd (c+1)).bind fun x=>if x=0 then (rd c).bind fun n=>if w=true/\n≠0 then .ret false else rgetA c t n w else .ret false else .ret false
theorem rgetA_notes (c t n:Int)(w:Bool):(rgetA c t n w).Notes 0:=by
 unfold rgetA
 refine Prog.Notes.bind0 ?_ fun _=>(notes_wr _ _).bind0 fun _=>.ret _ _
 split <;> exact notes_wr _ _
theorem rturnA_notes (c t:Int)(w:Bool):(rturnA c t w).Notes 0:=by
 refine (notes_rd _).bind0 fun h=>?_
 split
 · refine (notes_rd _).bind0 fun x=>?_
   split
   · refine (notes_rd _).bind0 fun n=>?_
     split
     · exact .ret _ _
     · exact rgetA_notes _ _ _ _
   · exact .ret _ _
 · exact .ret _ _
theorem rturnA_asks (c t:Int)(w:Bool):(rturnA c t w).Asks:=(asks_rd _).bind _
def rwaitA (I U:Prog Unit) (c t:Int) (w:Bool):Nat->Prog Unit
 | 0=>.ret ()
 | n+1=>(insideA I U (rturnA c t w)).bind fun g=>if g=true then .ret () else rwaitA I U c t w n
def rlockA (I U:Prog Unit) (c l:Int) (w:Bool) (n:Nat):Prog Int:=(gt l).bind fun g=>if g=0 then (insideA I U (rtailA c)).bind fun t=>(rwaitA I U c t w n).bind fun _=>(st l (rmark w)).bind fun _=>.ret 0 else .ret 10
def rlowA (c:Int) (w:Bool):Prog Unit:=if w=true then wr (c+1) 0 else (rd c).bind fun x=>wr c (max (x-1) 0)
theorem rlowA_notes (c:Int)(w:Bool):(rlowA c w).Notes 0:=by
 unfold rlowA
 split
 · exact notes_wr _ _
 · exact (notes_rd _).bind0 fun _=>notes_wr _ _
def runlockA (I U:Prog Unit) (c l:Int) (w:Bool):Prog Int:=(gt l).bind fun g=>if g=rmark w then (insideA I U (rlowA c w)).bind fun _=>(st l 0).bind fun _=>.ret 0 else .ret 9
section
variable {D N m:Nat} {loc:Nat->Int} {r x q:Int}
theorem does_rtail (hm:m<N)(hq:0<=q/\q<=1000):Does (rtailA N) loc ((cellsM N [r,x,q,q]).set m 1) 2 q loc ((cellsM N [r,x,q,q+1]).set m 1):=by
 unfold rtailA
 refine ((does_rdk (k:=3) hm (by omega) rfl (by omega)).bind (m:=1) ?_).cast rfl rfl rfl
 rw [show wrap64 (q+1)=q+1 from by unfold wrap64;omega]
 refine ((does_wrk (k:=3) hm (by omega) (by simp) (by omega)).bind (m:=0) ?_).cast rfl rfl rfl
 exact Does.ret _ _ _
theorem does_rturn {w:Bool}(hm:m<N)(hq:0<=q/\q<=1000)(hr:0<=r/\r<=1000)(hw:w=true->r=0) :
  Does (rturnA N q w) loc ((cellsM N [r,0,q,q+1]).set m 1) 5 true loc ((cellsM N [if w=true then 0 else r+1,if w=true then 1 else 0,q+1,q+1]).set m 1):=by
 unfold rturnA
 refine ((does_rdk (k:=2) hm (by omega) rfl (by omega)).bind (m:=4) ?_).cast rfl rfl rfl
 rw [if_pos rfl]
 refine ((does_rdk (k:=1) hm (by omega) rfl (by omega)).bind (m:=3) ?_).cast rfl rfl rfl
 rw [if_pos rfl]
 refine ((does_rdk (k:=0) hm (by omega) rfl (by omega)).bind (m:=2) ?_).cast rfl rfl rfl
 cases w with
 | true =>
   obtain rfl:=hw rfl
   rw [if_neg (fun h=>h.2 rfl)]
   unfold rgetA
   rw [if_pos rfl,if_pos rfl,if_pos rfl,show wrap64 (q+1)=q+1 from by unfold wrap64;omega]
   refine ((does_wrk (k:=1) hm (by omega) (by simp) (by omega)).bind (m:=1) ?_).cast rfl rfl rfl
   refine ((does_wrk (k:=2) hm (by omega) (by simp) (by omega)).bind (m:=0) ?_).cast rfl rfl rfl
   exact Does.ret _ _ _
 | false =>
   rw [if_neg (fun h=>absurd h.1 (by decide))]
   unfold rgetA
   rw [if_neg (by decide),if_neg (by decide),if_neg (by decide),show wrap64 (q+1)=q+1 from by unfold wrap64;omega,show wrap64 (r+1)=r+1 from by unfold wrap64;omega]
   refine ((does_wrk (k:=0) hm (by omega) (by simp) (by omega)).bind (m:=1) ?_).cast rfl rfl rfl
   refine ((does_wrk (k:=2) hm (by omega) (by simp) (by omega)).bind (m:=0) ?_).cast rfl rfl rfl
   exact Does.ret _ _ _
theorem does_rlock {w:Bool}{n:Nat}(hm:m<N)(hD:m<D+1)(hq:0<=q/\q<=1000)(hr:0<=r/\r<=1000)(hw:w=true->r=0)(hl:loc 0=0) :
  Does (rlockA (inA (lkA (D+1) 2 N 0 0 1 [] m) (D+1)) (lkR 2 N 0 0 [] m) N 0 w (n+1)) loc (cellsM N [r,0,q,q]) (2*N+9) 0 (putF loc 0 (rmark w)) (cellsM N [if w=true then 0 else r+1,if w=true then 1 else 0,q+1,q+1]):=by
 unfold rlockA
 refine ((Does.gt (k:=0) rfl).bind (m:=2*N+9) ?_).cast (by omega) rfl rfl
 rw [if_pos hl]
 refine ((does_within hm hD (does_rtail hm hq) rfl).bind (m:=N+5+1) ?_).cast (by omega) rfl rfl
 refine (Does.bind (n:=N+5+1) (a:=()) (l1:=loc) (M1:=cellsM N [if w=true then 0 else r+1,if w=true then 1 else 0,q+1,q+1]) (m:=0) ?_ ?_).cast (by omega) rfl rfl
 · rw [show ∀ I U,rwaitA I U N q w (n+1)=(insideA I U (rturnA N q w)).bind fun g=>if g=true then .ret () else rwaitA I U N q w n from fun _ _=>rfl]
   refine ((does_within hm hD (does_rturn hm hq hr hw) rfl).bind (m:=0) ?_).cast rfl rfl rfl
   rw [if_pos rfl]
   exact Does.ret _ _ _
 · refine ((Does.st (k:=0) rfl (by decide)).bind (m:=0) ?_).cast rfl rfl rfl
   exact Does.ret _ _ _
theorem does_rlock_held {M:List Int}{w:Bool}{n:Nat}{I U:Prog Unit}(hl:loc 0≠0):Does (rlockA I U N 0 w n) loc M 0 10 loc M:=by
 unfold rlockA
 refine ((Does.gt (k:=0) rfl).bind (m:=0) ?_).cast (by omega) rfl rfl
 rw [if_neg hl]
 exact Does.ret _ _ _
theorem does_runlock {w:Bool}(hm:m<N)(hD:m<D+1)(hr:w=false->1<=r/\r<=1000)(hl:loc 0=rmark w) :
  Does (runlockA (inA (lkA (D+1) 2 N 0 0 1 [] m) (D+1)) (lkR 2 N 0 0 [] m) N 0 w) loc (cellsM N [r,x,q,q]) (N+(if w=true then 1 else 2)+1) 0 (putF loc 0 0) (cellsM N [if w=true then r else r-1,if w=true then 0 else x,q,q]):=by
 unfold runlockA
 refine ((Does.gt (k:=0) rfl).bind (m:=N+(if w=true then 1 else 2)+1) ?_).cast (by omega) rfl rfl
 rw [if_pos hl]
 have hlow:Does (rlowA N w) loc ((cellsM N [r,x,q,q]).set m 1) (if w=true then 1 else 2) () loc ((cellsM N [if w=true then r else r-1,if w=true then 0 else x,q,q]).set m 1):=by
  unfold rlowA
  cases w with
  | true=>exact does_wrk (k:=1) hm (by omega) (by simp) (by omega)
  | false =>
    obtain⟨h1,h2⟩:=hr rfl
    refine ((does_rdk (k:=0) hm (by omega) rfl (by omega)).bind (m:=1) ?_).cast rfl rfl rfl
    rw [show max (r-1) 0=r-1 from by omega]
    exact does_wrk (k:=0) hm (by omega) (by simp) (by omega)
 refine ((does_within hm hD hlow rfl).bind (m:=0) ?_).cast rfl rfl rfl
 refine ((Does.st (k:=0) rfl (by decide)).bind (m:=0) ?_).cast rfl rfl rfl
 exact Does.ret _ _ _
theorem does_runlock_no {M:List Int}{w:Bool}{I U:Prog Unit}(hl:loc 0≠rmark w):Does (runlockA I U N 0 w) loc M 0 9 loc M:=by
 unfold runlockA
 refine ((Does.gt (k:=0) rfl).bind (m:=0) ?_).cast (by omega) rfl rfl
 rw [if_neg hl]
 exact Does.ret _ _ _
end
def encT (x:Int × Bool):Value:=.tuple #[V Z x.1,.bool x.2]
set_option maxRecDepth 100000 in
theorem rinside_p (Q:Prog (Int × Bool))(K0:World->Prop)(F:FuncId)(caps:Array Value)(hcf:∀ (args:Array Value) (w:World),(callFunc F args).run Tryz.prog w=.ok (.enter F args) w)
  (B p N D:Nat)(S:TS)(arg alg mode base loc room c l:Int)(m:Nat)(rs:List Reg)(w:World)(h:Plays B w p S)(h0:K0 w)
  (hK0:∀ W W',KeepP B p W W'->K0 W->K0 W')
  (hk:LkUse alg N mode base loc room rs m)(hta:TameA S)(hD:S.left<D)(hn0:S.nts.length+10*S.left<=90000)(hQn:Q.Notes 0)
  (hdo:∀ S1 W,Plays B W p S1->K0 W->TameA S1->Calls Tryz.prog F caps W (Post encT B p W (Q.run S1))) :
  Calls Tryz.prog 156 #[.pointer (some ⟨p,0,none⟩),.agg #[V Z 0,V Z 0,V Z 0,V Z 0,V Z arg,V Z 0,V Z 0,V Z 0,V Z alg,V Z N,V Z mode,V Z base,V Z loc,V Z room,V Z 0,V Z 0,V Z 0,V Z 0,V Z 0,V Z 0,V Z 0,V Z c,V Z l],V Z m,.func (.func F) #[] caps] w (Post encT B p w ((insideA (inA (lkA D alg N base loc room rs m) D) (lkR alg N base loc rs m) Q).run S)):=by
 generalize hR:Post encT B p w ((insideA (inA (lkA D alg N base loc room rs m) D) (lkR alg N base loc rs m) Q).run S)=R
 have hO:Owes R encT B p w ((insideA (inA (lkA D alg N base loc room rs m) D) (lkR alg N base loc rs m) Q).run S):=hR▸owes _ _ _ _ _
 clear hR
 obtain⟨b1,hK,hP⟩:=h.entry (.cells #[V Z 0,V Z 0,V Z 0,V Z 0,V Z arg,V Z 0,V Z 0,V Z 0,V Z alg,V Z N,V Z mode,V Z base,V Z loc,V Z room,V Z 0,V Z 0,V Z 0,V Z 0,V Z 0,V Z 0,V Z 0,V Z c,V Z l] 69)
 have c_b1:=b1.cells;clear h
 have hin:=Hd fun S w hP hta hD hn=>in_p B p N D S alg mode base loc room m rs w hP hk hta hD hn
 have hout:=Hd fun S w hP hn=>out_p B p N S alg mode base loc room m rs w hP hk hn
 have hpay:=Hd (lkA_pays D alg N base loc room rs m D)
 unfold insideA at hO
 generalize inA (lkA D alg N base loc room rs m) D=I at *
 generalize lkR alg N base loc rs m=U at *
 have h0':=Hd (hK0 _ _ hK h0)
 have hOh:=Hd hO
 have hdoh:=Hd hdo
 clear hO h0 hdo
 go_enter Tryz.func156,Tryz.ntmps156
 go_wp2_with fail
 refine tstep hOh.out hK (hin.out S _ hP hta hD hn0) (fun _ h=>⟨rfl,h⟩) ?_
 clear hOh hK;intro u S1 w1 hr hP1 hk1 hK hO
 have hpy:=hpay.out S _ S1 hr hP1.1
 have h0:=Hd (hK0 _ _ hk1 h0'.out)
 replace b1:=b1.keep hk1;replace hta:=hta.run hr;have hOh:=Hd hO;clear hO hr hk1 c_b1 hin hpay hP h0';have c_b1:=b1.cells;go_wp2_with fail
 refine tstep hOh.out hK (hdoh.out S1 _ hP1 h0.out hta) (fun _ h=>⟨rfl,h⟩) ?_
 clear hOh hK hP1;intro v S2 w2 hr hP2 hk2 hK hO
 obtain⟨v1,v2⟩:=v
 replace b1:=b1.keep hk2
 have hn2:=hQn.run S1
 rw [hr] at hn2
 simp only at hn2
 have hOh:=Hd hO;clear hO hr hk2 c_b1 hdoh h0;have c_b1:=b1.cells
 rw [show encT (v1,v2)=.tuple #[V Z v1,.bool v2] from rfl]
 go_wp2_with fail
 refine tstep hOh.out hK (hout.out S2 _ hP2 (by omega)) (fun _ h=>⟨rfl,h⟩) ?_
 clear hOh hK hP2;intro u3 S3 w3 hr hP3 hk3 hK hO
 have hf:R (.returned (.tuple #[V Z v1,.bool v2])) w3:=hO.done (v:=(v1,v2)) hP3 hK
 clear hO hr hk3 hP3 hK c_b1 b1;go_wp2_with fail
 exact hf
theorem inside_map {α β γ:Type}(I U:Prog Unit)(Q:Prog α)(g:α->β)(f:β->Prog γ):(insideA I U (Q.bind fun x=>.ret (g x))).bind f=(insideA I U Q).bind fun x=>f (g x):=by
 rw [insideA_bind,insideA_bind]
 congr 1
 funext _
 rw [Prog.bind_assoc]
 rfl
def rtailT (c:Int):Prog (Int × Bool):=(rtailA c).bind fun t=>.ret (t,true)
def rturnT (c t:Int) (w:Bool):Prog (Int × Bool):=(rturnA c t w).bind fun g=>.ret (t,g)
def rlowT (c:Int) (w:Bool):Prog (Int × Bool):=(rlowA c w).bind fun _=>.ret (0,true)
theorem rtailT_notes (c:Int):(rtailT c).Notes 0:=(rtailA_notes c).bind0 fun _=>.ret _ _
theorem rturnT_notes (c t:Int)(w:Bool):(rturnT c t w).Notes 0:=(rturnA_notes c t w).bind0 fun _=>.ret _ _
theorem rlowT_notes (c:Int)(w:Bool):(rlowT c w).Notes 0:=(rlowA_notes c w).bind0 fun _=>.ret _ _
set_option maxRecDepth 100000 in
theorem rlock1_p (B p:Nat)(S:TS)(bm bo:Nat)(arg alg:Int)(N:Nat)(mode base loc room c l:Int)(w:World)(h:Plays B w p S)(hc:0<=c/\c<=40000)(hm:HeldP w p bm (.cells #[.pointer (some ⟨p,0,none⟩)] 33))(ho:HeldP w p bo (.cells #[V Z 0,V Z 0,V Z 0,V Z 0,V Z arg,V Z 0,V Z 0,V Z 0,V Z alg,V Z N,V Z mode,V Z base,V Z loc,V Z room,V Z 0,V Z 0,V Z 0,V Z 0,V Z 0,V Z 0,V Z 0,V Z c,V Z l] 69)) :
  Calls Tryz.prog 157 #[.pointer (some ⟨bm,0,none⟩),.pointer (some ⟨bo,0,none⟩)] w (Post encT B p w ((rtailT c).run S)):=by
 generalize hR:Post encT B p w ((rtailT c).run S)=R
 have hO:Owes R encT B p w ((rtailT c).run S):=hR▸owes _ _ _ _ _
 clear hR
 have hK:=Keep.refl [2,3,4] B p w
 have c_hm:=hm.cells;have c_ho:=ho.cells;have hP:=h;clear h
 have hw3:=IntWalk.i64_in (c+3) (by omega)
 unfold rtailT at hO;rw [rtailA_bind] at hO;have hOh:=Hd hO;clear hO
 go_enter Tryz.func157,Tryz.ntmps157
 go_wp2_with fail
 refine tstepA (notes_rd _) hOh.out hK (read_p B p S _ _ hP) (fun _ h=>⟨rfl,h⟩) ?_
 clear hOh hK hP;intro t S1 w1 hrun hlf hla hnn hP hk1 hK hO;replace hm:=hm.keep hk1;replace ho:=ho.keep hk1;clear hk1 hrun hlf hla hnn;clear c_hm c_ho;have c_hm:=hm.cells;have c_ho:=ho.cells
 obtain⟨t1,ht1⟩:∃ y,wrap64 (t+1)=y:=⟨_,rfl⟩
 have hwt:IntKind.i64.wrap (t+1)=t1:=by rw [<- ht1,IntKind.wrap_i64];unfold wrap64;omega
 rw [ht1] at hO;clear ht1;have hOh:=Hd hO;clear hO;go_wp2_with fail
 refine tstepA (notes_wr _ _) hOh.out hK (write_p B p S1 _ _ _ hP) (fun _ h=>⟨rfl,h⟩) ?_
 clear hOh hK hP;intro u S2 w2 hrun hlf hla hnn hP hk1 hK hO;replace hm:=hm.keep hk1;replace ho:=ho.keep hk1;clear hk1 hrun hlf hla hnn;clear c_hm c_ho;have c_hm:=hm.cells;have c_ho:=ho.cells
 have hf:R (.returned (.tuple #[V Z t,.bool true])) _:=hO.done (v:=(t,true)) hP hK
 clear hO hP hK hm ho;go_wp2_with fail
 first | with_reducible exact hf | exact hf | (go_ret2;exact hf)
set_option maxRecDepth 100000 in
theorem renterT_p (B p:Nat)(S:TS)(t:Int)(arg alg:Int)(N:Nat)(mode base loc room c l:Int)(w:World)(h:Plays B w p S)(hc:0<=c/\c<=40000) :
  Calls Tryz.prog 159 #[.pointer (some ⟨p,0,none⟩),.agg #[V Z 0,V Z 0,V Z 0,V Z 0,V Z arg,V Z 0,V Z 0,V Z 0,V Z alg,V Z N,V Z mode,V Z base,V Z loc,V Z room,V Z 0,V Z 0,V Z 0,V Z 0,V Z 0,V Z 0,V Z 0,V Z c,V Z l],V Z t,.bool true] w (Post encB B p w ((rturnA c t true).run S)):=by
 generalize hR:Post encB B p w ((rturnA c t true).run S)=R
 have hO:Owes R encB B p w ((rturnA c t true).run S):=hR▸owes _ _ _ _ _
 clear hR
 obtain⟨b1,hK,hP⟩:=h.entry (.cells #[V Z 0,V Z 0,V Z 0,V Z 0,V Z arg,V Z 0,V Z 0,V Z 0,V Z alg,V Z N,V Z mode,V Z base,V Z loc,V Z room,V Z 0,V Z 0,V Z 0,V Z 0,V Z 0,V Z 0,V Z 0,V Z c,V Z l] 69)
 have c_b1:=b1.cells;clear h
 have hw0:=IntWalk.i64_in (c+0) (by omega)
 have hwc:=IntWalk.i64_in c (by omega)
 have hw1:=IntWalk.i64_in (c+1) (by omega)
 have hw2:=IntWalk.i64_in (c+2) (by omega)
 obtain⟨t1,ht1⟩:∃ y,wrap64 (t+1)=y:=⟨_,rfl⟩
 have hwt:IntKind.i64.wrap (t+1)=t1:=by rw [<- ht1,IntKind.wrap_i64];unfold wrap64;omega
 unfold rturnA at hO;have hOh:=Hd hO;clear hO
 go_enter Tryz.func159,Tryz.ntmps159
 go_wp2_with fail
 refine tstepA (notes_rd _) hOh.out hK (read_p B p S _ _ hP) (fun _ h=>⟨rfl,h⟩) ?_
 clear hOh hK hP;intro hd S1 w1 hrun hlf hla hnn hP hk1 hK hO;replace b1:=b1.keep hk1;clear hk1 hrun hlf hla hnn;clear c_b1;have c_b1:=b1.cells
 by_cases he:hd=t
 rotate_left
 · have de:(hd != t)=true:=by rw [bne_iff_ne];exact he
   rw [if_neg he] at hO;clear he
   have hf:=hO.done hP hK
   clear hO hP hK b1 c_b1;go_wp2_with fail
   first | with_reducible exact hf | (go_simp;exact hf) | (go_ret;exact hf) | (go_ret2;exact hf)
 have de:(hd != t)=false:=by simpa using he
 have de2:(hd==t)=true:=by rw [beq_iff_eq];exact he
 rw [if_pos he] at hO;clear he;have hOh:=Hd hO;clear hO;go_wp2_with fail
 refine tstepA (notes_rd _) hOh.out hK (read_p B p S1 _ _ hP) (fun _ h=>⟨rfl,h⟩) ?_
 clear hOh hK hP;intro x S2 w2 hrun hlf hla hnn hP hk1 hK hO;replace b1:=b1.keep hk1;clear hk1 hrun hlf hla hnn;clear c_b1;have c_b1:=b1.cells
 by_cases hx:x=0
 rotate_left
 · have dx:(x != 0)=true:=by rw [bne_iff_ne];exact hx
   rw [if_neg hx] at hO;clear hx
   have hf:=hO.done hP hK
   clear hO hP hK b1 c_b1;go_wp2_with fail
   first | with_reducible exact hf | (go_simp;exact hf) | (go_ret;exact hf) | (go_ret2;exact hf)
 have dx:(x != 0)=false:=by simpa using hx
 have dx2:(x==0)=true:=by rw [beq_iff_eq];exact hx
 rw [if_pos hx] at hO;clear hx;have hOh:=Hd hO;clear hO;go_wp2_with fail
 refine tstepA (notes_rd _) hOh.out hK (read_p B p S2 _ _ hP) (fun _ h=>⟨rfl,h⟩) ?_
 clear hOh hK hP;intro n S3 w3 hrun hlf hla hnn hP hk1 hK hO;replace b1:=b1.keep hk1;clear hk1 hrun hlf hla hnn;clear c_b1;have c_b1:=b1.cells
 by_cases hn:n=0
 rotate_left
 · have dn:(n != 0)=true:=by rw [bne_iff_ne];exact hn
   rw [if_pos ⟨by trivial,hn⟩] at hO
   clear hn
   have hf:=hO.done hP hK
   clear hO hP hK b1 c_b1;go_wp2_with fail
   first | with_reducible exact hf | (go_simp;exact hf) | (go_ret;exact hf) | (go_ret2;exact hf)
 have dn:(n != 0)=false:=by simpa using hn
 rw [if_neg (fun h=>h.2 hn)] at hO
 clear hn;unfold rgetA at hO;rw [if_pos rfl,ht1] at hO;clear ht1;have hOh:=Hd hO;clear hO;go_wp2_with fail
 refine tstepA (notes_wr _ _) hOh.out hK (write_p B p S3 _ _ _ hP) (fun _ h=>⟨rfl,h⟩) ?_
 clear hOh hK hP;intro u S4 w4 hrun hlf hla hnn hP hk1 hK hO;replace b1:=b1.keep hk1;clear hk1 hrun hlf hla hnn;clear c_b1;have c_b1:=b1.cells;have hOh:=Hd hO;clear hO;go_wp2_with fail
 refine tstepA (notes_wr _ _) hOh.out hK (write_p B p S4 _ _ _ hP) (fun _ h=>⟨rfl,h⟩) ?_
 clear hOh hK hP;intro u S5 w5 hrun hlf hla hnn hP hk1 hK hO;replace b1:=b1.keep hk1;clear hk1 hrun hlf hla hnn;clear c_b1;have c_b1:=b1.cells
 have hf:=hO.done hP hK
 clear hO hP hK b1 c_b1;go_wp2_with fail
 first | with_reducible exact hf | (go_simp;exact hf) | (go_ret;exact hf) | (go_ret2;exact hf)
set_option maxRecDepth 100000 in
theorem renterF_p (B p:Nat)(S:TS)(t:Int)(arg alg:Int)(N:Nat)(mode base loc room c l:Int)(w:World)(h:Plays B w p S)(hc:0<=c/\c<=40000) :
  Calls Tryz.prog 159 #[.pointer (some ⟨p,0,none⟩),.agg #[V Z 0,V Z 0,V Z 0,V Z 0,V Z arg,V Z 0,V Z 0,V Z 0,V Z alg,V Z N,V Z mode,V Z base,V Z loc,V Z room,V Z 0,V Z 0,V Z 0,V Z 0,V Z 0,V Z 0,V Z 0,V Z c,V Z l],V Z t,.bool false] w (Post encB B p w ((rturnA c t false).run S)):=by
 generalize hR:Post encB B p w ((rturnA c t false).run S)=R
 have hO:Owes R encB B p w ((rturnA c t false).run S):=hR▸owes _ _ _ _ _
 clear hR
 obtain⟨b1,hK,hP⟩:=h.entry (.cells #[V Z 0,V Z 0,V Z 0,V Z 0,V Z arg,V Z 0,V Z 0,V Z 0,V Z alg,V Z N,V Z mode,V Z base,V Z loc,V Z room,V Z 0,V Z 0,V Z 0,V Z 0,V Z 0,V Z 0,V Z 0,V Z c,V Z l] 69)
 have c_b1:=b1.cells;clear h
 have hw0:=IntWalk.i64_in (c+0) (by omega)
 have hwc:=IntWalk.i64_in c (by omega)
 have hw1:=IntWalk.i64_in (c+1) (by omega)
 have hw2:=IntWalk.i64_in (c+2) (by omega)
 obtain⟨t1,ht1⟩:∃ y,wrap64 (t+1)=y:=⟨_,rfl⟩
 have hwt:IntKind.i64.wrap (t+1)=t1:=by rw [<- ht1,IntKind.wrap_i64];unfold wrap64;omega
 unfold rturnA at hO;have hOh:=Hd hO;clear hO
 go_enter Tryz.func159,Tryz.ntmps159
 go_wp2_with fail
 refine tstepA (notes_rd _) hOh.out hK (read_p B p S _ _ hP) (fun _ h=>⟨rfl,h⟩) ?_
 clear hOh hK hP;intro hd S1 w1 hrun hlf hla hnn hP hk1 hK hO;replace b1:=b1.keep hk1;clear hk1 hrun hlf hla hnn;clear c_b1;have c_b1:=b1.cells
 by_cases he:hd=t
 rotate_left
 · have de:(hd != t)=true:=by rw [bne_iff_ne];exact he
   rw [if_neg he] at hO;clear he
   have hf:=hO.done hP hK
   clear hO hP hK b1 c_b1;go_wp2_with fail
   first | with_reducible exact hf | (go_simp;exact hf) | (go_ret;exact hf) | (go_ret2;exact hf)
 have de:(hd != t)=false:=by simpa using he
 have de2:(hd==t)=true:=by rw [beq_iff_eq];exact he
 rw [if_pos he] at hO;clear he;have hOh:=Hd hO;clear hO;go_wp2_with fail
 refine tstepA (notes_rd _) hOh.out hK (read_p B p S1 _ _ hP) (fun _ h=>⟨rfl,h⟩) ?_
 clear hOh hK hP;intro x S2 w2 hrun hlf hla hnn hP hk1 hK hO;replace b1:=b1.keep hk1;clear hk1 hrun hlf hla hnn;clear c_b1;have c_b1:=b1.cells
 by_cases hx:x=0
 rotate_left
 · have dx:(x != 0)=true:=by rw [bne_iff_ne];exact hx
   rw [if_neg hx] at hO;clear hx
   have hf:=hO.done hP hK
   clear hO hP hK b1 c_b1;go_wp2_with fail
   first | with_reducible exact hf | (go_simp;exact hf) | (go_ret;exact hf) | (go_ret2;exact hf)
 have dx:(x != 0)=false:=by simpa using hx
 have dx2:(x==0)=true:=by rw [beq_iff_eq];exact hx
 rw [if_pos hx] at hO;clear hx;have hOh:=Hd hO;clear hO;go_wp2_with fail
 refine tstepA (notes_rd _) hOh.out hK (read_p B p S2 _ _ hP) (fun _ h=>⟨rfl,h⟩) ?_
 clear hOh hK hP;intro n S3 w3 hrun hlf hla hnn hP hk1 hK hO;replace b1:=b1.keep hk1;clear hk1 hrun hlf hla hnn;clear c_b1;have c_b1:=b1.cells
 rw [if_neg (fun h=>absurd h.1 (by decide))] at hO
 unfold rgetA at hO
 rw [if_neg (by decide),ht1] at hO
 clear ht1
 obtain⟨n1,hn1⟩:∃ y,wrap64 (n+1)=y:=⟨_,rfl⟩
 have hwn:IntKind.i64.wrap (n+1)=n1:=by rw [<- hn1,IntKind.wrap_i64];unfold wrap64;omega
 rw [hn1] at hO;clear hn1;have hOh:=Hd hO;clear hO;go_wp2_with fail
 refine tstepA (notes_wr _ _) hOh.out hK (write_p B p S3 _ _ _ hP) (fun _ h=>⟨rfl,h⟩) ?_
 clear hOh hK hP;intro u S4 w4 hrun hlf hla hnn hP hk1 hK hO;replace b1:=b1.keep hk1;clear hk1 hrun hlf hla hnn;clear c_b1;have c_b1:=b1.cells;have hOh:=Hd hO;clear hO;go_wp2_with fail
 refine tstepA (notes_wr _ _) hOh.out hK (write_p B p S4 _ _ _ hP) (fun _ h=>⟨rfl,h⟩) ?_
 clear hOh hK hP;intro u S5 w5 hrun hlf hla hnn hP hk1 hK hO;replace b1:=b1.keep hk1;clear hk1 hrun hlf hla hnn;clear c_b1;have c_b1:=b1.cells
 have hf:=hO.done hP hK
 clear hO hP hK b1 c_b1;go_wp2_with fail
 first | with_reducible exact hf | (go_simp;exact hf) | (go_ret;exact hf) | (go_ret2;exact hf)
theorem renter_p (B p:Nat)(S:TS)(t:Int)(wb:Bool)(arg alg:Int)(N:Nat)(mode base loc room c l:Int)(w:World)(h:Plays B w p S)(hc:0<=c/\c<=40000) :
  Calls Tryz.prog 159 #[.pointer (some ⟨p,0,none⟩),.agg #[V Z 0,V Z 0,V Z 0,V Z 0,V Z arg,V Z 0,V Z 0,V Z 0,V Z alg,V Z N,V Z mode,V Z base,V Z loc,V Z room,V Z 0,V Z 0,V Z 0,V Z 0,V Z 0,V Z 0,V Z 0,V Z c,V Z l],V Z t,.bool wb] w (Post encB B p w ((rturnA c t wb).run S)):=by
 cases wb
 · exact renterF_p B p S t arg alg N mode base loc room c l w h hc
 · exact renterT_p B p S t arg alg N mode base loc room c l w h hc
set_option maxRecDepth 100000 in
theorem rlock2_p (B p:Nat)(S:TS)(t:Int)(wb:Bool)(bt bm bo bw:Nat)(arg alg:Int)(N:Nat)(mode base loc room c l:Int)(w:World)(h:Plays B w p S)(hc:0<=c/\c<=40000)(ht:HeldP w p bt (.cells #[V Z t] 3))(hm:HeldP w p bm (.cells #[.pointer (some ⟨p,0,none⟩)] 33))(ho:HeldP w p bo (.cells #[V Z 0,V Z 0,V Z 0,V Z 0,V Z arg,V Z 0,V Z 0,V Z 0,V Z alg,V Z N,V Z mode,V Z base,V Z loc,V Z room,V Z 0,V Z 0,V Z 0,V Z 0,V Z 0,V Z 0,V Z 0,V Z c,V Z l] 69))(hw:HeldP w p bw (.cells #[.bool wb] 4)) :
  Calls Tryz.prog 158 #[.pointer (some ⟨bt,0,none⟩),.pointer (some ⟨bm,0,none⟩),.pointer (some ⟨bo,0,none⟩),.pointer (some ⟨bw,0,none⟩)] w (Post encT B p w ((rturnT c t wb).run S)):=by
 generalize hR:Post encT B p w ((rturnT c t wb).run S)=R
 have hO:Owes R encT B p w ((rturnT c t wb).run S):=hR▸owes _ _ _ _ _
 clear hR
 have hK:=Keep.refl [2,3,4] B p w
 have c_ht:=ht.cells;have c_hm:=hm.cells;have c_hw:=hw.cells;have hP:=h;clear h
 have hq:=Hd fun w hP=>renter_p B p S t wb arg alg N mode base loc room c l w hP hc
 unfold rturnT at hO
 go_enter Tryz.func158,Tryz.ntmps158
 go_upto_region 1 with fail
 replace hP:=hP.drew;replace hK:=hK.drew;replace ht:=ht.drew;replace hm:=hm.drew;replace ho:=ho.drew;replace hw:=hw.drew;clear c_ht c_hm c_hw
 have hS:∀ w',HeldP w' p bt (.cells #[V Z t] 3)->HeldP w' p bm (.cells #[.pointer (some ⟨p,0,none⟩)] 33)->HeldP w' p bw (.cells #[.bool wb] 4)->HeldP w' p bo (.cells #[V Z 0,V Z 0,V Z 0,V Z 0,V Z arg,V Z 0,V Z 0,V Z 0,V Z alg,V Z N,V Z mode,V Z base,V Z loc,V Z room,V Z 0,V Z 0,V Z 0,V Z 0,V Z 0,V Z 0,V Z 0,V Z c,V Z l] 69)->(w'.cell? ⟨bt,0,none⟩=some (V Z t)/\w'.cell? ⟨bm,0,none⟩=some (.pointer (some ⟨p,0,none⟩))/\w'.cell? ⟨bw,0,none⟩=some (.bool wb)/\w'.heap[bo]?=some (.cells #[V Z 0,V Z 0,V Z 0,V Z 0,V Z arg,V Z 0,V Z 0,V Z 0,V Z alg,V Z N,V Z mode,V Z base,V Z loc,V Z room,V Z 0,V Z 0,V Z 0,V Z 0,V Z 0,V Z 0,V Z 0,V Z c,V Z l] 69)):=fun w' h1 h2 h3 h4=>⟨h1.cells 0,h2.cells 0,h3.cells 0,h4.1⟩
 refine wp_region_held_drew (S:=fun w'=>w'.cell? ⟨bt,0,none⟩=some (V Z t)/\w'.cell? ⟨bm,0,none⟩=some (.pointer (some ⟨p,0,none⟩))/\w'.cell? ⟨bw,0,none⟩=some (.bool wb)/\w'.heap[bo]?=some (.cells #[V Z 0,V Z 0,V Z 0,V Z 0,V Z arg,V Z 0,V Z 0,V Z 0,V Z alg,V Z N,V Z mode,V Z base,V Z loc,V Z room,V Z 0,V Z 0,V Z 0,V Z 0,V Z 0,V Z 0,V Z 0,V Z c,V Z l] 69)) rfl (hS _ ht hm hw ho) (fun hHeld=>?_)
 refine tk 0 (v:=?_) rfl (by kernel_rfl) (fun _ _ _ h=>h) (by assumption) ?_ ?_
 rotate_left
 · (intro w hSw;(try dsimp only at hSw);go_simp;try with_reducible rfl)
 try simp only [put_pack]
 refine tk 1 (v:=?_) rfl (by kernel_rfl) (fun _ _ _ h=>h) (by assumption) ?_ ?_
 rotate_left
 · (intro w hSw;(try dsimp only at hSw);go_simp;try with_reducible rfl)
 try simp only [put_pack]
 refine tk 2 rfl (by kernel_rfl) (fun _ _ _ h=>h) (by assumption) (fun w hw=>obj_run rfl bo rfl hw.2.2.2 rfl) ?_
 try simp only [put_pack]
 refine tk 3 (v:=?_) rfl (by kernel_rfl) (fun _ _ _ h=>h) (by assumption) ?_ ?_
 rotate_left
 · (intro w hSw;(try dsimp only at hSw);go_simp;try with_reducible rfl)
 try simp only [put_pack]
 refine tk 4 (v:=?_) rfl (by kernel_rfl) (fun _ _ _ h=>h) (by assumption) ?_ ?_
 rotate_left
 · (intro w hSw;(try dsimp only at hSw);go_simp;try with_reducible rfl)
 try simp only [put_pack]
 refine wpAnyH_ready (rs:=[5]) (by kernel_rfl) (by simp) ?_
 refine AllReadyH.cons rfl (fun K hKK=>?_) (AllReadyH.nil)
 go_simp
 refine tstep hO hK (hq.out _ hP) (fun _ h=>⟨rfl,h⟩) ?_
 clear hO hK hP;intro g S1 w1 hrun hP hk1 hK hO
 have hS1:=hS _ (ht.keep hk1) (hm.keep hk1) (hw.keep hk1) (ho.keep hk1)
 clear hS ht hm hw ho hk1 hrun
 refine hKK.out _ _ hS1 (fun hHeld=>?_)
 clear hKK K
 try dsimp only
 refine tk 6 (v:=?_) rfl (by kernel_rfl) (fun _ _ _ h=>h) (by assumption) ?_ ?_
 rotate_left
 · (intro w hSw;(try dsimp only at hSw);go_simp;try with_reducible rfl)
 try simp only [put_pack]
 refine tk 7 (v:=?_) rfl (by kernel_rfl) (fun _ _ _ h=>h) (by assumption) ?_ ?_
 rotate_left
 · (intro w hSw;(try dsimp only at hSw);go_simp;try with_reducible rfl)
 try simp only [put_pack]
 refine wpAnyH_done (by kernel_rfl) ?_ _
 go_simp
 have hf:R (.returned (.tuple #[V Z t,.bool g])) _:=hO.done (v:=(t,g)) hP hK
 clear hO hP hK hS1;go_wp2_with fail
 first | with_reducible exact hf | exact hf | (go_ret2;exact hf)
theorem rmark_p (wb:Bool)(w:World):Calls Tryz.prog 160 #[.bool wb] w fun e w'=>e=.returned (V Z (rmark wb))/\w=w':=by
 cases wb
 all_goals
  go_enter Tryz.func160,Tryz.ntmps160
  go_wp2_with fail
  first | go_ret2 | go_ret
  exact⟨rfl,rfl⟩
set_option maxRecDepth 100000 in
theorem rlock_p (B p N D:Nat)(S:TS)(wb:Bool)(arg alg mode base loc room c l:Int)(m:Nat)(rs:List Reg)(w:World)(h:Plays B w p S)(hk:LkUse alg N mode base loc room rs m)(hta:TameA S)(hD:S.left<D)(hn0:S.nts.length+10*S.left<=90000)(hc:0<=c/\c<=40000) :
  Calls Tryz.prog 74 #[.pointer (some ⟨p,0,none⟩),.agg #[V Z 0,V Z 0,V Z 0,V Z 0,V Z arg,V Z 0,V Z 0,V Z 0,V Z alg,V Z N,V Z mode,V Z base,V Z loc,V Z room,V Z 0,V Z 0,V Z 0,V Z 0,V Z 0,V Z 0,V Z 0,V Z c,V Z l],V Z m,.bool wb] w (Post encI B p w ((rlockA (inA (lkA D alg N base loc room rs m) D) (lkR alg N base loc rs m) c l wb D).run S)):=by
 generalize hR:Post encI B p w ((rlockA (inA (lkA D alg N base loc room rs m) D) (lkR alg N base loc rs m) c l wb D).run S)=R
 have hO:Owes R encI B p w ((rlockA (inA (lkA D alg N base loc room rs m) D) (lkR alg N base loc rs m) c l wb D).run S):=hR▸owes _ _ _ _ _
 clear hR
 have hK:=Keep.refl [2,3,4] B p w
 have hP:=h
 have b1:=hP.held (.cells #[.pointer (some ⟨p,0,none⟩)] 33)
 replace hK:=hK.trans (Keep.alloc (.cells #[.pointer (some ⟨p,0,none⟩)] 33) hP.lt hP.le)
 replace hP:=hP.alloc (.cells #[.pointer (some ⟨p,0,none⟩)] 33)
 have b2:=hP.held (.cells #[V Z 0,V Z 0,V Z 0,V Z 0,V Z arg,V Z 0,V Z 0,V Z 0,V Z alg,V Z N,V Z mode,V Z base,V Z loc,V Z room,V Z 0,V Z 0,V Z 0,V Z 0,V Z 0,V Z 0,V Z 0,V Z c,V Z l] 69)
 simp only [World.size_alloc] at b2
 replace b1:=b1.alloc (.cells #[V Z 0,V Z 0,V Z 0,V Z 0,V Z arg,V Z 0,V Z 0,V Z 0,V Z alg,V Z N,V Z mode,V Z base,V Z loc,V Z room,V Z 0,V Z 0,V Z 0,V Z 0,V Z 0,V Z 0,V Z 0,V Z c,V Z l] 69) hP.lt
 replace hK:=hK.trans (Keep.alloc (.cells #[V Z 0,V Z 0,V Z 0,V Z 0,V Z arg,V Z 0,V Z 0,V Z 0,V Z alg,V Z N,V Z mode,V Z base,V Z loc,V Z room,V Z 0,V Z 0,V Z 0,V Z 0,V Z 0,V Z 0,V Z 0,V Z c,V Z l] 69) hP.lt hP.le)
 replace hP:=hP.alloc (.cells #[V Z 0,V Z 0,V Z 0,V Z 0,V Z arg,V Z 0,V Z 0,V Z 0,V Z alg,V Z N,V Z mode,V Z base,V Z loc,V Z room,V Z 0,V Z 0,V Z 0,V Z 0,V Z 0,V Z 0,V Z 0,V Z c,V Z l] 69)
 have b3:=hP.held (.cells #[.bool wb] 4)
 simp only [World.size_alloc] at b3
 replace b1:=b1.alloc (.cells #[.bool wb] 4) hP.lt
 replace b2:=b2.alloc (.cells #[.bool wb] 4) hP.lt
 replace hK:=hK.trans (Keep.alloc (.cells #[.bool wb] 4) hP.lt hP.le)
 replace hP:=hP.alloc (.cells #[.bool wb] 4)
 have c_b1:=b1.cells;have c_b2:=b2.cells;have c_b3:=b3.cells;clear h
 have hi1:=Hd fun (bm bo:Nat) (S:TS) (w:World) (hP:Plays B w p S) (hta:TameA S) (hD:S.left<D) (hn0:S.nts.length+10*S.left<=90000) (h1:HeldP w p bm (.cells #[.pointer (some ⟨p,0,none⟩)] 33)) (h2:HeldP w p bo (.cells #[V Z 0,V Z 0,V Z 0,V Z 0,V Z arg,V Z 0,V Z 0,V Z 0,V Z alg,V Z N,V Z mode,V Z base,V Z loc,V Z room,V Z 0,V Z 0,V Z 0,V Z 0,V Z 0,V Z 0,V Z 0,V Z c,V Z l] 69)) =>
  rinside_p (rtailT c) (fun W=>HeldP W p bm (.cells #[.pointer (some ⟨p,0,none⟩)] 33)/\HeldP W p bo (.cells #[V Z 0,V Z 0,V Z 0,V Z 0,V Z arg,V Z 0,V Z 0,V Z 0,V Z alg,V Z N,V Z mode,V Z base,V Z loc,V Z room,V Z 0,V Z 0,V Z 0,V Z 0,V Z 0,V Z 0,V Z 0,V Z c,V Z l] 69)) 157 #[.pointer (some ⟨bm,0,none⟩),.pointer (some ⟨bo,0,none⟩)] (fun _ _=>rfl) B p N D S arg alg mode base loc room c l m rs w hP ⟨h1,h2⟩ (fun W W' hk h=>⟨h.1.keep hk,h.2.keep hk⟩) hk hta hD hn0 (rtailT_notes c)
   (fun S1 W hP1 h1 _=>rlock1_p B p S1 bm bo arg alg N mode base loc room c l W hP1 hc h1.1 h1.2)
 have hi2:=Hd fun (t:Int) (bt bm bo bw:Nat) (S:TS) (w:World) (hP:Plays B w p S) (hta:TameA S) (hD:S.left<D) (hn0:S.nts.length+10*S.left<=90000) (h0:HeldP w p bt (.cells #[V Z t] 3)) (h1:HeldP w p bm (.cells #[.pointer (some ⟨p,0,none⟩)] 33)) (h2:HeldP w p bo (.cells #[V Z 0,V Z 0,V Z 0,V Z 0,V Z arg,V Z 0,V Z 0,V Z 0,V Z alg,V Z N,V Z mode,V Z base,V Z loc,V Z room,V Z 0,V Z 0,V Z 0,V Z 0,V Z 0,V Z 0,V Z 0,V Z c,V Z l] 69)) (h3:HeldP w p bw (.cells #[.bool wb] 4)) =>
  rinside_p (rturnT c t wb) (fun W=>HeldP W p bt (.cells #[V Z t] 3)/\HeldP W p bm (.cells #[.pointer (some ⟨p,0,none⟩)] 33)/\HeldP W p bo (.cells #[V Z 0,V Z 0,V Z 0,V Z 0,V Z arg,V Z 0,V Z 0,V Z 0,V Z alg,V Z N,V Z mode,V Z base,V Z loc,V Z room,V Z 0,V Z 0,V Z 0,V Z 0,V Z 0,V Z 0,V Z 0,V Z c,V Z l] 69)/\HeldP W p bw (.cells #[.bool wb] 4)) 158 #[.pointer (some ⟨bt,0,none⟩),.pointer (some ⟨bm,0,none⟩),.pointer (some ⟨bo,0,none⟩),.pointer (some ⟨bw,0,none⟩)] (fun _ _=>rfl) B p N D S arg alg mode base loc room c l m rs w hP ⟨h0,h1,h2,h3⟩ (fun W W' hk h=>⟨h.1.keep hk,h.2.1.keep hk,h.2.2.1.keep hk,h.2.2.2.keep hk⟩) hk hta hD hn0 (rturnT_notes c t wb)
   (fun S1 W hP1 h1 _=>rlock2_p B p S1 t wb bt bm bo bw arg alg N mode base loc room c l W hP1 hc h1.1 h1.2.1 h1.2.2.1 h1.2.2.2)
 have hpay:=Hd (lkA_pays D alg N base loc room rs m D)
 have hUn:=Hd (notes_lkR alg N base loc rs m)
 generalize (inA (lkA D alg N base loc room rs m) D)=I at *
 generalize (lkR alg N base loc rs m)=U at *
 have hp1:=Hd (insideA_pays hpay.out hUn.out (((asks_rd _).bind _ |> fun (h:(rtailT c).Asks)=>h).pays (rtailT_notes c)))
 have hp2:=Hd fun t=>insideA_pays hpay.out hUn.out (((rturnA_asks c t wb).bind _:(rturnT c t wb).Asks).pays (rturnT_notes c t wb))
 have ha2:=Hd fun t=>insideA_asks I U ((rturnA_asks c t wb).bind _:(rturnT c t wb).Asks)
 clear hk hpay hUn;unfold rlockA at hO;rw [run_gt] at hO;have hOh:=Hd hO;clear hO
 go_enter Tryz.func74,Tryz.ntmps74
 go_wp2_with fail
 generalize hzm:w.heap.size=zm at *
 generalize hzo:zm+1=zo at *
 generalize hzw:zo+1=zw at *
 clear hzm hzo hzw
 generalize World.alloc (World.alloc (World.alloc w _) _) _=W0 at *
 refine (get_p B p S l _ hP).mono ?_
 rintro e w' ⟨rfl,rfl⟩;have hO:=hOh.out;clear hOh
 generalize S.got l=g at hO ⊢
 by_cases hg:g=0
 rotate_left
 · have dg:(g != 0)=true:=by rw [bne_iff_ne];exact hg
   rw [if_neg hg] at hO;clear hg
   have hf:=hO.done hP hK
   clear hO hP hK b1 b2 b3 c_b1 c_b2 c_b3;go_wp2_with fail
   first | with_reducible exact hf | (go_simp;exact hf) | (go_ret;exact hf) | (go_ret2;exact hf)
 have dg:(g != 0)=false:=by simpa using hg
 obtain⟨F0,hF0⟩:∃ F0:Int->Prog Int,F0=fun t=>(rwaitA I U c t wb D).bind fun _=>(st l (rmark wb)).bind fun _=>.ret 0:=⟨_,rfl⟩
 rw [if_pos hg,<- hF0,<- inside_map I U (rtailA c) (fun t=>(t,true)) (fun x=>F0 x.1),<- show rtailT c=(rtailA c).bind fun t=>.ret (t,true) from rfl] at hO
 clear hg;replace hF0:=Hd hF0;have hOh:=Hd hO;clear hO
 go_upto_region 3 with fail
 refine wp_region_lit ?_
 refine wpList_plain rfl fun Kq hKq=>?_
 unfold Oper.wp execOp
 go_simp
 refine hKq _ _ ?_
 clear hKq Kq
 refine load_objS rfl _ rfl zo rfl b2.1 rfl ?_
 try simp only [put_pack]
 go_wp2_with fail
 refine tstep hOh.out hK (hi1.out _ _ S _ hP hta hD hn0 b1 b2) (fun _ h=>⟨rfl,h⟩) ?_
 clear hOh hK hP;intro x S1 w1 hr hP hk1 hK hO
 obtain⟨t,x2⟩:=x
 have hpy:=hp1.out S _ S1 hr hP.1
 have hlf:=Prog.run_left (insideA I U (rtailT c)) S
 rw [hr] at hlf
 simp only at hlf
 replace hta:=hta.run hr;replace b1:=b1.keep hk1;replace b2:=b2.keep hk1;replace b3:=b3.keep hk1
 replace hD:S1.left<D:=by omega
 replace hn0:S1.nts.length+10*S1.left<=90000:=by omega
 clear hr hk1 c_b1 c_b2 c_b3 hpy hlf hi1 hp1
 replace hO:Owes R encI B p w ((F0 t).run S1):=hO
 rw [hF0.out] at hO
 obtain⟨F,hF⟩:∃ F:Unit->Prog Int,F=fun _=>(st l (rmark wb)).bind fun _=>.ret 0:=⟨_,rfl⟩
 replace hO:Owes R encI B p w (((rwaitA I U c t wb D).bind F).run S1):=by rw [hF];exact hO
 have hFh:=Hd hF
 clear hF hF0;have c_b1:=b1.cells;have c_b2:=b2.cells;have c_b3:=b3.cells;have hOh:=Hd hO;clear hO
 rw [show encT (t,x2)=.tuple #[V Z t,.bool x2] from rfl]
 have b4:=hP.held (.cells #[V Z t] 3)
 replace b1:=b1.alloc (.cells #[V Z t] 3) hP.lt
 replace b2:=b2.alloc (.cells #[V Z t] 3) hP.lt
 replace b3:=b3.alloc (.cells #[V Z t] 3) hP.lt
 replace hK:=hK.trans (Keep.alloc (.cells #[V Z t] 3) hP.lt hP.le)
 replace hP:=hP.alloc (.cells #[V Z t] 3)
 go_wp2_with fail
 generalize hzt:w1.heap.size=zt at *
 generalize World.alloc w1 _=W1 at *
 clear hzt c_b1 c_b2 c_b3
 go_loopw [] (fun wr'=>∃ (n:Nat) (S2:TS),Plays B wr' p S2/\KeepP B p w wr'/\HeldP wr' p zt (.cells #[V Z t] 3)/\HeldP wr' p zm (.cells #[.pointer (some ⟨p,0,none⟩)] 33)/\HeldP wr' p zo (.cells #[V Z 0,V Z 0,V Z 0,V Z 0,V Z arg,V Z 0,V Z 0,V Z 0,V Z alg,V Z N,V Z mode,V Z base,V Z loc,V Z room,V Z 0,V Z 0,V Z 0,V Z 0,V Z 0,V Z 0,V Z 0,V Z c,V Z l] 69)/\HeldP wr' p zw (.cells #[.bool wb] 4)/\TameA S2/\S2.left<D/\S2.nts.length+10*S2.left<=90000/\S2.left<n/\Hid (Owes R encI B p w (((rwaitA I U c t wb n).bind F).run S2))) (fun wr'=>leftW 1 3 wr' p)
 case atStart=>exact⟨D,S1,hP,hK,b4,b1,b2,b3,hta,hD,hn0,hD,hOh⟩
 case round =>
  clear hP hK b1 b2 b3 b4 hta hD hn0 hOh
  obtain⟨n,S2,hP,hK,b4,b1,b2,b3,hta,hD,hn0,hn,hO⟩:=hrel
  replace hO:=hO.out
  have hlw:=Hd hP.left
  cases n with
  | zero=>omega
  | succ n =>
    rw [show rwaitA I U c t wb (n+1)=(insideA I U (rturnA c t wb)).bind fun g=>if g=true then .ret () else rwaitA I U c t wb n from rfl,Prog.bind_assoc] at hO
    replace hO:Owes R encI B p w (((insideA I U (rturnT c t wb)).bind fun x=>((fun g=>if g=true then .ret () else rwaitA I U c t wb n) x.2).bind F).run S2):=by
     rw [show rturnT c t wb=(rturnA c t wb).bind fun g=>.ret (t,g) from rfl,inside_map I U (rturnA c t wb) (fun g=>(t,g)) (fun x=>((fun g=>if g=true then .ret () else rwaitA I U c t wb n) x.2).bind F)]
     exact hO
    have hOh:=Hd hO;clear hO;have c_b1:=b1.cells
    go_upto_region 4 with fail
    refine wp_region_lit ?_
    refine wpList_plain rfl fun Kq hKq=>?_
    unfold Oper.wp execOp
    go_simp
    refine hKq _ _ ?_
    clear hKq Kq
    refine load_objS rfl _ rfl zo rfl b2.1 rfl ?_
    try simp only [put_pack]
    go_wp2_with fail
    clear c_b1
    refine tstep hOh.out hK (hi2.out t _ _ _ _ S2 _ hP hta hD hn0 b4 b1 b2 b3) (fun _ h=>⟨rfl,h⟩) ?_
    clear hOh hK hP;intro x S3 w3 hrun hP hk hK hO
    obtain⟨x1,g⟩:=x
    have hlw2:=Hd hP.left
    have hdec:=(ha2.out t).left hrun hP.1
    have hpy:=hp2.out t S2 _ S3 hrun hP.1
    replace b1:=b1.keep hk;replace b2:=b2.keep hk;replace b3:=b3.keep hk;replace b4:=b4.keep hk;replace hta:=hta.run hrun;clear hk hrun
    rw [show encT (x1,g)=.tuple #[V Z x1,.bool g] from rfl]
    cases g with
    | true =>
      replace hO:Owes R encI B p w ((F ()).run S3):=hO
      rw [hFh.out] at hO;clear hlw hlw2 hFh hi2 ha2 hp2 b4;have c_b1:=b1.cells;have c_b2:=b2.cells;have c_b3:=b3.cells;have hOh:=Hd hO;clear hO;go_wp2_with fail
      have hO:=hOh.out;clear hOh;replace hP:=hP.drew;replace hK:=hK.drew;replace b1:=b1.drew;replace b2:=b2.drew;replace b3:=b3.drew;clear c_b1 c_b2 c_b3
      have c_m:(_:World).cell? ⟨zm,0,none⟩=some (.pointer (some ⟨p,0,none⟩)):=b1.cells 0
      have c_o:(_:World).cell? ⟨zo,22,none⟩=some (V Z l):=b2.cells 22
      have c_w:(_:World).cell? ⟨zw,0,none⟩=some (.bool wb):=b3.cells 0
      go_region_held2 (fun w'=>w'.cell? ⟨zm,0,none⟩=some (.pointer (some ⟨p,0,none⟩))/\w'.cell? ⟨zo,22,none⟩=some (V Z l)/\w'.cell? ⟨zw,0,none⟩=some (.bool wb)) (first | with_reducible exact⟨c_m,c_o,c_w⟩ | go_keep)
       (first
         | (go_at_call 160
            refine (rmark_p wb _).mono ?_
            rintro e w' ⟨rfl,rfl⟩)
         | (go_at_call 132
            refine tstep hO hK (setO hP) (fun _ h=>⟨rfl,h⟩) ?_
            clear hO hK hP c_m c_o c_w;intro u S4 w4 hr hP hk1 hK hO;replace b1:=b1.keep hk1;replace b2:=b2.keep hk1;replace b3:=b3.keep hk1
            have c_m:(_:World).cell? ⟨zm,0,none⟩=some (.pointer (some ⟨p,0,none⟩)):=b1.cells 0
            have c_o:(_:World).cell? ⟨zo,22,none⟩=some (V Z l):=b2.cells 22
            have c_w:(_:World).cell? ⟨zw,0,none⟩=some (.bool wb):=b3.cells 0
            clear hr hk1))
      have hf:=hO.done hP hK
      clear hO hP hK b1 b2 b3 c_m c_o c_w;go_wp2_with fail
      first | with_reducible exact hf | (go_simp;exact hf) | (go_ret;exact hf) | (go_ret2;exact hf)
    | false =>
      replace hO:Owes R encI B p w (((rwaitA I U c t wb n).bind F).run S3):=hO
      have hOh:=Hd hO;clear hO;go_wp2_with fail
      refine⟨⟨n,S3,hP,hK,b4,b1,b2,b3,hta,by omega,by omega,by omega,hOh⟩,?_⟩
      rw [hlw.out,hlw2.out]
      omega
set_option maxRecDepth 100000 in
theorem runlock1T_p (B p:Nat)(S:TS)(bw bm bo:Nat)(arg alg:Int)(N:Nat)(mode base loc room c l:Int)(w:World)(h:Plays B w p S)(hta:TameA S)(hc:0<=c/\c<=40000)(hw:HeldP w p bw (.cells #[.bool true] 4))(hm:HeldP w p bm (.cells #[.pointer (some ⟨p,0,none⟩)] 33))(ho:HeldP w p bo (.cells #[V Z 0,V Z 0,V Z 0,V Z 0,V Z arg,V Z 0,V Z 0,V Z 0,V Z alg,V Z N,V Z mode,V Z base,V Z loc,V Z room,V Z 0,V Z 0,V Z 0,V Z 0,V Z 0,V Z 0,V Z 0,V Z c,V Z l] 69)) :
  Calls Tryz.prog 162 #[.pointer (some ⟨bw,0,none⟩),.pointer (some ⟨bm,0,none⟩),.pointer (some ⟨bo,0,none⟩)] w (Post encT B p w ((rlowT c true).run S)):=by
 generalize hR:Post encT B p w ((rlowT c true).run S)=R
 have hO:Owes R encT B p w ((rlowT c true).run S):=hR▸owes _ _ _ _ _
 clear hR
 have hK:=Keep.refl [2,3,4] B p w
 have c_hw:=hw.cells;have c_hm:=hm.cells;have c_ho:=ho.cells;have hP:=h;clear h
 have hw1:=IntWalk.i64_in (c+1) (by omega)
 have hwc:=IntWalk.i64_in c (by omega)
 have hw0:=IntWalk.i64_in (c+0) (by omega)
 unfold rlowT rlowA at hO
 rw [if_pos rfl] at hO;have hOh:=Hd hO;clear hO
 go_enter Tryz.func162,Tryz.ntmps162
 go_wp2_with fail
 refine tstepA (notes_wr _ _) hOh.out hK (write_p B p S _ _ _ hP) (fun _ h=>⟨rfl,h⟩) ?_
 clear hOh hK hP;intro u S3 w3 hrun hlf hla hnn hP hk1 hK hO;clear hk1 hrun hlf hla hnn c_hw c_hm c_ho
 have hf:R (.returned (.tuple #[V Z 0,.bool true])) _:=hO.done (v:=((0:Int),true)) hP hK
 clear hO hP hK hm ho hw;go_wp2_with fail
 first | with_reducible exact hf | exact hf | (go_ret2;exact hf)
set_option maxRecDepth 100000 in
theorem runlock1F_p (B p:Nat)(S:TS)(bw bm bo:Nat)(arg alg:Int)(N:Nat)(mode base loc room c l:Int)(w:World)(h:Plays B w p S)(hta:TameA S)(hc:0<=c/\c<=40000)(hw:HeldP w p bw (.cells #[.bool false] 4))(hm:HeldP w p bm (.cells #[.pointer (some ⟨p,0,none⟩)] 33))(ho:HeldP w p bo (.cells #[V Z 0,V Z 0,V Z 0,V Z 0,V Z arg,V Z 0,V Z 0,V Z 0,V Z alg,V Z N,V Z mode,V Z base,V Z loc,V Z room,V Z 0,V Z 0,V Z 0,V Z 0,V Z 0,V Z 0,V Z 0,V Z c,V Z l] 69)) :
  Calls Tryz.prog 162 #[.pointer (some ⟨bw,0,none⟩),.pointer (some ⟨bm,0,none⟩),.pointer (some ⟨bo,0,none⟩)] w (Post encT B p w ((rlowT c false).run S)):=by
 generalize hR:Post encT B p w ((rlowT c false).run S)=R
 have hO:Owes R encT B p w ((rlowT c false).run S):=hR▸owes _ _ _ _ _
 clear hR
 have hK:=Keep.refl [2,3,4] B p w
 have c_hw:=hw.cells;have c_hm:=hm.cells;have c_ho:=ho.cells;have hP:=h;clear h
 have hw1:=IntWalk.i64_in (c+1) (by omega)
 have hwc:=IntWalk.i64_in c (by omega)
 have hw0:=IntWalk.i64_in (c+0) (by omega)
 unfold rlowT rlowA at hO
 rw [if_neg (by decide),Prog.bind_assoc] at hO
 go_enter Tryz.func162,Tryz.ntmps162
 go_upto_region 3 with fail
 replace hP:=hP.drew;replace hK:=hK.drew;replace hm:=hm.drew;replace ho:=ho.drew;clear c_hw c_hm c_ho
 have hS:(_:World).cell? ⟨bm,0,none⟩=some (.pointer (some ⟨p,0,none⟩))/\(_:World).cell? ⟨bo,21,none⟩=some (V Z c):=⟨hm.cells 0,ho.cells 21⟩
 refine wp_region_held_drew (S:=fun w'=>w'.cell? ⟨bm,0,none⟩=some (.pointer (some ⟨p,0,none⟩))/\w'.cell? ⟨bo,21,none⟩=some (V Z c)) rfl hS (fun hHeld=>?_)
 refine tkb 0 ?_
 iterate 8
  refine tkn (v:=?_) rfl (by kernel_rfl) (fun _ _ _ h=>h) (by assumption) ?_ ?_
  rotate_left
  · (intro w hSw;(try dsimp only at hSw);go_simp;try with_reducible rfl)
  try simp only [put_pack]
 refine tke ?_
 refine wpAnyH_ready (rs:=[8]) (by kernel_rfl) (by simp) ?_
 refine AllReadyH.cons rfl (fun K hKK=>?_) (AllReadyH.nil)
 go_simp
 refine tstepA (notes_rd _) hO hK (read_p B p S _ _ hP) (fun _ h=>⟨rfl,h⟩) ?_
 clear hO hK hP hS;intro x S2 wS2 hrun hlf hla hnn hP hk1 hK hO;replace hm:=hm.keep hk1;replace ho:=ho.keep hk1
 have hS:(_:World).cell? ⟨bm,0,none⟩=some (.pointer (some ⟨p,0,none⟩))/\(_:World).cell? ⟨bo,21,none⟩=some (V Z c):=⟨hm.cells 0,ho.cells 21⟩
 have hxb:=rd_bd hta hrun
 have hwx:=IntWalk.i64_in (x-1) (by omega)
 clear hk1 hrun hla hlf hnn
 refine hKK.out _ _ hS (fun hHeld=>?_)
 clear hKK K
 try dsimp only
 refine tk 9 (v:=?_) rfl (by kernel_rfl) (fun _ _ _ h=>h) (by assumption) ?_ ?_
 rotate_left
 · (intro w hSw;(try dsimp only at hSw);go_simp;try with_reducible rfl)
 try simp only [put_pack]
 refine tk 10 (v:=?_) rfl (by kernel_rfl) (fun _ _ _ h=>h) (by assumption) ?_ ?_
 rotate_left
 · (intro w hSw;(try dsimp only at hSw);go_simp;try with_reducible rfl)
 try simp only [put_pack]
 refine wpAnyH_ready (rs:=[11]) (by kernel_rfl) (by simp) ?_
 refine AllReadyH.cons rfl (fun K hKK=>?_) (AllReadyH.nil)
 go_simp
 refine tstepA (notes_wr _ _) hO hK (write_p B p S2 _ _ _ hP) (fun _ h=>⟨rfl,h⟩) ?_
 clear hO hK hP hS;intro u S3 wS3 hrun hlf hla hnn hP hk1 hK hO;replace hm:=hm.keep hk1;replace ho:=ho.keep hk1
 have hS:(_:World).cell? ⟨bm,0,none⟩=some (.pointer (some ⟨p,0,none⟩))/\(_:World).cell? ⟨bo,21,none⟩=some (V Z c):=⟨hm.cells 0,ho.cells 21⟩
 clear hk1 hrun hla hlf hnn
 refine hKK.out _ _ hS (fun hHeld=>?_)
 clear hKK K
 try dsimp only
 refine wpAnyH_done (by kernel_rfl) ?_ _
 go_simp
 clear hS
 have hf:R (.returned (.tuple #[V Z 0,.bool true])) _:=hO.done (v:=((0:Int),true)) hP hK
 clear hO hP hK hm ho hw;go_wp2_with fail
 first | with_reducible exact hf | exact hf | (go_ret2;exact hf)
theorem runlock1_p (B p:Nat)(S:TS)(wb:Bool)(bw bm bo:Nat)(arg alg:Int)(N:Nat)(mode base loc room c l:Int)(w:World)(h:Plays B w p S)(hta:TameA S)(hc:0<=c/\c<=40000)(hw:HeldP w p bw (.cells #[.bool wb] 4))(hm:HeldP w p bm (.cells #[.pointer (some ⟨p,0,none⟩)] 33))(ho:HeldP w p bo (.cells #[V Z 0,V Z 0,V Z 0,V Z 0,V Z arg,V Z 0,V Z 0,V Z 0,V Z alg,V Z N,V Z mode,V Z base,V Z loc,V Z room,V Z 0,V Z 0,V Z 0,V Z 0,V Z 0,V Z 0,V Z 0,V Z c,V Z l] 69)) :
  Calls Tryz.prog 162 #[.pointer (some ⟨bw,0,none⟩),.pointer (some ⟨bm,0,none⟩),.pointer (some ⟨bo,0,none⟩)] w (Post encT B p w ((rlowT c wb).run S)):=by
 cases wb
 · exact runlock1F_p B p S bw bm bo arg alg N mode base loc room c l w h hta hc hw hm ho
 · exact runlock1T_p B p S bw bm bo arg alg N mode base loc room c l w h hta hc hw hm ho
set_option maxRecDepth 100000 in
theorem runlock_p (B p N D:Nat)(S:TS)(wb:Bool)(arg alg mode base loc room c l:Int)(m:Nat)(rs:List Reg)(w:World)(h:Plays B w p S)(hk:LkUse alg N mode base loc room rs m)(hta:TameA S)(hD:S.left<D)(hn0:S.nts.length+10*S.left<=90000)(hc:0<=c/\c<=40000) :
  Calls Tryz.prog 77 #[.pointer (some ⟨p,0,none⟩),.agg #[V Z 0,V Z 0,V Z 0,V Z 0,V Z arg,V Z 0,V Z 0,V Z 0,V Z alg,V Z N,V Z mode,V Z base,V Z loc,V Z room,V Z 0,V Z 0,V Z 0,V Z 0,V Z 0,V Z 0,V Z 0,V Z c,V Z l],V Z m,.bool wb] w (Post encI B p w ((runlockA (inA (lkA D alg N base loc room rs m) D) (lkR alg N base loc rs m) c l wb).run S)):=by
 generalize hR:Post encI B p w ((runlockA (inA (lkA D alg N base loc room rs m) D) (lkR alg N base loc rs m) c l wb).run S)=R
 have hO:Owes R encI B p w ((runlockA (inA (lkA D alg N base loc room rs m) D) (lkR alg N base loc rs m) c l wb).run S):=hR▸owes _ _ _ _ _
 clear hR
 have hK:=Keep.refl [2,3,4] B p w
 have hP:=h
 have b1:=hP.held (.cells #[.pointer (some ⟨p,0,none⟩)] 33)
 replace hK:=hK.trans (Keep.alloc (.cells #[.pointer (some ⟨p,0,none⟩)] 33) hP.lt hP.le)
 replace hP:=hP.alloc (.cells #[.pointer (some ⟨p,0,none⟩)] 33)
 have b2:=hP.held (.cells #[V Z 0,V Z 0,V Z 0,V Z 0,V Z arg,V Z 0,V Z 0,V Z 0,V Z alg,V Z N,V Z mode,V Z base,V Z loc,V Z room,V Z 0,V Z 0,V Z 0,V Z 0,V Z 0,V Z 0,V Z 0,V Z c,V Z l] 69)
 simp only [World.size_alloc] at b2
 replace b1:=b1.alloc (.cells #[V Z 0,V Z 0,V Z 0,V Z 0,V Z arg,V Z 0,V Z 0,V Z 0,V Z alg,V Z N,V Z mode,V Z base,V Z loc,V Z room,V Z 0,V Z 0,V Z 0,V Z 0,V Z 0,V Z 0,V Z 0,V Z c,V Z l] 69) hP.lt
 replace hK:=hK.trans (Keep.alloc (.cells #[V Z 0,V Z 0,V Z 0,V Z 0,V Z arg,V Z 0,V Z 0,V Z 0,V Z alg,V Z N,V Z mode,V Z base,V Z loc,V Z room,V Z 0,V Z 0,V Z 0,V Z 0,V Z 0,V Z 0,V Z 0,V Z c,V Z l] 69) hP.lt hP.le)
 replace hP:=hP.alloc (.cells #[V Z 0,V Z 0,V Z 0,V Z 0,V Z arg,V Z 0,V Z 0,V Z 0,V Z alg,V Z N,V Z mode,V Z base,V Z loc,V Z room,V Z 0,V Z 0,V Z 0,V Z 0,V Z 0,V Z 0,V Z 0,V Z c,V Z l] 69)
 have b3:=hP.held (.cells #[.bool wb] 4)
 simp only [World.size_alloc] at b3
 replace b1:=b1.alloc (.cells #[.bool wb] 4) hP.lt
 replace b2:=b2.alloc (.cells #[.bool wb] 4) hP.lt
 replace hK:=hK.trans (Keep.alloc (.cells #[.bool wb] 4) hP.lt hP.le)
 replace hP:=hP.alloc (.cells #[.bool wb] 4)
 have c_b1:=b1.cells;have c_b2:=b2.cells;have c_b3:=b3.cells;clear h
 have hi1:=Hd fun (bw bm bo:Nat) (S:TS) (w:World) (hP:Plays B w p S) (hta:TameA S) (hD:S.left<D) (hn0:S.nts.length+10*S.left<=90000) (h1:HeldP w p bm (.cells #[.pointer (some ⟨p,0,none⟩)] 33)) (h2:HeldP w p bo (.cells #[V Z 0,V Z 0,V Z 0,V Z 0,V Z arg,V Z 0,V Z 0,V Z 0,V Z alg,V Z N,V Z mode,V Z base,V Z loc,V Z room,V Z 0,V Z 0,V Z 0,V Z 0,V Z 0,V Z 0,V Z 0,V Z c,V Z l] 69)) (h3:HeldP w p bw (.cells #[.bool wb] 4)) =>
  rinside_p (rlowT c wb) (fun W=>HeldP W p bm (.cells #[.pointer (some ⟨p,0,none⟩)] 33)/\HeldP W p bo (.cells #[V Z 0,V Z 0,V Z 0,V Z 0,V Z arg,V Z 0,V Z 0,V Z 0,V Z alg,V Z N,V Z mode,V Z base,V Z loc,V Z room,V Z 0,V Z 0,V Z 0,V Z 0,V Z 0,V Z 0,V Z 0,V Z c,V Z l] 69)/\HeldP W p bw (.cells #[.bool wb] 4)) 162 #[.pointer (some ⟨bw,0,none⟩),.pointer (some ⟨bm,0,none⟩),.pointer (some ⟨bo,0,none⟩)] (fun _ _=>rfl) B p N D S arg alg mode base loc room c l m rs w hP ⟨h1,h2,h3⟩ (fun W W' hk h=>⟨h.1.keep hk,h.2.1.keep hk,h.2.2.keep hk⟩) hk hta hD hn0 (rlowT_notes c wb)
   (fun S1 W hP1 h1 ht1=>runlock1_p B p S1 wb bw bm bo arg alg N mode base loc room c l W hP1 ht1 hc h1.2.2 h1.1 h1.2.1)
 have hpay:=Hd (lkA_pays D alg N base loc room rs m D)
 have hUn:=Hd (notes_lkR alg N base loc rs m)
 generalize (inA (lkA D alg N base loc room rs m) D)=I at *
 generalize (lkR alg N base loc rs m)=U at *
 clear hk hpay hUn;unfold runlockA at hO;rw [run_gt] at hO;have hOh:=Hd hO;clear hO
 go_enter Tryz.func77,Tryz.ntmps77
 go_wp2_with fail
 generalize hzm:w.heap.size=zm at *
 generalize hzo:zm+1=zo at *
 generalize hzw:zo+1=zw at *
 clear hzm hzo hzw
 generalize World.alloc (World.alloc (World.alloc w _) _) _=W0 at *
 have hO:=hOh.out;clear hOh;replace hP:=hP.drew;replace hK:=hK.drew;replace b1:=b1.drew;replace b2:=b2.drew;replace b3:=b3.drew;clear c_b1 c_b2 c_b3
 have c_m:(_:World).cell? ⟨zm,0,none⟩=some (.pointer (some ⟨p,0,none⟩)):=b1.cells 0
 have c_o:(_:World).cell? ⟨zo,22,none⟩=some (V Z l):=b2.cells 22
 have c_w:(_:World).cell? ⟨zw,0,none⟩=some (.bool wb):=b3.cells 0
 go_region_held2 (fun w'=>w'.cell? ⟨zm,0,none⟩=some (.pointer (some ⟨p,0,none⟩))/\w'.cell? ⟨zo,22,none⟩=some (V Z l)/\w'.cell? ⟨zw,0,none⟩=some (.bool wb)) (first | with_reducible exact⟨c_m,c_o,c_w⟩ | go_keep)
  (first
    | (go_at_call 95
       refine (get_p B p S l _ hP).mono ?_
       rintro e w' ⟨rfl,rfl⟩)
    | (go_at_call 160
       refine (rmark_p wb _).mono ?_
       rintro e w' ⟨rfl,rfl⟩))
 generalize S.got l=g at hO ⊢
 by_cases hg:g=rmark wb
 rotate_left
 · have dg:(g != rmark wb)=true:=by rw [bne_iff_ne];exact hg
   rw [if_neg hg] at hO;clear hg
   have hf:=hO.done hP hK
   clear hO hP hK b1 b2 b3 c_m c_o c_w;go_wp2_with fail
   first | with_reducible exact hf | (go_simp;exact hf) | (go_ret;exact hf) | (go_ret2;exact hf)
 have dg:(g != rmark wb)=false:=by simpa using hg
 rw [if_pos hg,<- inside_map I U (rlowA c wb) (fun _=>((0:Int),true)) (fun _=>(st l 0).bind fun _=>.ret 0),<- show rlowT c wb=(rlowA c wb).bind fun _=>.ret (0,true) from rfl] at hO
 clear hg;have hOh:=Hd hO;clear hO;clear c_m c_o c_w;have c_b1:=b1.cells
 go_upto_region 3 with fail
 refine wp_region_lit ?_
 refine wpList_plain rfl fun Kq hKq=>?_
 unfold Oper.wp execOp
 go_simp
 refine hKq _ _ ?_
 clear hKq Kq
 refine load_objS rfl _ rfl zo rfl b2.1 rfl ?_
 try simp only [put_pack]
 go_wp2_with fail
 refine tstep hOh.out hK (hi1.out _ _ _ S _ hP hta hD hn0 b1 b2 b3) (fun _ h=>⟨rfl,h⟩) ?_
 clear hOh hK hP;intro x S1 w1 hr hP hk1 hK hO
 obtain⟨t,x2⟩:=x
 replace b1:=b1.keep hk1;replace b2:=b2.keep hk1;clear hr hk1 c_b1 hi1 b3;have c_b1:=b1.cells;have c_b2:=b2.cells;have hOh:=Hd hO;clear hO;go_wp2_with fail
 refine tstep hOh.out hK (setO hP) (fun _ h=>⟨rfl,h⟩) ?_
 clear hOh hK hP;intro u S2 w2 hr hP hk1 hK hO
 have hf:=hO.done hP hK
 clear hO hP hK hr hk1 b1 b2 c_b1 c_b2;go_wp2_with fail
 first | with_reducible exact hf | (go_simp;exact hf) | (go_ret;exact hf) | (go_ret2;exact hf)
theorem runlock_none {I U:Prog Unit}{c l:Int}{w:Bool}{S:TS}(h:S.got l≠rmark w):(runlockA I U c l w).run S=(some 9,S):=by
 unfold runlockA
 rw [run_gt,if_neg h]
 rfl
theorem rlock_held {I U:Prog Unit}{c l:Int}{w:Bool}{n:Nat}{S:TS}(h:S.got l≠0):(rlockA I U c l w n).run S=(some 10,S):=by
 unfold rlockA
 rw [run_gt,if_neg h]
 rfl
set_option maxRecDepth 100000 in
theorem counted38 (b c:Nat)(w:World)(hb:b<w.heap.size)(hc:∀ i,w.cell? ⟨b,i,none⟩=(#[V Z 1,V Z 1,V Z 8,V Z 1,V Z 1,V Z 1,V Z 2,V Z 1,V Z 1048576]:Array Value)[i]?) :
  Calls Tryz.prog 153 #[.slice (some ⟨b,0,none⟩) 3 c] w fun e w'=>e=.returned (V Z 4)/\Ext w w':=by
 go_enter Tryz.func153,Tryz.ntmps153
 go_wp2_with fail
 go_loopw [3,4] (fun u i wr=>((i=V Z 0/\u=V Z 0)∨(i=V Z 1/\u=V Z 1)∨(i=V Z 2/\u=V Z 2)∨(i=V Z 3/\u=V Z 4))/\Ext w wr) (fun _ i _=>3-(intOf i).toNat)
 case atStart=>exact⟨.inl ⟨rfl,rfl⟩,Ext.refl _⟩
 case round =>
  obtain⟨hr,hX⟩:=hrel
  have c_b:∀ i,wr.cell? ⟨b,i,none⟩=(#[V Z 1,V Z 1,V Z 8,V Z 1,V Z 1,V Z 1,V Z 2,V Z 1,V Z 1048576]:Array Value)[i]?:=fun i=>(hX.cell (p:=⟨b,i,none⟩) hb).trans (hc i)
  clear hc
  rcases hr with⟨rfl,rfl⟩ | ⟨rfl,rfl⟩ | ⟨rfl,rfl⟩ | ⟨rfl,rfl⟩
  · go_wp2_with fail
    refine⟨⟨.inr (.inl ⟨rfl,rfl⟩),hX⟩,?_⟩
    simp [intOf]
  · go_wp2_with fail
    refine⟨⟨.inr (.inr (.inl ⟨rfl,rfl⟩)),hX⟩,?_⟩
    simp [intOf]
  · go_wp2_with fail
    refine⟨⟨.inr (.inr (.inr ⟨rfl,rfl⟩)),hX⟩,?_⟩
    simp [intOf]
  · go_wp2_with fail
    go_ret
    exact⟨rfl,hX⟩
theorem strips38 (w:World):Calls Tryz.prog 154 #[] w fun e w'=>∃ b,e=.returned (.slice (some ⟨b,0,none⟩) 3 3)/\Blk w' b (.cells #[V Z 1,V Z 1,V Z 8,V Z 1,V Z 1,V Z 1,V Z 2,V Z 1,V Z 1048576] 176)/\Ext w w':=by
 have hX:=(Ext.refl w).alloc (.cells #[V Z 1,V Z 1,V Z 8,V Z 1,V Z 1,V Z 1,V Z 2,V Z 1,V Z 1048576] 176)
 go_enter Tryz.func154,Tryz.ntmps154
 go_wp2_with fail
 go_ret
 exact⟨_,rfl,Blk.new w _,hX⟩
theorem locals38 (w:World):Calls Tryz.prog 155 #[] w fun e w'=>e=.returned (V Z 1)/\Ext w w':=by
 have hX:=Ext.refl w
 go_enter Tryz.func155,Tryz.ntmps155
 go_wp2_with fail
 go_ret
 exact⟨rfl,hX⟩
theorem rwal1 (B p:Nat)(S:TS)(bk:Nat)(w:World)(h:Plays B w p S)(hta:TameA S)(hD:S.left<14)(hn0:S.nts.length+10*S.left<=90000)(g1:Blk w bk (.cells #[V Z 0,V Z 0,V Z 0,V Z 0,V Z 0,V Z 0,V Z 0,V Z 0,V Z 2,V Z 1,V Z 1,V Z 0,V Z 0,V Z 1,V Z 0,V Z 0,V Z 0,V Z 0,V Z 0,V Z 0,V Z 0,V Z 1,V Z 0] 69)) :
  Calls Tryz.prog 149 #[.pointer (some ⟨p,0,none⟩),.pointer (some ⟨bk,0,none⟩)] w (Post encI B p w ((rlockA (inA (lkA 14 2 1 0 0 1 [] 0) 14) (lkR 2 1 0 0 [] 0) 1 0 true 14).run S)):=by
 have hq:Calls Tryz.prog 74 #[.pointer (some ⟨p,0,none⟩),.agg #[V Z 0,V Z 0,V Z 0,V Z 0,V Z 0,V Z 0,V Z 0,V Z 0,V Z 2,V Z 1,V Z 1,V Z 0,V Z 0,V Z 1,V Z 0,V Z 0,V Z 0,V Z 0,V Z 0,V Z 0,V Z 0,V Z 1,V Z 0],V Z 0,.bool true] w (Post encI B p w ((rlockA (inA (lkA 14 2 1 0 0 1 [] 0) 14) (lkR 2 1 0 0 [] 0) 1 0 true 14).run S)) :=
  rlock_p B p 1 14 S true 0 2 1 0 0 1 1 0 0 [] w h use35 hta hD hn0 (by decide)
 generalize rlockA (inA (lkA 14 2 1 0 0 1 [] 0) 14) (lkR 2 1 0 0 [] 0) 1 0 true 14=T at *
 generalize hR:Post encI B p w ((T).run S)=R
 have hO:Owes R encI B p w ((T).run S):=hR▸owes _ _ _ _ _
 clear hR
 have hK:=Keep.refl [2,3,4] B p w
 go_enter Tryz.func149,Tryz.ntmps149
 go_upto_region 1 with fail
 refine wp_region_lit ?_
 refine load_obj rfl _ rfl rfl _ rfl bk rfl g1 rfl ?_
 try simp only [put_pack]
 go_wp2_with fail
 clear g1
 refine tlast hO hK hq (fun _ h=>⟨rfl,h⟩) ?_
 intro v S1 w1 hr hP1 hk1 hK1 hO1
 have hf:=hO1.done hP1 hK1
 clear hO1 hP1 hK1 hr hk1 hO h hK hq;go_wp2_with fail
 first | exact hf | (go_ret;exact hf)
theorem rwal2 (B p:Nat)(S:TS)(bk:Nat)(w:World)(h:Plays B w p S)(hta:TameA S)(hD:S.left<14)(hn0:S.nts.length+10*S.left<=90000)(g1:Blk w bk (.cells #[V Z 0,V Z 0,V Z 0,V Z 0,V Z 0,V Z 0,V Z 0,V Z 0,V Z 2,V Z 1,V Z 1,V Z 0,V Z 0,V Z 1,V Z 0,V Z 0,V Z 0,V Z 0,V Z 0,V Z 0,V Z 0,V Z 1,V Z 0] 69)) :
  Calls Tryz.prog 150 #[.pointer (some ⟨p,0,none⟩),.pointer (some ⟨bk,0,none⟩)] w (Post encI B p w ((runlockA (inA (lkA 14 2 1 0 0 1 [] 0) 14) (lkR 2 1 0 0 [] 0) 1 0 false).run S)):=by
 have hq:Calls Tryz.prog 77 #[.pointer (some ⟨p,0,none⟩),.agg #[V Z 0,V Z 0,V Z 0,V Z 0,V Z 0,V Z 0,V Z 0,V Z 0,V Z 2,V Z 1,V Z 1,V Z 0,V Z 0,V Z 1,V Z 0,V Z 0,V Z 0,V Z 0,V Z 0,V Z 0,V Z 0,V Z 1,V Z 0],V Z 0,.bool false] w (Post encI B p w ((runlockA (inA (lkA 14 2 1 0 0 1 [] 0) 14) (lkR 2 1 0 0 [] 0) 1 0 false).run S)) :=
  runlock_p B p 1 14 S false 0 2 1 0 0 1 1 0 0 [] w h use35 hta hD hn0 (by decide)
 generalize runlockA (inA (lkA 14 2 1 0 0 1 [] 0) 14) (lkR 2 1 0 0 [] 0) 1 0 false=T at *
 generalize hR:Post encI B p w ((T).run S)=R
 have hO:Owes R encI B p w ((T).run S):=hR▸owes _ _ _ _ _
 clear hR
 have hK:=Keep.refl [2,3,4] B p w
 go_enter Tryz.func150,Tryz.ntmps150
 go_upto_region 1 with fail
 refine wp_region_lit ?_
 refine load_obj rfl _ rfl rfl _ rfl bk rfl g1 rfl ?_
 try simp only [put_pack]
 go_wp2_with fail
 clear g1
 refine tlast hO hK hq (fun _ h=>⟨rfl,h⟩) ?_
 intro v S1 w1 hr hP1 hk1 hK1 hO1
 have hf:=hO1.done hP1 hK1
 clear hO1 hP1 hK1 hr hk1 hO h hK hq;go_wp2_with fail
 first | exact hf | (go_ret;exact hf)
theorem rwal3 (B p:Nat)(S:TS)(bk:Nat)(w:World)(h:Plays B w p S)(hta:TameA S)(hD:S.left<14)(hn0:S.nts.length+10*S.left<=90000)(g1:Blk w bk (.cells #[V Z 0,V Z 0,V Z 0,V Z 0,V Z 0,V Z 0,V Z 0,V Z 0,V Z 2,V Z 1,V Z 1,V Z 0,V Z 0,V Z 1,V Z 0,V Z 0,V Z 0,V Z 0,V Z 0,V Z 0,V Z 0,V Z 1,V Z 0] 69)) :
  Calls Tryz.prog 151 #[.pointer (some ⟨p,0,none⟩),.pointer (some ⟨bk,0,none⟩)] w (Post encI B p w ((rlockA (inA (lkA 14 2 1 0 0 1 [] 0) 14) (lkR 2 1 0 0 [] 0) 1 0 false 14).run S)):=by
 have hq:Calls Tryz.prog 74 #[.pointer (some ⟨p,0,none⟩),.agg #[V Z 0,V Z 0,V Z 0,V Z 0,V Z 0,V Z 0,V Z 0,V Z 0,V Z 2,V Z 1,V Z 1,V Z 0,V Z 0,V Z 1,V Z 0,V Z 0,V Z 0,V Z 0,V Z 0,V Z 0,V Z 0,V Z 1,V Z 0],V Z 0,.bool false] w (Post encI B p w ((rlockA (inA (lkA 14 2 1 0 0 1 [] 0) 14) (lkR 2 1 0 0 [] 0) 1 0 false 14).run S)) :=
  rlock_p B p 1 14 S false 0 2 1 0 0 1 1 0 0 [] w h use35 hta hD hn0 (by decide)
 generalize rlockA (inA (lkA 14 2 1 0 0 1 [] 0) 14) (lkR 2 1 0 0 [] 0) 1 0 false 14=T at *
 generalize hR:Post encI B p w ((T).run S)=R
 have hO:Owes R encI B p w ((T).run S):=hR▸owes _ _ _ _ _
 clear hR
 have hK:=Keep.refl [2,3,4] B p w
 go_enter Tryz.func151,Tryz.ntmps151
 go_upto_region 1 with fail
 refine wp_region_lit ?_
 refine load_obj rfl _ rfl rfl _ rfl bk rfl g1 rfl ?_
 try simp only [put_pack]
 go_wp2_with fail
 clear g1
 refine tlast hO hK hq (fun _ h=>⟨rfl,h⟩) ?_
 intro v S1 w1 hr hP1 hk1 hK1 hO1
 have hf:=hO1.done hP1 hK1
 clear hO1 hP1 hK1 hr hk1 hO h hK hq;go_wp2_with fail
 first | exact hf | (go_ret;exact hf)
theorem rwal4 (B p:Nat)(S:TS)(bk:Nat)(w:World)(h:Plays B w p S)(hta:TameA S)(hD:S.left<14)(hn0:S.nts.length+10*S.left<=90000)(g1:Blk w bk (.cells #[V Z 0,V Z 0,V Z 0,V Z 0,V Z 0,V Z 0,V Z 0,V Z 0,V Z 2,V Z 1,V Z 1,V Z 0,V Z 0,V Z 1,V Z 0,V Z 0,V Z 0,V Z 0,V Z 0,V Z 0,V Z 0,V Z 1,V Z 0] 69)) :
  Calls Tryz.prog 152 #[.pointer (some ⟨p,0,none⟩),.pointer (some ⟨bk,0,none⟩)] w (Post encI B p w ((runlockA (inA (lkA 14 2 1 0 0 1 [] 0) 14) (lkR 2 1 0 0 [] 0) 1 0 true).run S)):=by
 have hq:Calls Tryz.prog 77 #[.pointer (some ⟨p,0,none⟩),.agg #[V Z 0,V Z 0,V Z 0,V Z 0,V Z 0,V Z 0,V Z 0,V Z 0,V Z 2,V Z 1,V Z 1,V Z 0,V Z 0,V Z 1,V Z 0,V Z 0,V Z 0,V Z 0,V Z 0,V Z 0,V Z 0,V Z 1,V Z 0],V Z 0,.bool true] w (Post encI B p w ((runlockA (inA (lkA 14 2 1 0 0 1 [] 0) 14) (lkR 2 1 0 0 [] 0) 1 0 true).run S)) :=
  runlock_p B p 1 14 S true 0 2 1 0 0 1 1 0 0 [] w h use35 hta hD hn0 (by decide)
 generalize runlockA (inA (lkA 14 2 1 0 0 1 [] 0) 14) (lkR 2 1 0 0 [] 0) 1 0 true=T at *
 generalize hR:Post encI B p w ((T).run S)=R
 have hO:Owes R encI B p w ((T).run S):=hR▸owes _ _ _ _ _
 clear hR
 have hK:=Keep.refl [2,3,4] B p w
 go_enter Tryz.func152,Tryz.ntmps152
 go_upto_region 1 with fail
 refine wp_region_lit ?_
 refine load_obj rfl _ rfl rfl _ rfl bk rfl g1 rfl ?_
 try simp only [put_pack]
 go_wp2_with fail
 clear g1
 refine tlast hO hK hq (fun _ h=>⟨rfl,h⟩) ?_
 intro v S1 w1 hr hP1 hk1 hK1 hO1
 have hf:=hO1.done hP1 hK1
 clear hO1 hP1 hK1 hr hk1 hO h hK hq;go_wp2_with fail
 first | exact hf | (go_ret;exact hf)
set_option maxRecDepth 100000 in
set_option maxHeartbeats 1000000 in
theorem alive38 (w:World):Calls Tryz.prog 72 #[] w fun e w'=>e=.returned (.bool true)/\Ext w w':=by
 have hmk12:∀ w,(Instr.makeSlice 25 (V Z 12) (V Z 12)).run Tryz.prog w=.ok (.slice (some ⟨w.heap.size,0,none⟩) 12 12) (w.alloc (.cells ((zeros 12).map (V Z)).toArray 3)):=fun w=>make_ints 12 12 rfl (by decide) w
 have hmk3:∀ w,(Instr.makeSlice 25 (V Z 3) (V Z 3)).run Tryz.prog w=.ok (.slice (some ⟨w.heap.size,0,none⟩) 3 3) (w.alloc (.cells ((zeros 3).map (V Z)).toArray 3)):=fun w=>make_ints 3 3 rfl (by decide) w
 have hmf:∀ (fn:Fn) (first cap:Array Value) (w:World),(Instr.makeFunc fn first cap).run Tryz.prog w=.ok (.func fn first cap) w:=fun _ _ _ _=>rfl
 have hput:=fun w=>put_r 0 2 1 1 0 0 1 [] w use35.ok
 rw [show lkC 2 1 []=1 from rfl,show lkL 2 []=0 from rfl] at hput
 go_enter Tryz.func72,Tryz.ntmps72
 go_wp2_with fail
 refine (hput _).mono ?_
 rintro e w0 ⟨rfl,hX⟩
 clear hput
 rename_i hKK
 refine hKK _ _ ?_
 clear hKK
 refine new_obj rfl rfl rfl _ _ rfl _ rfl rfl rfl (by kernel_rfl) ?_
 refine wpList_nil ?_
 have b1:=Blk.new w0 (.cells #[V Z 0,V Z 0,V Z 0,V Z 0,V Z 0,V Z 0,V Z 0,V Z 0,V Z 2,V Z 1,V Z 1,V Z 0,V Z 0,V Z 1,V Z 0,V Z 0,V Z 0,V Z 0,V Z 0,V Z 0,V Z 0,V Z 1,V Z 0] 69)
 replace hX:=hX.alloc (.cells #[V Z 0,V Z 0,V Z 0,V Z 0,V Z 0,V Z 0,V Z 0,V Z 0,V Z 2,V Z 1,V Z 1,V Z 0,V Z 0,V Z 1,V Z 0,V Z 0,V Z 0,V Z 0,V Z 0,V Z 0,V Z 0,V Z 1,V Z 0] 69)
 generalize hbk:w0.heap.size=bk at *
 generalize World.alloc w0 _=V0 at *
 clear hbk;go_wp2_with fail
 have hA:=ints_new V0 (zeros 12) (by simp [zeros])
 replace b1:=b1.alloc (.cells ((zeros 12).map (V Z)).toArray 3)
 replace hX:=hX.alloc (.cells ((zeros 12).map (V Z)).toArray 3)
 have hsz:V0.heap.size<(World.alloc V0 (.cells ((zeros 12).map (V Z)).toArray 3)).heap.size:=by simp
 rw [show (zeros 12).length=12 from rfl] at hA
 generalize World.alloc V0 _=V0a at *
 have hPl:=play_err 149 #[.pointer (some ⟨bk,0,none⟩)] (rlockA (inA (lkA 14 2 1 0 0 1 [] 0) 14) (lkR 2 1 0 0 [] 0) 1 0 true 14) none 0 [] (some ⟨V0.heap.size,0,none⟩) 12 (zeros 12) V0a (Ints.nil _) (by simp) hA (by simp [maxAns,zeros]) (fun k hk=>by simp only [Value.ownBlock,Option.some.injEq] at hk;omega) (fun _ _=>rfl) (fun W p hxW hP=>rwal1 _ p _ bk W hP (fun v hv=>by
  simp [TS0,zeros] at hv
  omega) (show (zeros 12).length-0<14 by simp [zeros]) (by simp [TS0,TS.left,zeros]) (b1.ext hxW))
 have e1:((rlockA (inA (lkA 14 2 1 0 0 1 [] 0) 14) (lkR 2 1 0 0 [] 0) 1 0 true 14).run (TS0 [] (zeros 12))).1=some 0:=by decide +kernel
 have e2:((rlockA (inA (lkA 14 2 1 0 0 1 [] 0) 14) (lkR 2 1 0 0 [] 0) 1 0 true 14).run (TS0 [] (zeros 12))).2.acc.length=11:=by decide +kernel
 have e3:∀ i,((rlockA (inA (lkA 14 2 1 0 0 1 [] 0) 14) (lkR 2 1 0 0 [] 0) 1 0 true 14).run (TS0 [] (zeros 12))).2.loc i=([2]:List Int).getD i 0:=fun i=>by
  have h:((rlockA (inA (lkA 14 2 1 0 0 1 [] 0) 14) (lkR 2 1 0 0 [] 0) 1 0 true 14).run (TS0 [] (zeros 12))).2.loc i=if i=0 then 2 else 0:=by kernel_rfl
  rw [h]
  cases i with
  | zero=>rfl
  | succ i=>simp [List.getD]
 rw [e1,show (zeros 12).length=12 from rfl] at hPl
 generalize ((rlockA (inA (lkA 14 2 1 0 0 1 [] 0) 14) (lkR 2 1 0 0 [] 0) 1 0 true 14).run (TS0 [] (zeros 12))).2=S1 at *
 simp only [Option.getD_some,Option.isSome_some] at hPl
 refine hPl.mono ?_
 clear hPl e1 hA hsz
 rintro e y1 ⟨v1,rfl,hO,hx1⟩
 obtain⟨A1,c1,D1,d1,vs1,L1,rfl,hO1⟩:=hO
 have hsh:shortL L1=[2]:=(shortL_eq (L:=L1) (L':=[2]) fun i=>by rw [<- hO1.is i];exact e3 i).trans (by decide)
 have hl1:=hO1.locs;rw [hsh] at hl1
 obtain⟨E1,k1,hvs1,_,_⟩:=hl1.slice
 subst hvs1
 unfold outV
 rw [e2,show ([2]:List Int).length=1 from rfl]
 rw [show ([2]:List Int).length=1 from rfl] at hl1
 have hx9:=(Ext.refl y1).alloc (.cells #[.bool true,.slice A1 11 c1,.slice D1 S1.nts.length d1,.slice E1 1 k1] 30)
 replace hX:=(hX.trans hx1).trans hx9
 replace b1:=(b1.ext hx1).ext hx9
 have n1:=Blk.new y1 (.cells #[.bool true,.slice A1 11 c1,.slice D1 S1.nts.length d1,.slice E1 1 k1] 30)
 replace hl1:=hl1.ext hx9;clear hx1 hx9 e2 e3 hO1 hsh
 go_upto_region 3 with fail
 generalize hV1:y1.heap.size=z1 at *
 generalize World.alloc y1 _=V1 at *
 clear hV1;have c_n1:=n1.cells;go_wp2_with fail
 clear c_n1
 have hPl:=play_err 150 #[.pointer (some ⟨bk,0,none⟩)] (runlockA (inA (lkA 14 2 1 0 0 1 [] 0) 14) (lkR 2 1 0 0 [] 0) 1 0 false) E1 k1 [2] none 0 [] V1 hl1 (by simp) (Ints.nil _) (by simp [maxAns]) (fun k hk=>by simp [Value.ownBlock] at hk) (fun _ _=>rfl) (fun W p hxW hP=>rwal2 _ p _ bk W hP (fun v hv=>by simp [TS0] at hv) (show ([]:List Int).length-0<14 by simp) (by simp [TS0,TS.left]) (b1.ext hxW))
 rw [runlock_none (show (TS0 [2] []).got 0≠rmark false from by decide),show ([2]:List Int).length=1 from rfl] at hPl
 simp only [Option.getD_some,Option.isSome_some,List.length_nil] at hPl
 refine hPl.mono ?_
 clear hPl
 rintro e y2 ⟨v2,rfl,hO,hx2⟩
 obtain⟨A2,c2,D2,d2,vs2,L2,rfl,hO2⟩:=hO
 obtain⟨E2,k2,hvs2,_,_⟩:=hO2.locs.slice
 subst hvs2
 unfold outV
 rw [show (TS0 [2] []).acc.length=0 from rfl,show (TS0 [2] []).nts.length=0 from rfl]
 have n2:=Blk.new y2 (.cells #[.bool true,.slice A2 0 c2,.slice D2 0 d2,.slice E2 (shortL L2).length k2] 30)
 have hx9:=hx2.alloc (.cells #[.bool true,.slice A2 0 c2,.slice D2 0 d2,.slice E2 (shortL L2).length k2] 30)
 replace hX:=hX.trans hx9;replace b1:=b1.ext hx9;replace n1:=n1.ext hx9;skip
 replace hl1:=hl1.ext hx9;clear hx2 hx9 hO2
 go_upto_region 4 with fail
 generalize hV1:y2.heap.size=z2 at *
 generalize World.alloc y2 _=V2 at *
 clear hV1;have c_n1:=n1.cells;go_wp2_with fail
 clear c_n1
 have hPl:=play_err 151 #[.pointer (some ⟨bk,0,none⟩)] (rlockA (inA (lkA 14 2 1 0 0 1 [] 0) 14) (lkR 2 1 0 0 [] 0) 1 0 false 14) E1 k1 [2] none 0 [] V2 hl1 (by simp) (Ints.nil _) (by simp [maxAns]) (fun k hk=>by simp [Value.ownBlock] at hk) (fun _ _=>rfl) (fun W p hxW hP=>rwal3 _ p _ bk W hP (fun v hv=>by simp [TS0] at hv) (show ([]:List Int).length-0<14 by simp) (by simp [TS0,TS.left]) (b1.ext hxW))
 rw [rlock_held (show (TS0 [2] []).got 0≠0 from by decide),show ([2]:List Int).length=1 from rfl] at hPl
 simp only [Option.getD_some,Option.isSome_some,List.length_nil] at hPl
 refine hPl.mono ?_
 clear hPl
 rintro e y3 ⟨v3,rfl,hO,hx3⟩
 obtain⟨A3,c3,D3,d3,vs3,L3,rfl,hO3⟩:=hO
 obtain⟨E3,k3,hvs3,_,_⟩:=hO3.locs.slice
 subst hvs3
 unfold outV
 rw [show (TS0 [2] []).acc.length=0 from rfl,show (TS0 [2] []).nts.length=0 from rfl]
 have n3:=Blk.new y3 (.cells #[.bool true,.slice A3 0 c3,.slice D3 0 d3,.slice E3 (shortL L3).length k3] 30)
 have hx9:=hx3.alloc (.cells #[.bool true,.slice A3 0 c3,.slice D3 0 d3,.slice E3 (shortL L3).length k3] 30)
 replace hX:=hX.trans hx9;replace b1:=b1.ext hx9;replace n1:=n1.ext hx9;replace n2:=n2.ext hx9;replace hl1:=hl1.ext hx9;clear hx3 hx9 hO3
 go_upto_region 5 with fail
 generalize hV1:y3.heap.size=z3 at *
 generalize World.alloc y3 _=V3 at *
 clear hV1;have hX9:=hX.drew
 have lift:=(Ext.refl V3).drew
 replace b1:=b1.ext lift;replace n1:=n1.ext lift;replace n2:=n2.ext lift;replace hl1:=hl1.ext lift;clear lift hX
 obtain⟨Vq,hV⟩:∃ Vq,Vq=World.drew V3:=⟨_,rfl⟩
 rw [<- hV] at n1 n2 hX9 b1 hl1
 have hPl:∀ W b,Ext Vq W->b<W.heap.size->Ints W (.slice (some ⟨b,0,none⟩) 3 3) (zeros 3)->Calls Tryz.prog 13 #[.func (.func 152) #[] #[.pointer (some ⟨bk,0,none⟩)],.slice E1 1 k1,.slice (some ⟨b,0,none⟩) 3 3] W fun e w'=>∃ A9 n9 c9 A9m n9m c9m A9l n9l c9l,e=.returned (.tuple #[V Z 0,.agg #[.bool true,.slice A9 n9 c9,.slice A9m n9m c9m,.slice A9l n9l c9l]])/\Ext W w':=by
  intro W b hW hb hI
  have h:=play_err 152 #[.pointer (some ⟨bk,0,none⟩)] (runlockA (inA (lkA 14 2 1 0 0 1 [] 0) 14) (lkR 2 1 0 0 [] 0) 1 0 true) E1 k1 [2] (some ⟨b,0,none⟩) 3 (zeros 3) W (hl1.ext hW) (by simp) hI (by simp [maxAns,zeros]) (fun k hk=>by simp only [Value.ownBlock,Option.some.injEq] at hk;omega) (fun _ _=>rfl) (fun W' p hxW hP=>rwal4 _ p _ bk W' hP (fun v hv=>by
   simp [TS0,zeros] at hv
   omega) (show (zeros 3).length-0<14 by simp [zeros]) (by simp [TS0,TS.left,zeros]) (b1.ext (hW.trans hxW)))
  have e1:((runlockA (inA (lkA 14 2 1 0 0 1 [] 0) 14) (lkR 2 1 0 0 [] 0) 1 0 true).run (TS0 [2] (zeros 3))).1=some 0:=by decide +kernel
  rw [e1,show (zeros 3).length=3 from rfl,show ([2]:List Int).length=1 from rfl] at h
  refine h.mono ?_
  rintro e w' ⟨v,rfl,hO,hx⟩
  obtain⟨A2,c2,A2',c2',vs2,L2,rfl,hO⟩:=hO
  obtain⟨As2,k2,hvs2,_,_⟩:=hO.locs.slice
  subst hvs2
  exact⟨_,_,_,_,_,_,_,_,_,rfl,hx⟩
 have hS:=fun (w':World) (hx:Ext Vq w')=>(n1.ext hx).cells
 rw [hV] at hS hPl
 go_cut [8,9] (fun s8 s9 wx=>s8=V Z 0/\∃ bx A9 n9 c9 A9m n9m c9m A9l n9l c9l,s9=.pointer (some ⟨bx,0,none⟩)/\Blk wx bx (.cells #[.bool true,.slice A9 n9 c9,.slice A9m n9m c9m,.slice A9l n9l c9l] 30)/\Ext Vq wx)
 case first =>
  have hI3:∀ W:World,Ints (W.alloc (.cells ((zeros 3).map (V Z)).toArray 3)) (.slice (some ⟨W.heap.size,0,none⟩) 3 3) (zeros 3):=fun W=>ints_new W (zeros 3) (by simp [zeros])
  refine wp_region_held_drew (S:=fun w'=>∀ i,w'.cell? ⟨z1,i,none⟩=(#[.bool true,.slice A1 11 c1,.slice D1 S1.nts.length d1,.slice E1 1 k1]:Array Value)[i]?) rfl (hS _ (Ext.refl _)) (fun hHeld=>?_)
  refine tkb 0 ?_
  iterate 3
   refine tkn (v:=?_) rfl (by kernel_rfl) (fun _ _ _ h=>h) (by assumption) ?_ ?_
   rotate_left
   · (intro w hSw;(try dsimp only at hSw);go_simp;try with_reducible rfl)
   try simp only [put_pack]
  refine tke ?_
  refine wpAnyH_ready (rs:=[3,8]) (by kernel_rfl) (by simp) ?_
  refine AllReadyH.cons rfl (fun K hKK=>?_) (AllReadyH.cons rfl (fun K hKK=>?_) (AllReadyH.nil))
  · go_simp
    have hIa:=hI3 (World.drew V3)
    have hxa:=(Ext.refl (World.drew V3)).alloc (.cells ((zeros 3).map (V Z)).toArray 3)
    have hsa:(World.drew V3).heap.size<(World.alloc (World.drew V3) (.cells ((zeros 3).map (V Z)).toArray 3)).heap.size:=by simp
    refine hKK.out _ _ (hS _ hxa) (fun hHeld=>?_)
    clear hKK K
    try dsimp only
    refine wpAnyH_ready (rs:=[4,8]) (by kernel_rfl) (by simp) ?_
    refine AllReadyH.cons rfl (fun K hKK=>?_) (AllReadyH.cons rfl (fun K hKK=>?_) (AllReadyH.nil))
    · go_simp
      refine (hPl _ _ hxa hsa hIa).mono ?_
      rintro e y2 ⟨A9,n9,c9,A9m,n9m,c9m,A9l,n9l,c9l,rfl,hx⟩
      replace hx:=hxa.trans hx;clear hxa
      refine hKK.out _ _ (hS _ hx) (fun hHeld=>?_)
      clear hKK K
      try dsimp only
      refine tkb 5 ?_
      iterate 3
       refine tkn (v:=?_) rfl (by kernel_rfl) (fun _ _ _ h=>h) (by assumption) ?_ ?_
       rotate_left
       · (intro w hSw;(try dsimp only at hSw);go_simp;try with_reducible rfl)
       try simp only [put_pack]
      refine tke ?_
      refine wpAnyH_ready (rs:=[8]) (by kernel_rfl) (by simp) ?_
      refine AllReadyH.cons rfl (fun K hKK=>?_) (AllReadyH.nil)
      go_simp
      refine hKK.out _ _ (hS _ (hx.alloc _)) (fun hHeld=>?_)
      clear hKK K
      try dsimp only
      refine tk 9 (v:=?_) rfl (by kernel_rfl) (fun _ _ _ h=>h) (by assumption) ?_ ?_
      rotate_left
      · (intro w hSw;(try dsimp only at hSw);go_simp;try with_reducible rfl)
      try simp only [put_pack]
      refine wpAnyH_ready (rs:=[10]) (by kernel_rfl) (by simp) ?_
      refine AllReadyH.cons rfl (fun K hKK=>?_) (AllReadyH.nil)
      go_simp
      refine hKK.out _ _ (hS _ (hx.alloc _)) (fun hHeld=>?_)
      clear hKK K
      try dsimp only
      refine wpAnyH_done (by kernel_rfl) ?_ _
      go_simp
      go_wp2_with fail
      go_meet
      exact⟨rfl,y2.heap.size,A9,n9,c9,A9m,n9m,c9m,A9l,n9l,c9l,rfl,Blk.new y2 _,by rw [hV];exact hx.alloc _⟩
    · go_simp
      have bz:Blk (World.alloc (World.alloc (World.drew V3) (.cells ((zeros 3).map (V Z)).toArray 3)) (.cells #[.bool false,.slice none 0 0,.slice none 0 0,.slice none 0 0] 30)) (V3.heap.size+1) (.cells #[.bool false,.slice none 0 0,.slice none 0 0,.slice none 0 0] 30):=by
       have h:=Blk.new (World.alloc (World.drew V3) (.cells ((zeros 3).map (V Z)).toArray 3)) (.cells #[.bool false,.slice none 0 0,.slice none 0 0,.slice none 0 0] 30)
       simp only [World.size_alloc] at h
       exact h
      have hxz:=hxa.alloc (.cells #[.bool false,.slice none 0 0,.slice none 0 0,.slice none 0 0] 30)
      refine hKK.out _ _ (hS _ hxz) (fun hHeld=>?_)
      clear hKK K
      try dsimp only
      refine wpAnyH_ready (rs:=[4]) (by kernel_rfl) (by simp) ?_
      refine AllReadyH.cons rfl (fun K hKK=>?_) (AllReadyH.nil)
      go_simp
      refine (hPl _ _ hxz (by simp <;> omega) (hIa.ext ((Ext.refl _).alloc _))).mono ?_
      rintro e y2 ⟨A9,n9,c9,A9m,n9m,c9m,A9l,n9l,c9l,rfl,hx⟩
      replace bz:=bz.ext hx;replace hx:=hxz.trans hx;clear hxz
      refine hKK.out _ _ (hS _ hx) (fun hHeld=>?_)
      clear hKK K
      try dsimp only
      refine tkb 5 ?_
      iterate 3
       refine tkn (v:=?_) rfl (by kernel_rfl) (fun _ _ _ h=>h) (by assumption) ?_ ?_
       rotate_left
       · (intro w hSw;(try dsimp only at hSw);go_simp;try with_reducible rfl)
       try simp only [put_pack]
      refine tke ?_
      refine tk 9 (v:=?_) rfl (by kernel_rfl) (fun _ _ _ h=>h) (by assumption) ?_ ?_
      rotate_left
      · (intro w hSw;(try dsimp only at hSw);go_simp;try with_reducible rfl)
      try simp only [put_pack]
      refine wpAnyH_ready (rs:=[10]) (by kernel_rfl) (by simp) ?_
      refine AllReadyH.cons rfl (fun K hKK=>?_) (AllReadyH.nil)
      have c_bz:=bz.cells
      have hfz:∀ i,y2.frozen? ⟨V3.heap.size+1,i,none⟩=false:=fun i=>by
       have z6:=bz
       unfold Blk at z6
       simp [World.frozen?,z6]
      go_simp
      have hb3:(World.drew V3).heap.size<=V3.heap.size+1:=Nat.le_succ V3.heap.size
      have hf:Blk ((((y2.setCell ⟨V3.heap.size+1,0,none⟩ (.bool true)).setCell ⟨V3.heap.size+1,1,none⟩ (.slice A9 n9 c9)).setCell ⟨V3.heap.size+1,2,none⟩ (.slice A9m n9m c9m)).setCell ⟨V3.heap.size+1,3,none⟩ (.slice A9l n9l c9l)) (V3.heap.size+1) (.cells #[.bool true,.slice A9 n9 c9,.slice A9m n9m c9m,.slice A9l n9l c9l] 30):=heap_setCells_all bz [.bool true,.slice A9 n9 c9,.slice A9m n9m c9m,.slice A9l n9l c9l] rfl
      have hxf:Ext (World.drew V3) ((((y2.setCell ⟨V3.heap.size+1,0,none⟩ (.bool true)).setCell ⟨V3.heap.size+1,1,none⟩ (.slice A9 n9 c9)).setCell ⟨V3.heap.size+1,2,none⟩ (.slice A9m n9m c9m)).setCell ⟨V3.heap.size+1,3,none⟩ (.slice A9l n9l c9l)):=(((hx.setCell (p:=⟨V3.heap.size+1,0,none⟩) hb3 _).setCell (p:=⟨V3.heap.size+1,1,none⟩) hb3 _).setCell (p:=⟨V3.heap.size+1,2,none⟩) hb3 _).setCell (p:=⟨V3.heap.size+1,3,none⟩) hb3 _
      refine hKK.out _ _ (hS _ hxf) (fun hHeld=>?_)
      clear hKK K
      try dsimp only
      refine wpAnyH_done (by kernel_rfl) ?_ _
      go_simp
      go_wp2_with fail
      go_meet
      exact⟨rfl,V3.heap.size+1,A9,n9,c9,A9m,n9m,c9m,A9l,n9l,c9l,rfl,hf,by rw [hV];exact hxf⟩
  · go_simp
    have bz:Blk (World.alloc (World.drew V3) (.cells #[.bool false,.slice none 0 0,.slice none 0 0,.slice none 0 0] 30)) V3.heap.size (.cells #[.bool false,.slice none 0 0,.slice none 0 0,.slice none 0 0] 30):=Blk.new (World.drew V3) (.cells #[.bool false,.slice none 0 0,.slice none 0 0,.slice none 0 0] 30)
    have hxz:=(Ext.refl (World.drew V3)).alloc (.cells #[.bool false,.slice none 0 0,.slice none 0 0,.slice none 0 0] 30)
    refine hKK.out _ _ (hS _ hxz) (fun hHeld=>?_)
    clear hKK K
    try dsimp only
    refine wpAnyH_ready (rs:=[3]) (by kernel_rfl) (by simp) ?_
    refine AllReadyH.cons rfl (fun K hKK=>?_) (AllReadyH.nil)
    go_simp
    have hIb:=hI3 (World.alloc (World.drew V3) (.cells #[.bool false,.slice none 0 0,.slice none 0 0,.slice none 0 0] 30))
    replace bz:=bz.alloc (.cells ((zeros 3).map (V Z)).toArray 3)
    replace hxz:=hxz.alloc (.cells ((zeros 3).map (V Z)).toArray 3)
    refine hKK.out _ _ (hS _ hxz) (fun hHeld=>?_)
    clear hKK K
    try dsimp only
    refine wpAnyH_ready (rs:=[4]) (by kernel_rfl) (by simp) ?_
    refine AllReadyH.cons rfl (fun K hKK=>?_) (AllReadyH.nil)
    go_simp
    refine (hPl _ _ hxz (by simp <;> omega) (by simpa using hIb)).mono ?_
    rintro e y2 ⟨A9,n9,c9,A9m,n9m,c9m,A9l,n9l,c9l,rfl,hx⟩
    replace bz:=bz.ext hx;replace hx:=hxz.trans hx;clear hxz
    refine hKK.out _ _ (hS _ hx) (fun hHeld=>?_)
    clear hKK K
    try dsimp only
    refine tkb 5 ?_
    iterate 3
     refine tkn (v:=?_) rfl (by kernel_rfl) (fun _ _ _ h=>h) (by assumption) ?_ ?_
     rotate_left
     · (intro w hSw;(try dsimp only at hSw);go_simp;try with_reducible rfl)
     try simp only [put_pack]
    refine tke ?_
    refine tk 9 (v:=?_) rfl (by kernel_rfl) (fun _ _ _ h=>h) (by assumption) ?_ ?_
    rotate_left
    · (intro w hSw;(try dsimp only at hSw);go_simp;try with_reducible rfl)
    try simp only [put_pack]
    refine wpAnyH_ready (rs:=[10]) (by kernel_rfl) (by simp) ?_
    refine AllReadyH.cons rfl (fun K hKK=>?_) (AllReadyH.nil)
    have c_bz:=bz.cells
    have hfz:∀ i,y2.frozen? ⟨V3.heap.size,i,none⟩=false:=fun i=>by
     have z6:=bz
     unfold Blk at z6
     simp [World.frozen?,z6]
    go_simp
    have hb3:(World.drew V3).heap.size<=V3.heap.size:=Nat.le_refl _
    have hf:Blk ((((y2.setCell ⟨V3.heap.size,0,none⟩ (.bool true)).setCell ⟨V3.heap.size,1,none⟩ (.slice A9 n9 c9)).setCell ⟨V3.heap.size,2,none⟩ (.slice A9m n9m c9m)).setCell ⟨V3.heap.size,3,none⟩ (.slice A9l n9l c9l)) (V3.heap.size) (.cells #[.bool true,.slice A9 n9 c9,.slice A9m n9m c9m,.slice A9l n9l c9l] 30):=heap_setCells_all bz [.bool true,.slice A9 n9 c9,.slice A9m n9m c9m,.slice A9l n9l c9l] rfl
    have hxf:Ext (World.drew V3) ((((y2.setCell ⟨V3.heap.size,0,none⟩ (.bool true)).setCell ⟨V3.heap.size,1,none⟩ (.slice A9 n9 c9)).setCell ⟨V3.heap.size,2,none⟩ (.slice A9m n9m c9m)).setCell ⟨V3.heap.size,3,none⟩ (.slice A9l n9l c9l)):=(((hx.setCell (p:=⟨V3.heap.size,0,none⟩) hb3 _).setCell (p:=⟨V3.heap.size,1,none⟩) hb3 _).setCell (p:=⟨V3.heap.size,2,none⟩) hb3 _).setCell (p:=⟨V3.heap.size,3,none⟩) hb3 _
    refine hKK.out _ _ (hS _ hxf) (fun hHeld=>?_)
    clear hKK K
    try dsimp only
    refine wpAnyH_done (by kernel_rfl) ?_ _
    go_simp
    go_wp2_with fail
    go_meet
    exact⟨rfl,V3.heap.size,A9,n9,c9,A9m,n9m,c9m,A9l,n9l,c9l,rfl,hf,by rw [hV];exact hxf⟩
 case rest =>
 obtain⟨rfl,bx,A9,n9,c9,A9m,n9m,c9m,A9l,n9l,c9l,rfl,hB9,hx⟩:=hcut
 replace hX:=hX9.trans hx;replace n1:=n1.ext hx;replace n2:=n2.ext hx;clear hx hPl hS hV hX9 b1 hl1 hmk12 hmk3;have c_n1:=n1.cells;have c_n2:=n2.cells;have c_n9:=hB9.cells;go_wp2_with fail
 refine (strips38 _).mono ?_
 rintro e w5 ⟨b5,rfl,hb5,hx5⟩
 clear c_n1 c_n2 c_n9 n1 n2 hB9;replace hX:=hX.trans hx5;clear hx5;go_wp2_with fail
 refine (counted38 b5 3 _ hb5.lt hb5.cells).mono ?_
 rintro e w6 ⟨rfl,hx6⟩
 replace hX:=hX.trans hx6;clear hx6 hb5;go_wp2_with fail
 refine (locals38 _).mono ?_
 rintro e w7 ⟨rfl,hx7⟩
 have hf:=Hd (hX.trans hx7)
 clear hx7 hX;go_wp2_with fail
 first | go_ret2 | go_ret
 exact⟨rfl,hf.out⟩
end Go.Proofs.YtbaajjkopdjbgaaGreat
