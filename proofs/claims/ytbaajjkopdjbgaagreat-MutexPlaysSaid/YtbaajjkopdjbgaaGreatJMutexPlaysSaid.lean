/-
  MutexPlays holds: any call of a mutex, with any lock, does what the document says, access by access, whatever it is answered, without conditions.
-/
import Derived.Test.YtbaajjkopdjbgaaGreatJMutexPlaysSaid12
import Derived.Deep.DeepCutAuto
import Derived.Deep.RegionHeld2
open Go.Value renaming int -> V
open Go.IntKind renaming i64 -> Z
namespace Go.Proofs.YtbaajjkopdjbgaaGreat
open Go.RowKit Kv
theorem ROwes.congr {α:Type}{R:Ending->World->Prop}{enc:α->Value}{B p:Nat}{w0:World}{T T':Prog α}{o:Bool}{S:TS}(hO:ROwes R enc B p w0 T o S)(h:T.run S=T'.run S):ROwes R enc B p w0 T' o S:=by
 rintro e w' ⟨a,o',S',rfl,hr,h1,h2⟩
 refine hO _ _ ⟨a,o',S',rfl,?_,h1,h2⟩
 cases hr with
 | over=>exact .over _ _
 | done hr=>exact .done (h.trans hr)
 | stop a hr=>exact .stop a (h.trans hr)
theorem rstepB {α β:Type}{B p:Nat}{w0 w:World}{o:Bool}{S:TS}{R:Ending->World->Prop}{P:Program}{f:FuncId}{args:Array Value}{K:Ending->World->Prop}{enc:α->Value}{enc':β->Value}{T:Prog α}{g:α->Prog β}
  (hO:ROwes R enc' B p w0 (T.bind g) o S)(hB:KeepR B p w0 w)(h:Calls P f args w (RPost enc B p w T o S))
  (hk:∀ v o1 S1 w1,(TameA S->TameA S1)->S1.left<=S.left->(o1=false->o=false/\T.run S=(some v,S1)/\S1.acc.length<=S1.ans.length)->RAt B w1 p o1 S1->KeepR B p w w1->KeepR B p w0 w1->ROwes R enc' B p w0 (g v) o1 S1->K (.returned (enc v)) w1):Calls P f args w K:=by
 refine h.mono fun e w1 ⟨v,o1,S1,he,hr,h1,h2⟩=>?_
 subst he
 refine hk v o1 S1 w1 (fun ht=>?_) (ref_lefts hr) (fun ho=>?_) h1 h2 (hB.trans h2) (hO.then hr)
 · unfold TameA
   rw [ref_ans hr]
   exact ht
 · subst ho
   cases hr with
   | done hr=>exact⟨rfl,hr,h1.len⟩
set_option maxRecDepth 100000 in
theorem try_r (B p N D:Nat)(o:Bool)(S:TS)(arg alg mode base loc room c l:Int)(m:Nat)(rs:List Reg)(w:World)(h:RAt B w p o S)(hk:LkUse alg N mode base loc room rs m)(hta:TameA S)(hb:o=false->S.left<D/\S.nts.length+10*S.left<=90000) :
  Calls Tryz.prog 54 #[.pointer (some ⟨p,0,none⟩),.agg #[V Z 0,V Z 0,V Z 0,V Z 0,V Z arg,V Z 0,V Z 0,V Z 0,V Z alg,V Z N,V Z mode,V Z base,V Z loc,V Z room,V Z 0,V Z 0,V Z 0,V Z 0,V Z 0,V Z 0,V Z 0,V Z c,V Z l],V Z m] w (RPost encI B p w (tryA (inA (lkA D alg N base loc room rs m) D) (lkR alg N base loc rs m) c l) o S):=by
 generalize hR:RPost encI B p w (tryA (inA (lkA D alg N base loc room rs m) D) (lkR alg N base loc rs m) c l) o S=R
 have hO:ROwes R encI B p w (tryA (inA (lkA D alg N base loc room rs m) D) (lkR alg N base loc rs m) c l) o S:=hR▸rowes _ _ _ _ _ _ _
 clear hR
 obtain⟨b1,hK,hP⟩:=h.entry (.cells #[V Z 0,V Z 0,V Z 0,V Z 0,V Z arg,V Z 0,V Z 0,V Z 0,V Z alg,V Z N,V Z mode,V Z base,V Z loc,V Z room,V Z 0,V Z 0,V Z 0,V Z 0,V Z 0,V Z 0,V Z 0,V Z c,V Z l] 69)
 have c_b1:=b1.cells
 clear h
 have hin:=Hd fun (o:Bool) (S:TS) (w:World) (hP:RAt B w p o S) (hta:TameA S) (hb:o=false->S.left<D/\S.nts.length+10*S.left<=90000)=>in_r B p N D o S alg mode base loc room m rs w hP hk hta (fun ho=>(hb ho).1) (fun ho=>(hb ho).2)
 have hout:=Hd fun S w hP hn=>mout_r B p N false S alg mode base loc room m rs w hP hk hn
 have hpay:=Hd (lkA_pays D alg N base loc room rs m D)
 generalize inA (lkA D alg N base loc room rs m) D=I at *
 generalize lkR alg N base loc rs m=U at *
 unfold tryA at hO
 clear hk
 go_enter Tryz.func54,Tryz.ntmps54
 go_wp2_with fail
 refine (get_r B p o S l _ hP).mono ?_
 rintro e w' ⟨rfl,rfl⟩
 replace hO:=hO.get
 generalize S.got l=g at hO ⊢
 by_cases hg:g=1
 · have dg:(g==1)=true:=by rw [beq_iff_eq];exact hg
   rw [if_pos hg] at hO
   have hf:R (.returned (encI 10)) _:=hO.ret hP hK
   clear hO hP hK hg b1
   go_wp2_with fail
   first | with_reducible exact hf | (go_simp;exact hf) | (go_ret;exact hf)
 have dg:(g==1)=false:=by rw [beq_eq_false_iff_ne];exact hg
 rw [if_neg hg,insideA_bind] at hO
 have hOh:=Hd hO
 clear hO hg
 go_wp2_with fail
 refine rstepB hOh.out hK (hin.out o S _ hP hta hb) ?_
 clear hOh hK hP
 intro u o1 S1 wS1 htm hlf hdn hP hk1 hK hO
 replace hta:=htm hta
 replace b1:=b1.keep hk1
 clear hk1 htm c_b1
 have c_b1:=b1.cells
 have hb1:o1=false->S1.left<D/\S1.nts.length+10*S1.left<=90004:=fun ho=>by
  obtain⟨h1,h2,h3⟩:=hdn ho
  have:=hpay.out S _ S1 h2 h3
  have:=hb h1
  omega
 rw [cellA_bind] at hO
 have hOh:=Hd hO
 clear hO hdn hlf hb
 go_wp2_with fail
 refine rstepB hOh.out hK (read_r B p o1 S1 _ _ hP) ?_
 clear hOh hK hP
 intro x o2 S2 wS2 htm hlf hdn hP hk1 hK hO
 replace hta:=htm hta
 replace b1:=b1.keep hk1
 clear hk1 htm c_b1
 have c_b1:=b1.cells
 have hb2:o2=false->S2.nts.length<=100000:=fun ho=>by
  obtain⟨h1,h2,h3⟩:=hdn ho
  have:=hb1 h1
  have:=(notes_rd c).run S1
  rw [h2] at this
  simp only at this
  omega
 clear hdn hlf hb1
 by_cases hx:x=0
 · have dx:(x==0)=true:=by rw [beq_iff_eq];exact hx
   have dx2:(x != 0)=false:=by simpa using hx
   rw [if_pos hx] at hO
   have hOh:=Hd hO
   clear hO
   go_wp2_with fail
   refine rstepB hOh.out hK (write_r B p o2 S2 _ _ _ hP) ?_
   clear hOh hK hP
   intro u3 o3 S3 wS3 htm hlf hdn hP hk1 hK hO
   replace hta:=htm hta
   replace b1:=b1.keep hk1
   clear hk1 htm c_b1
   have c_b1:=b1.cells
   replace hb2:o3=false->S3.nts.length<=100000:=fun ho=>by
    obtain⟨h1,h2,h3⟩:=hdn ho
    have:=hb2 h1
    have:=(notes_wr c 1).run S2
    rw [h2] at this
    simp only at this
    omega
   simp only [if_pos hx] at hO
   clear hdn hlf hx
   obtain⟨_,_,_,_,_,hcc⟩:=hP.cell
   cases o3 with
   | true =>
     have hOh:=Hd (hO.any ((st l 1).bind fun _=>.ret 0))
     clear hO
     go_wp2_with fail
     clear hcc
     refine rstep hOh.out hK (set_r B p true S3 _ _ _ hP) ?_
     clear hOh hK hP c_b1
     intro u8 o8 S8 w8 hP hk1 hK hO
     have hf:R (.returned (encI 0)) w8:=hO.ret hP hK
     clear hO hP hK hk1 b1
     go_wp2_with fail
     first | with_reducible exact hf | (go_simp;exact hf) | (go_ret;exact hf)
   | false =>
     have hb3:=hb2 rfl
     clear hb2
     have hOh:=Hd hO
     clear hO
     go_wp2_with fail
     clear hcc
     refine rstepB hOh.out hK (hout.out S3 _ hP (by omega)) ?_
     clear hOh hK hP
     intro u9 o9 S9 w9 _ _ _ hP hk1 hK hO
     replace b1:=b1.keep hk1
     clear hk1 c_b1
     have c_b1:=b1.cells
     have hOh:=Hd hO
     clear hO
     go_wp2_with fail
     refine rstep hOh.out hK (set_r B p o9 S9 _ _ _ hP) ?_
     clear hOh hK hP c_b1
     intro u8 o8 S8 w8 hP hk1 hK hO
     have hf:R (.returned (encI 0)) w8:=hO.ret hP hK
     clear hO hP hK hk1 b1
     go_wp2_with fail
     first | with_reducible exact hf | (go_simp;exact hf) | (go_ret;exact hf)
 · have dx:(x==0)=false:=by rw [beq_eq_false_iff_ne];exact hx
   have dx2:(x != 0)=true:=by rw [bne_iff_ne];exact hx
   rw [if_neg hx] at hO
   replace hO:ROwes R encI B p w (U.bind fun _=>if x=0 then (st l 1).bind fun _=>.ret 0 else .ret 12) o2 S2:=hO
   simp only [if_neg hx] at hO
   clear hx
   obtain⟨_,_,_,_,_,hcc⟩:=hP.cell
   cases o2 with
   | true =>
     have hOh:=Hd (hO.any (.ret 12))
     clear hO
     go_wp2_with fail
     clear hcc
     have hf:R (.returned (encI 12)) _:=hOh.out.ret hP hK
     clear hOh hP hK c_b1 b1
     go_wp2_with fail
     first | with_reducible exact hf | (go_simp;exact hf) | (go_ret;exact hf)
   | false =>
     have hb3:=hb2 rfl
     clear hb2
     have hOh:=Hd hO
     clear hO
     go_wp2_with fail
     clear hcc
     refine rstepB hOh.out hK (hout.out S2 _ hP (by omega)) ?_
     clear hOh hK hP
     intro u9 o9 S9 w9 _ _ _ hP hk1 hK hO
     replace b1:=b1.keep hk1
     clear hk1 c_b1
     have c_b1:=b1.cells
     have hOh:=Hd hO
     clear hO
     go_wp2_with fail
     have hf:R (.returned (encI 12)) _:=hOh.out.ret hP hK
     clear hOh hP hK c_b1 b1
     go_wp2_with fail
     first | with_reducible exact hf | (go_simp;exact hf) | (go_ret;exact hf)
set_option maxRecDepth 100000 in
theorem lock_r (B p N D:Nat)(o:Bool)(S:TS)(arg alg mode base loc room c l:Int)(m:Nat)(rs:List Reg)(w:World)(h:RAt B w p o S)(hk:LkUse alg N mode base loc room rs m)(hta:TameA S)(hb:o=false->S.left<D/\S.nts.length+10*S.left<=90000)(hD1:0<D)(hl:loc+lkL alg rs<=l) :
  Calls Tryz.prog 46 #[.pointer (some ⟨p,0,none⟩),.agg #[V Z 0,V Z 0,V Z 0,V Z 0,V Z arg,V Z 0,V Z 0,V Z 0,V Z alg,V Z N,V Z mode,V Z base,V Z loc,V Z room,V Z 0,V Z 0,V Z 0,V Z 0,V Z 0,V Z 0,V Z 0,V Z c,V Z l],V Z m] w (RPost encI B p w (lockA (inA (lkA D alg N base loc room rs m) D) (lkR alg N base loc rs m) c l D) o S):=by
 generalize hR:RPost encI B p w (lockA (inA (lkA D alg N base loc room rs m) D) (lkR alg N base loc rs m) c l D) o S=R
 have hO:ROwes R encI B p w (lockA (inA (lkA D alg N base loc room rs m) D) (lkR alg N base loc rs m) c l D) o S:=hR▸rowes _ _ _ _ _ _ _
 clear hR
 obtain⟨b1,hK,hP⟩:=h.entry (.cells #[V Z 0,V Z 0,V Z 0,V Z 0,V Z arg,V Z 0,V Z 0,V Z 0,V Z alg,V Z N,V Z mode,V Z base,V Z loc,V Z room,V Z 0,V Z 0,V Z 0,V Z 0,V Z 0,V Z 0,V Z 0,V Z c,V Z l] 69)
 have c_b1:=b1.cells
 clear h
 have htry:=Hd fun (o:Bool) (S:TS) (w:World) (hP:RAt B w p o S) (hta:TameA S) (hb:o=false->S.left<D/\S.nts.length+10*S.left<=90000)=>try_r B p N D o S arg alg mode base loc room c l m rs w hP hk hta hb
 have hpay:=Hd (lkA_pays D alg N base loc room rs m D)
 have hUn:=notes_lkR alg N base loc rs m
 have hrun:=lockA_run (c:=c) (l:=l) (inA_sets (sets_lkA (D:=D) hk.ok hk.hm) D) (sets_lkR hk.ok hk.hm) (.inr hl) (D-1) S
 rw [show D-1+1=D from by omega] at hrun
 replace hO:=hO.congr hrun
 clear hrun
 generalize inA (lkA D alg N base loc room rs m) D=I at *
 generalize lkR alg N base loc rs m=U at *
 have htp:∀ S S',(tryA I U c l).run S=(some 12,S')->S'.acc.length<=S'.ans.length->S'.left<S.left/\S'.nts.length+10*S'.left<=S.nts.length+10*S.left:=fun S S'=>try_busy hpay.out hUn
 have htph:=Hd htp
 clear htp hUn hpay
 obtain⟨D',rfl⟩:∃ D',D=D'+1:=⟨D-1,by omega⟩
 rw [show lockL I U c l (D'+1)=(tryA I U c l).bind fun e=>if e=12 then lockL I U c l D' else .ret e from rfl] at hO
 have hOh:=Hd hO
 clear hO hk
 clear c_b1
 go_enter Tryz.func46,Tryz.ntmps46
 go_upto_region 1 with fail
 generalize w.heap.size=z at *
 generalize World.alloc w _=W0 at *
 refine wp_region_lit ?_
 refine load_obj rfl _ rfl rfl _ rfl z rfl b1.1 rfl ?_
 try simp only [put_pack]
 go_wp2_with fail
 refine rstepB hOh.out hK (htry.out o S _ hP hta hb) ?_
 clear hOh hK hP
 intro e o1 S1 wS1 htm hlf hdn hP hk1 hK hO
 replace hta:=htm hta
 replace b1:=b1.keep hk1
 clear hk1 htm
 have c_b1:=b1.cells
 have hlim:o1=false->e=12->S1.left<D'/\S1.nts.length+10*S1.left<=90000:=fun ho he=>by
  obtain⟨h1,h2,h3⟩:=hdn ho
  subst he
  have:=htph.out S S1 h2 h3
  have:=hb h1
  omega
 clear hdn hb hlf c_b1
 have hOh:=Hd hO
 clear hO
 go_wp2_with fail
 go_loopw [7] (fun ev wr'=>∃ (e:Int) (n:Nat) (o2:Bool) (S2:TS),ev=V Z e/\RAt B wr' p o2 S2/\KeepR B p w wr'/\HeldR wr' p z (.cells #[V Z 0,V Z 0,V Z 0,V Z 0,V Z arg,V Z 0,V Z 0,V Z 0,V Z alg,V Z N,V Z mode,V Z base,V Z loc,V Z room,V Z 0,V Z 0,V Z 0,V Z 0,V Z 0,V Z 0,V Z 0,V Z c,V Z l] 69)/\TameA S2/\(o2=false->e=12->S2.left<n/\S2.left<D'+1/\S2.nts.length+10*S2.left<=90000)/\Hid (ROwes R encI B p w (if e=12 then lockL I U c l n else .ret e) o2 S2)) (fun ev wr'=>leftR wr' p+(if intOf ev=12 then 1 else 0))
 case atStart=>exact⟨e,D',o1,S1,rfl,hP,hK,b1,hta,fun ho he=>by have:=hlim ho he;omega,hOh⟩
 case round =>
  clear hP hK b1 hta hlim hOh
  obtain⟨e,n,o2,S2,rfl,hP,hK,b1,hta,hlim,hO⟩:=hrel
  replace hO:=hO.out
  have hlw:=Hd hP.leftR
  obtain⟨_,_,_,_,_,hcc⟩:=hP.cell
  have c_b1:=b1.cells
  by_cases he:e=12
  · have de:(e==12)=true:=by rw [beq_iff_eq];exact he
    cases o2 with
    | true =>
      have hf:R (.returned (encI e)) wr:=hO.over _ hP hK
      clear hO hP hK hlim hlw b1 hta c_b1 he
      go_wp2_with fail
      first | with_reducible exact hf | (go_simp;exact hf) | (go_ret;exact hf)
    | false =>
      obtain⟨hn,hD,hn0⟩:=hlim rfl he
      rw [if_pos he] at hO
      cases n with
      | zero=>omega
      | succ n =>
        rw [show lockL I U c l (n+1)=(tryA I U c l).bind fun e=>if e=12 then lockL I U c l n else .ret e from rfl] at hO
        have hOh:=Hd hO
        clear hO hlim c_b1
        have heh:=Hd he
        clear he
        go_upto_region 3 with fail
        refine wp_region_lit ?_
        refine load_obj rfl _ rfl rfl _ rfl z rfl b1.1 rfl ?_
        try simp only [put_pack]
        go_wp2_with fail
        clear hcc
        refine rstepB hOh.out hK (htry.out false S2 _ hP hta (fun _=>⟨hD,hn0⟩)) ?_
        clear hOh hK hP
        intro e3 o3 S3 wS3 htm hlf hdn hP hk1 hK hO
        replace hta:=htm hta
        replace b1:=b1.keep hk1
        clear hk1 htm
        have c_b1:=b1.cells
        have hlw2:=Hd hP.leftR
        have hlim3:o3=false->e3=12->S3.left<S2.left/\S3.nts.length+10*S3.left<=90000:=fun ho he=>by
         obtain⟨_,h2,h3⟩:=hdn ho
         subst he
         have:=htph.out S2 S3 h2 h3
         omega
        have hOh:=Hd hO
        have hlimh:=Hd hlim3
        clear hO hdn c_b1 hlim3
        go_wp2_with fail
        refine⟨⟨e3,n,o3,S3,rfl,hP,hK,b1,hta,fun ho he=>by have:=hlimh.out ho he;omega,hOh⟩,?_⟩
        show leftR _ p+(if e3=12 then 1 else 0)<leftR _ p+(if e=12 then 1 else 0)
        rw [hlw.out,hlw2.out,if_pos heh.out]
        cases o3 with
        | true =>
          have hq:(if e3=12 then 1 else 0:Nat)<=1:=by split <;> omega
          simp only [if_true,Bool.false_eq_true,if_false]
          omega
        | false =>
          simp only [Bool.false_eq_true,if_false]
          by_cases h12:e3=12
          · have:=hlimh.out rfl h12
            rw [if_pos h12]
            omega
          · rw [if_neg h12]
            omega
  · have de:(e==12)=false:=by rw [beq_eq_false_iff_ne];exact he
    rw [if_neg he] at hO
    have hf:R (.returned (encI e)) wr:=hO.ret hP hK
    clear hO hP hK hlim hlw b1 hta c_b1 he
    go_wp2_with fail
    first | with_reducible exact hf | (go_simp;exact hf) | (go_ret;exact hf)
set_option maxRecDepth 100000 in
theorem unlock_r (B p N D:Nat)(o:Bool)(S:TS)(arg alg mode base loc room c l:Int)(m:Nat)(rs:List Reg)(w:World)(h:RAt B w p o S)(hk:LkUse alg N mode base loc room rs m)(hta:TameA S)(hb:o=false->S.left<D/\S.nts.length+10*S.left<=90000) :
  Calls Tryz.prog 57 #[.pointer (some ⟨p,0,none⟩),.agg #[V Z 0,V Z 0,V Z 0,V Z 0,V Z arg,V Z 0,V Z 0,V Z 0,V Z alg,V Z N,V Z mode,V Z base,V Z loc,V Z room,V Z 0,V Z 0,V Z 0,V Z 0,V Z 0,V Z 0,V Z 0,V Z c,V Z l],V Z m] w (RPost encI B p w (unlockA (inA (lkA D alg N base loc room rs m) D) (lkR alg N base loc rs m) c l) o S):=by
 generalize hR:RPost encI B p w (unlockA (inA (lkA D alg N base loc room rs m) D) (lkR alg N base loc rs m) c l) o S=R
 have hO:ROwes R encI B p w (unlockA (inA (lkA D alg N base loc room rs m) D) (lkR alg N base loc rs m) c l) o S:=hR▸rowes _ _ _ _ _ _ _
 clear hR
 obtain⟨b1,hK,hP⟩:=h.entry (.cells #[V Z 0,V Z 0,V Z 0,V Z 0,V Z arg,V Z 0,V Z 0,V Z 0,V Z alg,V Z N,V Z mode,V Z base,V Z loc,V Z room,V Z 0,V Z 0,V Z 0,V Z 0,V Z 0,V Z 0,V Z 0,V Z c,V Z l] 69)
 have c_b1:=b1.cells
 clear h
 have hin:=Hd fun (o:Bool) (S:TS) (w:World) (hP:RAt B w p o S) (hta:TameA S) (hb:o=false->S.left<D/\S.nts.length+10*S.left<=90000)=>in_r B p N D o S alg mode base loc room m rs w hP hk hta (fun ho=>(hb ho).1) (fun ho=>(hb ho).2)
 have hout:=Hd fun S w hP hn=>mout_r B p N false S alg mode base loc room m rs w hP hk hn
 have hpay:=Hd (lkA_pays D alg N base loc room rs m D)
 generalize inA (lkA D alg N base loc room rs m) D=I at *
 generalize lkR alg N base loc rs m=U at *
 unfold unlockA at hO
 clear hk
 go_enter Tryz.func57,Tryz.ntmps57
 go_wp2_with fail
 refine (get_r B p o S l _ hP).mono ?_
 rintro e w' ⟨rfl,rfl⟩
 replace hO:=hO.get
 generalize S.got l=g at hO ⊢
 by_cases hg:g=1
 rotate_left
 · have dg:(g != 1)=true:=by rw [bne_iff_ne];exact hg
   rw [if_neg hg] at hO
   have hf:R (.returned (encI 9)) _:=hO.ret hP hK
   clear hO hP hK hg b1
   go_wp2_with fail
   first | with_reducible exact hf | (go_simp;exact hf) | (go_ret;exact hf)
 have dg:(g != 1)=false:=by simpa using hg
 rw [if_pos hg,insideA_bind] at hO
 have hOh:=Hd hO
 clear hO hg
 go_wp2_with fail
 refine rstepB hOh.out hK (hin.out o S _ hP hta hb) ?_
 clear hOh hK hP
 intro u o1 S1 wS1 htm hlf hdn hP hk1 hK hO
 replace hta:=htm hta
 replace b1:=b1.keep hk1
 clear hk1 htm c_b1
 have c_b1:=b1.cells
 have hb1:o1=false->S1.left<D/\S1.nts.length+10*S1.left<=90004:=fun ho=>by
  obtain⟨h1,h2,h3⟩:=hdn ho
  have:=hpay.out S _ S1 h2 h3
  have:=hb h1
  omega
 have hOh:=Hd hO
 clear hO hdn hlf hb
 go_wp2_with fail
 refine rstepB hOh.out hK (write_r B p o1 S1 _ _ _ hP) ?_
 clear hOh hK hP
 intro u3 o3 S3 wS3 htm hlf hdn hP hk1 hK hO
 replace hta:=htm hta
 replace b1:=b1.keep hk1
 clear hk1 htm c_b1
 have c_b1:=b1.cells
 have hb2:o3=false->S3.nts.length<=100000:=fun ho=>by
  obtain⟨h1,h2,h3⟩:=hdn ho
  have:=hb1 h1
  have:=(notes_wr c 0).run S1
  rw [h2] at this
  simp only at this
  omega
 clear hdn hlf hb1
 obtain⟨_,_,_,_,_,hcc⟩:=hP.cell
 cases o3 with
 | true =>
   have hOh:=Hd (hO.any ((st l 0).bind fun _=>.ret 0))
   clear hO
   go_wp2_with fail
   clear hcc
   refine rstep hOh.out hK (set_r B p true S3 _ _ _ hP) ?_
   clear hOh hK hP c_b1
   intro u8 o8 S8 w8 hP hk1 hK hO
   have hf:R (.returned (encI 0)) w8:=hO.ret hP hK
   clear hO hP hK hk1 b1
   go_wp2_with fail
   first | with_reducible exact hf | (go_simp;exact hf) | (go_ret;exact hf)
 | false =>
   have hb3:=hb2 rfl
   clear hb2
   have hOh:=Hd hO
   clear hO
   go_wp2_with fail
   clear hcc
   refine rstepB hOh.out hK (hout.out S3 _ hP (by omega)) ?_
   clear hOh hK hP
   intro u9 o9 S9 w9 _ _ _ hP hk1 hK hO
   replace b1:=b1.keep hk1
   clear hk1 c_b1
   have c_b1:=b1.cells
   have hOh:=Hd hO
   clear hO
   go_wp2_with fail
   refine rstep hOh.out hK (set_r B p o9 S9 _ _ _ hP) ?_
   clear hOh hK hP c_b1
   intro u8 o8 S8 w8 hP hk1 hK hO
   have hf:R (.returned (encI 0)) w8:=hO.ret hP hK
   clear hO hP hK hk1 b1
   go_wp2_with fail
   first | with_reducible exact hf | (go_simp;exact hf) | (go_ret;exact hf)
theorem mwcl1 (B p N D:Nat)(S:TS)(alg mode room:Int)(m:Nat)(rs:List Reg)(bo bt:Nat)(w:World)(h:Plays B w p S)(hk:LkUse alg N mode 0 0 room rs m)(hta:TameA S)(hD:S.left<D)(hn0:S.nts.length+10*S.left<=90000)
  (g1:HeldP w p bo (.cells #[V Z 0,V Z 0,V Z 0,V Z 0,V Z 0,V Z 0,V Z 0,V Z 0,V Z alg,V Z N,V Z mode,V Z 0,V Z 0,V Z room,V Z 0,V Z 0,V Z 0,V Z 0,V Z 0,V Z 0,V Z 0,V Z (lkC alg N rs),V Z (lkL alg rs)] 69))(g2:HeldP w p bt (.cells #[V Z m] 3)) :
  Calls Tryz.prog 44 #[.pointer (some ⟨p,0,none⟩),.pointer (some ⟨bo,0,none⟩),.pointer (some ⟨bt,0,none⟩)] w (Post encI B p w ((lockA (inA (lkA D alg N 0 0 room rs m) D) (lkR alg N 0 0 rs m) (lkC alg N rs) (lkL alg rs) D).run S)):=by
 have hq:=lock_p B p N D S 0 alg mode 0 0 room (lkC alg N rs) (lkL alg rs) m rs w h hk hta hD hn0
 generalize lockA (inA (lkA D alg N 0 0 room rs m) D) (lkR alg N 0 0 rs m) (lkC alg N rs) (lkL alg rs) D=T at *
 generalize lkC alg N rs=C at *
 generalize lkL alg rs=L at *
 generalize hR:Post encI B p w ((T).run S)=R
 have hO:Owes R encI B p w ((T).run S):=hR▸owes _ _ _ _ _
 clear hR
 have hK:=Keep.refl [2,3,4] B p w
 have c2:=g2.cells
 clear hk
 go_enter Tryz.func44,Tryz.ntmps44
 go_upto_region 1 with fail
 refine wp_region_lit ?_
 refine load_obj rfl _ rfl rfl _ rfl bo rfl g1.1 rfl ?_
 try simp only [put_pack]
 clear g1 g2
 go_wp2_with fail
 clear c2
 refine tlast hO hK hq (fun _ h=>⟨rfl,h⟩) ?_
 intro v S1 w1 hr hP1 hk1 hK1 hO1
 have hf:=hO1.done hP1 hK1
 clear hO1 hP1 hK1 hr hk1 hO h hK hq
 go_wp2_with fail
 first | exact hf | (go_ret;exact hf)
theorem mwcl3 (B p N D:Nat)(S:TS)(alg mode room:Int)(m:Nat)(rs:List Reg)(bo bt:Nat)(w:World)(h:Plays B w p S)(hk:LkUse alg N mode 0 0 room rs m)(hta:TameA S)(hD:S.left<D)(hn0:S.nts.length+10*S.left<=90000)
  (g1:HeldP w p bo (.cells #[V Z 0,V Z 0,V Z 0,V Z 0,V Z 0,V Z 0,V Z 0,V Z 0,V Z alg,V Z N,V Z mode,V Z 0,V Z 0,V Z room,V Z 0,V Z 0,V Z 0,V Z 0,V Z 0,V Z 0,V Z 0,V Z (lkC alg N rs),V Z (lkL alg rs)] 69))(g2:HeldP w p bt (.cells #[V Z m] 3)) :
  Calls Tryz.prog 52 #[.pointer (some ⟨p,0,none⟩),.pointer (some ⟨bo,0,none⟩),.pointer (some ⟨bt,0,none⟩)] w (Post encI B p w ((tryA (inA (lkA D alg N 0 0 room rs m) D) (lkR alg N 0 0 rs m) (lkC alg N rs) (lkL alg rs)).run S)):=by
 have hq:=try_p B p N D S 0 alg mode 0 0 room (lkC alg N rs) (lkL alg rs) m rs w h hk hta hD hn0
 generalize tryA (inA (lkA D alg N 0 0 room rs m) D) (lkR alg N 0 0 rs m) (lkC alg N rs) (lkL alg rs)=T at *
 generalize lkC alg N rs=C at *
 generalize lkL alg rs=L at *
 generalize hR:Post encI B p w ((T).run S)=R
 have hO:Owes R encI B p w ((T).run S):=hR▸owes _ _ _ _ _
 clear hR
 have hK:=Keep.refl [2,3,4] B p w
 have c2:=g2.cells
 clear hk
 go_enter Tryz.func52,Tryz.ntmps52
 go_upto_region 1 with fail
 refine wp_region_lit ?_
 refine load_obj rfl _ rfl rfl _ rfl bo rfl g1.1 rfl ?_
 try simp only [put_pack]
 clear g1 g2
 go_wp2_with fail
 clear c2
 refine tlast hO hK hq (fun _ h=>⟨rfl,h⟩) ?_
 intro v S1 w1 hr hP1 hk1 hK1 hO1
 have hf:=hO1.done hP1 hK1
 clear hO1 hP1 hK1 hr hk1 hO h hK hq
 go_wp2_with fail
 first | exact hf | (go_ret;exact hf)
theorem mwcl4 (B p N D:Nat)(S:TS)(alg mode room:Int)(m:Nat)(rs:List Reg)(bo bt:Nat)(w:World)(h:Plays B w p S)(hk:LkUse alg N mode 0 0 room rs m)(hta:TameA S)(hD:S.left<D)(hn0:S.nts.length+10*S.left<=90000)
  (g1:HeldP w p bo (.cells #[V Z 0,V Z 0,V Z 0,V Z 0,V Z 0,V Z 0,V Z 0,V Z 0,V Z alg,V Z N,V Z mode,V Z 0,V Z 0,V Z room,V Z 0,V Z 0,V Z 0,V Z 0,V Z 0,V Z 0,V Z 0,V Z (lkC alg N rs),V Z (lkL alg rs)] 69))(g2:HeldP w p bt (.cells #[V Z m] 3)) :
  Calls Tryz.prog 55 #[.pointer (some ⟨p,0,none⟩),.pointer (some ⟨bo,0,none⟩),.pointer (some ⟨bt,0,none⟩)] w (Post encI B p w ((unlockA (inA (lkA D alg N 0 0 room rs m) D) (lkR alg N 0 0 rs m) (lkC alg N rs) (lkL alg rs)).run S)):=by
 have hq:=unlock_p B p N D S 0 alg mode 0 0 room (lkC alg N rs) (lkL alg rs) m rs w h hk hta hD hn0
 generalize unlockA (inA (lkA D alg N 0 0 room rs m) D) (lkR alg N 0 0 rs m) (lkC alg N rs) (lkL alg rs)=T at *
 generalize lkC alg N rs=C at *
 generalize lkL alg rs=L at *
 generalize hR:Post encI B p w ((T).run S)=R
 have hO:Owes R encI B p w ((T).run S):=hR▸owes _ _ _ _ _
 clear hR
 have hK:=Keep.refl [2,3,4] B p w
 have c2:=g2.cells
 clear hk
 go_enter Tryz.func55,Tryz.ntmps55
 go_upto_region 1 with fail
 refine wp_region_lit ?_
 refine load_obj rfl _ rfl rfl _ rfl bo rfl g1.1 rfl ?_
 try simp only [put_pack]
 clear g1 g2
 go_wp2_with fail
 clear c2
 refine tlast hO hK hq (fun _ h=>⟨rfl,h⟩) ?_
 intro v S1 w1 hr hP1 hk1 hK1 hO1
 have hf:=hO1.done hP1 hK1
 clear hO1 hP1 hK1 hr hk1 hO h hK hq
 go_wp2_with fail
 first | exact hf | (go_ret;exact hf)
theorem mwcl2 (B p N D:Nat)(S:TS)(alg mode room:Int)(m:Nat)(rs:List Reg)(bo bt:Nat)(w:World)(h:Plays B w p S)(hk:LkUse alg N mode 0 0 room rs m)(hta:TameA S)(hD:S.left<D)(hn0:S.nts.length+10*S.left<=90000)
  (g1:HeldP w p bo (.cells #[V Z 0,V Z 0,V Z 0,V Z 0,V Z 0,V Z 0,V Z 0,V Z 0,V Z alg,V Z N,V Z mode,V Z 0,V Z 0,V Z room,V Z 0,V Z 0,V Z 0,V Z 0,V Z 0,V Z 0,V Z 0,V Z (lkC alg N rs),V Z (lkL alg rs)] 69))(g2:HeldP w p bt (.cells #[V Z m] 3)) :
  Calls Tryz.prog 47 #[.pointer (some ⟨p,0,none⟩),.pointer (some ⟨bo,0,none⟩),.pointer (some ⟨bt,0,none⟩)] w (Post encI B p w (((inA (lkA D alg N 0 0 room rs m) D).bind fun _=>(lkR alg N 0 0 rs m).bind fun _=>.ret (0:Int)).run S)):=by
 have hin:=in_p B p N D S alg mode 0 0 room m rs w h hk hta hD hn0
 have hout:=Hd fun S w hP hn=>out_p B p N S alg mode 0 0 room m rs w hP hk hn
 have hpay:=Hd (lkA_pays D alg N 0 0 room rs m D)
 generalize hR:Post encI B p w (((inA (lkA D alg N 0 0 room rs m) D).bind fun _=>(lkR alg N 0 0 rs m).bind fun _=>.ret (0:Int)).run S)=R
 have hO:Owes R encI B p w (((inA (lkA D alg N 0 0 room rs m) D).bind fun _=>(lkR alg N 0 0 rs m).bind fun _=>.ret (0:Int)).run S):=hR▸owes _ _ _ _ _
 clear hR
 have hK:=Keep.refl [2,3,4] B p w
 generalize (inA (lkA D alg N 0 0 room rs m) D)=I at *
 generalize (lkR alg N 0 0 rs m)=U at *
 generalize lkC alg N rs=C at *
 generalize lkL alg rs=L at *
 have c1:=g1.cells
 have c2:=g2.cells
 clear hk
 go_enter Tryz.func47,Tryz.ntmps47
 go_wp2_with fail
 clear c1 c2
 refine tstep hO hK hin (fun _ h=>⟨rfl,h⟩) ?_
 clear hO hK hin
 intro u S1 w1 hr hP1 hk1 hK hO
 have hpy:=hpay.out S _ S1 hr hP1.1
 replace g1:=g1.keep hk1
 replace g2:=g2.keep hk1
 have c1:=g1.cells
 have c2:=g2.cells
 have hOh:=Hd hO
 clear hr hk1 hO hpay h
 go_wp2_with fail
 clear c1 c2 g1 g2
 refine tstep hOh.out hK (hout.out S1 _ hP1 (by omega)) (fun _ h=>⟨rfl,h⟩) ?_
 clear hOh hK hout hP1
 intro u2 S2 w2 hr hP2 hk2 hK hO
 have hf:=hO.done (v:=(0:Int)) hP2 hK
 clear hO hP2 hK hr hk2
 go_wp2_with fail
 first | exact hf | (go_ret;exact hf)
set_option maxRecDepth 100000 in
set_option maxHeartbeats 4000000 in
theorem mutex_walk (kind alg N0 mode base loc room arg me:Int)(vLo vA:Value)(Lo La:List Int)(w:World)(hLo:Ints w vLo Lo)(hA:Ints w vA La) :
  Calls Tryz.prog 6 #[.agg #[V Z kind,V Z alg,V Z N0,V Z mode,V Z base,V Z loc,V Z room,V Z arg,V Z me,vLo,vA]] w fun e w'=>e=.returned (.bool true)/\Ext w w':=by
 have hmf:∀ (fn:Fn) (first cap:Array Value) (w:World),(Instr.makeFunc fn first cap).run Tryz.prog w=.ok (.func fn first cap) w:=fun _ _ _ _=>rfl
 obtain⟨AL,cL,rfl,o3,o4⟩:=hLo.slice
 obtain⟨Aa,ca,rfl,p3,p4⟩:=hA.slice
 have hMay:=fun w=>may35_r alg N0 mode base loc room w
 have hX:=Ext.refl w
 have b1:=Blk.new w (.cells #[V Z kind,V Z alg,V Z N0,V Z mode,V Z base,V Z loc,V Z room,V Z arg,V Z me,.slice AL Lo.length cL,.slice Aa La.length ca] 63)
 replace hX:=hX.alloc (.cells #[V Z kind,V Z alg,V Z N0,V Z mode,V Z base,V Z loc,V Z room,V Z arg,V Z me,.slice AL Lo.length cL,.slice Aa La.length ca] 63)
 have c_b1:=b1.cells
 go_enter Tryz.func6,Tryz.ntmps6
 go_wp2_with fail
 generalize w.heap.size=bk at *
 generalize World.alloc w _=W0 at *
 refine (hMay _).mono ?_
 rintro e w1 ⟨⟨b,rfl,hb⟩,hx⟩
 replace b1:=b1.ext hx
 replace hX:=hX.trans hx
 clear hx hMay c_b1
 have c_b1:=b1.cells
 cases b with
 | false =>
   clear hb
   go_wp2_with fail
   refine (alive35 _).mono ?_
   rintro e w7 ⟨rfl,hx7⟩
   have hf:=Hd (hX.trans hx7)
   clear hX hx7
   go_wp2_with fail
   go_ret
   exact⟨rfl,hf.out⟩
 | true =>
 by_cases hla:1500<La.length
 · have d1:decide ((1500:Int)<(La.length:Int))=true:=by rw [decide_eq_true_eq];omega
   clear hb
   go_wp2_with fail
   refine (alive35 _).mono ?_
   rintro e w7 ⟨rfl,hx7⟩
   have hf:=Hd (hX.trans hx7)
   clear hX hx7
   go_wp2_with fail
   go_ret
   exact⟨rfl,hf.out⟩
 have d1:decide ((1500:Int)<(La.length:Int))=false:=by rw [decide_eq_false_iff_not];omega
 by_cases hlo:1<Lo.length
 · have d2:decide ((1:Int)<(Lo.length:Int))=true:=by rw [decide_eq_true_eq];omega
   clear hb
   go_wp2_with fail
   refine (alive35 _).mono ?_
   rintro e w7 ⟨rfl,hx7⟩
   have hf:=Hd (hX.trans hx7)
   clear hX hx7
   go_wp2_with fail
   go_ret
   exact⟨rfl,hf.out⟩
 have d2:decide ((1:Int)<(Lo.length:Int))=false:=by rw [decide_eq_false_iff_not];omega
 obtain⟨N,rs,rfl,hk,n4,hNm,hm2⟩:=hb rfl
 clear hb
 obtain⟨l0,l1⟩:=lkL_few hk n4 hm2
 have n1:=hk.hn.1
 obtain⟨m,hm1,hme⟩:=me_at me N n1 (by omega)
 have hmr:=fun w=>me_r alg mode 0 0 room me N w n1 (by omega)
 rw [hme] at hmr
 have hput:=fun w=>put_r 0 alg N mode base loc room rs w hk
 have hUse:Hid (LkUse alg N mode 0 0 room rs m):=⟨hk,hm1,hNm⟩
 clear hme hk hNm hm2 n4 n1 hm1
 obtain⟨C,hC⟩:∃ C,lkC alg N rs=C:=⟨_,rfl⟩
 obtain⟨l,hl⟩:∃ l:Nat,lkL alg rs=l:=⟨(lkL alg rs).toNat,by omega⟩
 rw [hl] at hput l1
 rw [hC] at hput
 have hCh:=Hd hC
 have hlh:=Hd hl
 clear hC hl l0
 go_wp2_with fail
 refine (hput _).mono ?_
 rintro e w2 ⟨rfl,hx⟩
 replace hX:=hX.trans hx
 replace b1:=b1.ext hx
 clear hx hput c_b1
 rename_i hKK
 refine hKK _ _ ?_
 clear hKK
 refine new_obj rfl rfl rfl _ _ rfl _ rfl rfl rfl (by kernel_rfl) ?_
 refine wpList_nil ?_
 have b7:=Blk.new w2 (.cells #[V Z 0,V Z 0,V Z 0,V Z 0,V Z 0,V Z 0,V Z 0,V Z 0,V Z alg,V Z N,V Z mode,V Z 0,V Z 0,V Z room,V Z 0,V Z 0,V Z 0,V Z 0,V Z 0,V Z 0,V Z 0,V Z C,V Z l] 69)
 have hx:=(Ext.refl w2).alloc (.cells #[V Z 0,V Z 0,V Z 0,V Z 0,V Z 0,V Z 0,V Z 0,V Z 0,V Z alg,V Z N,V Z mode,V Z 0,V Z 0,V Z room,V Z 0,V Z 0,V Z 0,V Z 0,V Z 0,V Z 0,V Z 0,V Z C,V Z l] 69)
 replace hX:=hX.trans hx
 replace b1:=b1.ext hx
 clear hx
 generalize hbo:w2.heap.size=bo at *
 generalize World.alloc w2 _=W1 at *
 clear hbo
 have c_b1:=b1.cells
 have c_b7:=b7.cells
 go_wp2_with fail
 refine (hmr _).mono ?_
 rintro e w3 ⟨rfl,hx⟩
 replace hx:=hx.alloc (.cells #[V Z m] 3)
 replace hX:=hX.trans hx
 replace b7:=b7.ext hx
 replace b1:=b1.ext hx
 have b8:=Blk.new w3 (.cells #[V Z m] 3)
 clear hx hmr c_b7 c_b1
 generalize hbt:w3.heap.size=bt at *
 go_upto_region 5 with fail
 generalize World.alloc w3 _=W2 at *
 clear hbt
 have c_b1:=b1.cells
 go_wp2_with fail
 refine (tame_r _ La 1048576 _ (hA.ext hX)).mono ?_
 rintro e wB ⟨va,rfl,hra,hx⟩
 have hIa:=hra.ints
 have hba:∀ k,va.ownBlock=some k->k<wB.heap.size:=fun k hk=>(hra.lt k hk).2
 have la:(tameL La 1048576).length<=1500:=by unfold tameL;simp;omega
 have hta:TameA (TS0 [] (tameL La 1048576)):=tameL_bd La
 clear hra hA
 generalize tameL La 1048576=a at *
 obtain⟨Aq,cq,rfl,_,_⟩:=hIa.slice
 replace hX:=hX.trans hx
 replace b1:=b1.ext hx
 replace b7:=b7.ext hx
 replace b8:=b8.ext hx
 clear hx c_b1
 have hLo2:=hLo.ext hX
 clear hLo
 have hmk:∀ w,(Instr.makeSlice 25 (V Z ((l:Int)+1)) (V Z ((l:Int)+1))).run Tryz.prog w=.ok (.slice (some ⟨w.heap.size,0,none⟩) (l+1:Nat) (l+1:Nat)) (w.alloc (.cells ((zeros (l+1)).map (V Z)).toArray 3)):=fun w=>make_ints _ (l+1) (by omega) (by omega) w
 have hw1:IntKind.i64.wrap ((l:Int)+1)=(l:Int)+1:=IntWalk.i64_in _ (by omega)
 have c_b7:=b7.cells
 have hA:=ints_new wB (zeros (l+1)) (by simp [zeros];omega)
 have hzl:(zeros (l+1)).length=l+1:=by simp [zeros]
 rw [hzl] at hA
 have hq:=hX.size
 have b9:=Blk.new wB (.cells ((zeros (l+1)).map (V Z)).toArray 3)
 have hx9:=(Ext.refl wB).alloc (.cells ((zeros (l+1)).map (V Z)).toArray 3)
 have c_b1:=(b1.ext hx9).cells
 go_upto_if 47 with fail
 generalize hbz:wB.heap.size=ba at *
 generalize World.alloc wB _=W3 at *
 clear c_b7
 go_cut [] (fun wx=>∃ Ll:List Int,Ll.length=l+1/\Ints wx (.slice (some ⟨ba,0,none⟩) (l+1) (l+1)) Ll/\Ext wB wx)
 case first =>
  by_cases h1:Lo.length=1
  rotate_left
  · have d3:((Lo.length:Int)==1)=false:=by rw [beq_eq_false_iff_ne];omega
    go_wp2_with fail
    go_meet
    exact⟨zeros (l+1),hzl,hA,hx9⟩
  · have d3:((Lo.length:Int)==1)=true:=by rw [beq_iff_eq];omega
    have hl0:0<Lo.length:=by omega
    obtain⟨bx,ox,rfl,hbx,hcx⟩:=(hLo2.ext hx9).at_ (i:=0) hl0
    obtain⟨v0,hv0⟩:∃ v0,Lo.getD 0 0=v0:=⟨_,rfl⟩
    rw [hv0,Nat.add_zero] at hcx
    have c_22:W3.cell? ⟨bo,22,none⟩=some (V Z l):=(b7.ext hx9).cells 22
    have c_9:W3.cell? ⟨bk,9,none⟩=some (.slice (some ⟨bx,ox,none⟩) Lo.length cL):=(b1.ext hx9).cells 9
    have c_l:W3.cell? ⟨ba,l,none⟩=some (V Z 0):=by
     rw [b9.cells l]
     simp [zeros]
    have hfz:W3.frozen? ⟨ba,l,none⟩=false:=frozen_of_heap b9 l
    have k7:=b7.lt
    have k1:=b1.lt
    have kx:bx<ba:=by
     obtain⟨A',c',he,_,_,h3⟩:=hLo2
     injection he with e1 e2 e3
     obtain⟨b',o',e4,hb',_⟩:=h3 (by intro h;rw [h] at hl0;simp at hl0)
     rw [<- e1] at e4
     injection e4 with e5
     injection e5 with e6
     omega
    have hll:(l:Int)<(l:Int)+1:=by omega
    clear h1 c_b1 hv0
    go_upto_region 8 with fail
    refine wp_region_held_drew (S:=fun w'=>w'.cell? ⟨bo,22,none⟩=some (V Z l)/\w'.cell? ⟨bk,9,none⟩=some (.slice (some ⟨bx,ox,none⟩) Lo.length cL)/\w'.cell? ⟨bx,ox,none⟩=some (V Z v0)) rfl ⟨c_22,c_9,hcx⟩ (fun hHeld=>?_)
    refine tkb 0 ?_
    iterate 7
     refine tkn (v:=?_) rfl (by kernel_rfl) (fun _ _ _ h=>h) (by assumption) ?_ ?_
     rotate_left
     · (intro w hSw;(try dsimp only at hSw);go_simp;try with_reducible rfl)
     try simp only [put_pack]
    refine tke ?_
    refine wpAnyH_ready (rs:=[7]) (by kernel_rfl) (by simp) ?_
    refine AllReadyH.cons rfl (fun K hKK=>?_) (AllReadyH.nil)
    go_simp
    refine (wrap_r _ _ _).mono ?_
    rintro e w' ⟨rfl,rfl⟩
    refine hKK.out _ _ ⟨c_22,c_9,hcx⟩ (fun hHeld=>?_)
    clear hKK K
    try dsimp only
    refine tk 8 (v:=?_) rfl (by kernel_rfl) (fun _ _ _ h=>h) (by assumption) ?_ ?_
    rotate_left
    · (intro w hSw;(try dsimp only at hSw);go_simp;try with_reducible rfl)
    try simp only [put_pack]
    refine wpAnyH_ready (rs:=[9]) (by kernel_rfl) (by simp) ?_
    refine AllReadyH.cons rfl (fun K hKK=>?_) (AllReadyH.nil)
    go_simp
    have hI2:=ints_put hA l (by omega) (wrapI v0 1) b9
    have hn1:bo≠ba:=by omega
    have hn2:bk≠ba:=by omega
    have hn3:bx≠ba:=by omega
    have hxs:Ext wB ((World.drew W3).setCell ⟨ba,l,none⟩ (V Z (wrapI v0 1))):=hx9.drew.setCell (p:=⟨ba,l,none⟩) (show wB.heap.size<=ba by omega) _
    have hcs:∀ k i,k≠ba->((World.drew W3).setCell ⟨ba,l,none⟩ (V Z (wrapI v0 1))).cell? ⟨k,i,none⟩=W3.cell? ⟨k,i,none⟩:=fun k i hk=>by
     unfold World.cell?
     simp only
     rw [heap_setCell_ne _ _ hk]
     rfl
    refine hKK.out _ _ ⟨(hcs _ _ hn1).trans c_22,(hcs _ _ hn2).trans c_9,(hcs _ _ hn3).trans hcx⟩ (fun hHeld=>?_)
    clear hKK K
    try dsimp only
    refine wpAnyH_done (by kernel_rfl) ?_ _
    go_simp
    go_wp2_with fail
    go_meet
    exact⟨_,by rw [List.length_set];exact hzl,hI2,hxs⟩
 case rest =>
 obtain⟨Ll,hLl,hIl,hxL⟩:=hcut
 replace hX:=hX.trans hxL
 replace b7:=b7.ext hxL
 replace b8:=b8.ext hxL
 replace b1:=b1.ext hxL
 have hba2:∀ k,(Value.slice Aq a.length cq).ownBlock=some k->k<wc.heap.size:=fun k hk=>by
  have h1:=hba k hk
  have h2:=hxL.size
  omega
 replace hIa:=hIa.ext hxL
 clear hba hxL hA b9 hx9 hzl hmk hLo2 hq hbz
 have hN:=new_any (some ⟨ba,0,none⟩) (l+1) Ll Aq cq a _ (by rw [hLl];exact hIl) hIa (by rw [hLl];omega) (by unfold maxAns;omega) hba2
 rw [hLl] at hN
 go_wp2_with fail
 refine hN.mono ?_
 rintro e w8 ⟨pm,rfl,hR,hx8⟩
 have b7w:=Hd b7
 have b8w:=Hd b8
 replace b1:=b1.ext hx8
 replace b7:=b7.ext hx8
 replace b8:=b8.ext hx8
 have hX8:=hX.trans hx8
 have hUo:=hUse.out
 have hta2:TameA (TS0 Ll a):=hta
 have hlf:(TS0 Ll a).left<a.length+1:=by unfold TS.left TS0;simp
 have hnt:(TS0 Ll a).nts.length+10*(TS0 Ll a).left<=90000:=by unfold TS.left TS0;simp;omega
 have hb0:false=false->(TS0 Ll a).left<a.length+1/\(TS0 Ll a).nts.length+10*(TS0 Ll a).left<=90000:=fun _=>⟨hlf,hnt⟩
 have hc1:Hid (∀ B p W,Plays B W p (TS0 Ll a)->HeldP W p bo (.cells #[V Z 0,V Z 0,V Z 0,V Z 0,V Z 0,V Z 0,V Z 0,V Z 0,V Z alg,V Z N,V Z mode,V Z 0,V Z 0,V Z room,V Z 0,V Z 0,V Z 0,V Z 0,V Z 0,V Z 0,V Z 0,V Z C,V Z l] 69)->HeldP W p bt (.cells #[V Z m] 3)->Calls Tryz.prog 44 #[.pointer (some ⟨p,0,none⟩),.pointer (some ⟨bo,0,none⟩),.pointer (some ⟨bt,0,none⟩)] W (Post encI B p W ((lockA (inA (lkA (a.length+1) alg N 0 0 room rs m) (a.length+1)) (lkR alg N 0 0 rs m) C l (a.length+1)).run (TS0 Ll a)))):=fun B p W hP g1 g2=>by
  have h:=mwcl1 B p N (a.length+1) (TS0 Ll a) alg mode room m rs bo bt W hP hUo hta2 hlf hnt
  rw [hCh.out,hlh.out] at h
  exact h g1 g2
 have hc2:Hid (∀ B p W,Plays B W p (TS0 Ll a)->HeldP W p bo (.cells #[V Z 0,V Z 0,V Z 0,V Z 0,V Z 0,V Z 0,V Z 0,V Z 0,V Z alg,V Z N,V Z mode,V Z 0,V Z 0,V Z room,V Z 0,V Z 0,V Z 0,V Z 0,V Z 0,V Z 0,V Z 0,V Z C,V Z l] 69)->HeldP W p bt (.cells #[V Z m] 3)->Calls Tryz.prog 47 #[.pointer (some ⟨p,0,none⟩),.pointer (some ⟨bo,0,none⟩),.pointer (some ⟨bt,0,none⟩)] W (Post encI B p W (((inA (lkA (a.length+1) alg N 0 0 room rs m) (a.length+1)).bind fun _=>(lkR alg N 0 0 rs m).bind fun _=>.ret (0:Int)).run (TS0 Ll a)))):=fun B p W hP g1 g2=>by
  have h:=mwcl2 B p N (a.length+1) (TS0 Ll a) alg mode room m rs bo bt W hP hUo hta2 hlf hnt
  rw [hCh.out,hlh.out] at h
  exact h g1 g2
 have hc3:Hid (∀ B p W,Plays B W p (TS0 Ll a)->HeldP W p bo (.cells #[V Z 0,V Z 0,V Z 0,V Z 0,V Z 0,V Z 0,V Z 0,V Z 0,V Z alg,V Z N,V Z mode,V Z 0,V Z 0,V Z room,V Z 0,V Z 0,V Z 0,V Z 0,V Z 0,V Z 0,V Z 0,V Z C,V Z l] 69)->HeldP W p bt (.cells #[V Z m] 3)->Calls Tryz.prog 52 #[.pointer (some ⟨p,0,none⟩),.pointer (some ⟨bo,0,none⟩),.pointer (some ⟨bt,0,none⟩)] W (Post encI B p W ((tryA (inA (lkA (a.length+1) alg N 0 0 room rs m) (a.length+1)) (lkR alg N 0 0 rs m) C l).run (TS0 Ll a)))):=fun B p W hP g1 g2=>by
  have h:=mwcl3 B p N (a.length+1) (TS0 Ll a) alg mode room m rs bo bt W hP hUo hta2 hlf hnt
  rw [hCh.out,hlh.out] at h
  exact h g1 g2
 have hc4:Hid (∀ B p W,Plays B W p (TS0 Ll a)->HeldP W p bo (.cells #[V Z 0,V Z 0,V Z 0,V Z 0,V Z 0,V Z 0,V Z 0,V Z 0,V Z alg,V Z N,V Z mode,V Z 0,V Z 0,V Z room,V Z 0,V Z 0,V Z 0,V Z 0,V Z 0,V Z 0,V Z 0,V Z C,V Z l] 69)->HeldP W p bt (.cells #[V Z m] 3)->Calls Tryz.prog 55 #[.pointer (some ⟨p,0,none⟩),.pointer (some ⟨bo,0,none⟩),.pointer (some ⟨bt,0,none⟩)] W (Post encI B p W ((unlockA (inA (lkA (a.length+1) alg N 0 0 room rs m) (a.length+1)) (lkR alg N 0 0 rs m) C l).run (TS0 Ll a)))):=fun B p W hP g1 g2=>by
  have h:=mwcl4 B p N (a.length+1) (TS0 Ll a) alg mode room m rs bo bt W hP hUo hta2 hlf hnt
  rw [hCh.out,hlh.out] at h
  exact h g1 g2
 have hd0:=Hd (lock_r wc.heap.size pm N (a.length+1) false (TS0 Ll a) 0 alg mode 0 0 room C l m rs w8 hR hUo hta2 hb0 (by omega) (by rw [hlh.out];omega))
 have hd1:=Hd (try_r wc.heap.size pm N (a.length+1) false (TS0 Ll a) 0 alg mode 0 0 room C l m rs w8 hR hUo hta2 hb0)
 have hd2:=Hd (unlock_r wc.heap.size pm N (a.length+1) false (TS0 Ll a) 0 alg mode 0 0 room C l m rs w8 hR hUo hta2 hb0)
 have hd3:=Hd (in_r wc.heap.size pm N (a.length+1) false (TS0 Ll a) alg mode 0 0 room m rs w8 hR hUo hta2 (fun h=>(hb0 h).1) (fun h=>(hb0 h).2))
 have hd4:=Hd fun o S W hP hn=>mout_r wc.heap.size pm N o S alg mode 0 0 room m rs W hP hUo hn
 have hpay:=Hd (lkA_pays (a.length+1) alg N 0 0 room rs m (a.length+1))
 clear hUo hta2 hb0 hUse c_b1
 generalize (inA (lkA (a.length+1) alg N 0 0 room rs m) (a.length+1))=I at *
 generalize (lkR alg N 0 0 rs m)=U at *
 have c_b1:=b1.cells
 go_upto_block 0 with fail
 clear c_b1
 generalize bits BinOp.and IntKind.i64 kind 3=k3 at *
 go_cut [8,9] (fun s8 s9 wx=>∃ (F:FuncId) (T:Prog Int) (u:Int) (o':Bool) (S':TS),s8=.func (.func F) #[] #[.pointer (some ⟨bo,0,none⟩),.pointer (some ⟨bt,0,none⟩)]/\s9=V Z u/\Hid (Ref T false (TS0 Ll a) u o' S')/\Hid (RAt wc.heap.size wx pm o' S')/\Hid (Ext wc wx) /\
  Hid ((∀ (args:Array Value) (w:World),(callFunc F args).run Tryz.prog w=.ok (.enter F args) w)/\∀ B p W,Plays B W p (TS0 Ll a)->HeldP W p bo (.cells #[V Z 0,V Z 0,V Z 0,V Z 0,V Z 0,V Z 0,V Z 0,V Z 0,V Z alg,V Z N,V Z mode,V Z 0,V Z 0,V Z room,V Z 0,V Z 0,V Z 0,V Z 0,V Z 0,V Z 0,V Z 0,V Z C,V Z l] 69)->HeldP W p bt (.cells #[V Z m] 3)->Calls Tryz.prog F #[.pointer (some ⟨p,0,none⟩),.pointer (some ⟨bo,0,none⟩),.pointer (some ⟨bt,0,none⟩)] W (Post encI B p W (T.run (TS0 Ll a)))))
 case first =>
  have c_b8:=b8.cells
  by_cases h0:k3=0
  · have d0:(k3==0)=true:=by rw [beq_iff_eq];exact h0
    clear h0
    skip
    go_upto_region 17 with fail
    refine wp_region_lit ?_
    refine load_obj rfl _ rfl rfl _ rfl bo rfl b7 rfl ?_
    try simp only [put_pack]
    go_wp2_with fail
    refine hd0.out.mono ?_
    rintro e w9 ⟨u,o',S',rfl,hRef,hR9,hK9⟩
    have hx9:=Hd (Below.trans hx8 hK9.below)
    have hRefh:=Hd hRef
    have hR9h:=Hd hR9
    clear hK9 hRef hR9 hR hx8 b1 b7 b8 c_b8
    go_wp2_with fail
    go_meet
    exact⟨_,_,u,o',S',rfl,rfl,hRefh,hR9h,hx9,fun _ _=>rfl,hc1.out⟩
  by_cases h3:k3=3
  · have d0:(k3==0)=false:=by rw [beq_eq_false_iff_ne];exact h0
    have d3:(k3==3)=true:=by rw [beq_iff_eq];exact h3
    clear h0 h3
    have c_b7:=b7.cells
    go_wp2_with fail
    refine hd3.out.mono ?_
    rintro e w9 ⟨u,o1,S1,rfl,hRef,hR9,hK9⟩
    have hx9:=Below.trans hx8 hK9.below
    obtain⟨_,_,_,_,_,hcc⟩:=hR9.cell
    have c_b7:=(b7w.out.ext hx9).cells
    have c_b8:=(b8w.out.ext hx9).cells
    clear hK9 hx8 b1 b7 b8 hR
    cases o1 with
    | true =>
      have hRefh:=Hd (Ref.bind (f:=fun _=>U.bind fun _=>Prog.ret (0:Int)) hRef (Ref.over S1 (0:Int)))
      have hR9h:=Hd hR9
      have hx9h:=Hd hx9
      clear hRef hR9 hx9
      go_wp2_with fail
      go_meet
      exact⟨_,_,0,true,S1,rfl,rfl,hRefh,hR9h,hx9h,fun _ _=>rfl,hc2.out⟩
    | false =>
      have hn1:S1.nts.length<=100000:=by
       cases hRef with
       | done hr =>
         have:=hpay.out _ _ _ hr hR9.len
         omega
      have hq4:=hd4.out false S1 w9 hR9 hn1
      have hRefh:=Hd hRef
      have hx9h:=Hd hx9
      clear hRef hR9 hx9
      go_wp2_with fail
      refine hq4.mono ?_
      rintro e wA ⟨u2,o2,S2,rfl,hRef2,hR10,hK10⟩
      have hx10:=Hd (Below.trans hx9h.out hK10.below)
      have hRefh2:=Hd (Ref.bind (f:=fun _=>U.bind fun _=>Prog.ret (0:Int)) hRefh.out (Ref.bind (f:=fun _=>Prog.ret (0:Int)) hRef2 (Ref.ret (0:Int) o2 S2)))
      have hR10h:=Hd hR10
      clear hRef2 hR10 hK10 hRefh hq4 hcc
      go_wp2_with fail
      go_meet
      exact⟨_,_,0,o2,S2,rfl,rfl,hRefh2,hR10h,hx10,fun _ _=>rfl,hc2.out⟩
  by_cases h1:k3=1
  · have d0:(k3==0)=false:=by rw [beq_eq_false_iff_ne];exact h0
    have d3:(k3==3)=false:=by rw [beq_eq_false_iff_ne];exact h3
    have d1:(k3==1)=true:=by rw [beq_iff_eq];exact h1
    clear h0 h3 h1
    skip
    go_upto_region 25 with fail
    refine wp_region_lit ?_
    refine load_obj rfl _ rfl rfl _ rfl bo rfl b7 rfl ?_
    try simp only [put_pack]
    go_wp2_with fail
    refine hd1.out.mono ?_
    rintro e w9 ⟨u,o',S',rfl,hRef,hR9,hK9⟩
    have hx9:=Hd (Below.trans hx8 hK9.below)
    have hRefh:=Hd hRef
    have hR9h:=Hd hR9
    clear hK9 hRef hR9 hR hx8 b1 b7 b8 c_b8
    go_wp2_with fail
    go_meet
    exact⟨_,_,u,o',S',rfl,rfl,hRefh,hR9h,hx9,fun _ _=>rfl,hc3.out⟩
  · have d0:(k3==0)=false:=by rw [beq_eq_false_iff_ne];exact h0
    have d3:(k3==3)=false:=by rw [beq_eq_false_iff_ne];exact h3
    have d1:(k3==1)=false:=by rw [beq_eq_false_iff_ne];exact h1
    clear h0 h3 h1
    skip
    go_upto_region 14 with fail
    refine wp_region_lit ?_
    refine load_obj rfl _ rfl rfl _ rfl bo rfl b7 rfl ?_
    try simp only [put_pack]
    go_wp2_with fail
    refine hd2.out.mono ?_
    rintro e w9 ⟨u,o',S',rfl,hRef,hR9,hK9⟩
    have hx9:=Hd (Below.trans hx8 hK9.below)
    have hRefh:=Hd hRef
    have hR9h:=Hd hR9
    clear hK9 hRef hR9 hR hx8 b1 b7 b8 c_b8
    go_wp2_with fail
    go_meet
    exact⟨_,_,u,o',S',rfl,rfl,hRefh,hR9h,hx9,fun _ _=>rfl,hc4.out⟩
 case rest =>
 obtain⟨F,T,u,o',S',rfl,rfl,hRef,hR9,hx9,hF⟩:=hcut
 clear hd0 hd1 hd2 hd3 hd4 hc1 hc2 hc3 hc4 hpay hx8 b1 b7 b8 hR hlf hnt hX8
 have b7:=b7w.out.ext hx9.out
 have b8:=b8w.out.ext hx9.out
 replace hIl:=hIl.ext hx9.out
 replace hIa:=hIa.ext hx9.out
 have hX9:=Hd (hX.trans hx9.out)
 have hba3:=fun k (hk:(Value.slice Aq a.length cq).ownBlock=some k)=>Nat.lt_of_lt_of_le (hba2 k hk) hx9.out.size
 have hPl:=play_err F #[.pointer (some ⟨bo,0,none⟩),.pointer (some ⟨bt,0,none⟩)] T (some ⟨ba,0,none⟩) (l+1) Ll Aq cq a _ (by rw [hLl];exact hIl) (by rw [hLl];omega) hIa (by unfold maxAns;omega) hba3 hF.out.1 (fun W p hxW hP=>hF.out.2 _ p W hP ⟨b7.ext hxW,fun ho=>by
  obtain⟨_,_,_,_,_,_,h⟩:=hP
  have:=(h.own ho).1
  have:=b7.lt
  omega⟩ ⟨b8.ext hxW,fun ho=>by
  obtain⟨_,_,_,_,_,_,h⟩:=hP
  have:=(h.own ho).1
  have:=b8.lt
  omega⟩)
 rw [hLl] at hPl
 clear hF b7 b8 b7w b8w hIl hIa hX hta
 go_wp2_with fail
 refine hPl.mono ?_
 clear hPl
 rintro e wE ⟨v3,rfl,hO,hx7⟩
 have hrun:=hRef.out.outcome
 generalize hr:T.run (TS0 Ll a)=r at hO hrun ⊢
 have hsome:r.1.isSome=!o':=by rw [hrun];cases o' <;> rfl
 have hS2:r.2=S':=by rw [hrun]
 have hqq:r.1.getD 0=(if o'=true then 0 else u):=by rw [hrun];cases o' <;> rfl
 rw [hsome,hS2] at hO
 rw [hqq]
 obtain⟨q,hq⟩:∃ q,(if o'=true then 0 else u)=q:=⟨_,rfl⟩
 rw [hq]
 replace hq:=Hd hq
 clear hrun hr hRef hsome hS2 hqq
 have hOh:=Hd hO
 obtain⟨A3,c3,A3',c3',As3,k3x,n3,rfl⟩:=hO.parts
 clear hO
 have hR10:=Hd (hR9.out.ext (hx7.alloc (.cells #[.bool (!o'),.slice A3 S'.acc.length c3,.slice A3' S'.nts.length c3',.slice As3 n3 k3x] 30)))
 have hO10:=Hd (hOh.out.ext ((Ext.refl wE).alloc (.cells #[.bool (!o'),.slice A3 S'.acc.length c3,.slice A3' S'.nts.length c3',.slice As3 n3 k3x] 30)))
 have g3:=Blk.new wE (.cells #[.bool (!o'),.slice A3 S'.acc.length c3,.slice A3' S'.nts.length c3',.slice As3 n3 k3x] 30)
 have hX10:=Hd (hX9.out.trans (hx7.alloc (.cells #[.bool (!o'),.slice A3 S'.acc.length c3,.slice A3' S'.nts.length c3',.slice As3 n3 k3x] 30)))
 clear hx7 hOh hR9 hx9 hX9 hba2 hba3
 go_wp2_with fail
 generalize hb3:wE.heap.size=b3 at *
 generalize World.alloc wE _=W9 at *
 clear hb3
 have hTold:Hid (∀ W,Ext W9 W->Calls Tryz.prog 58 #[.pointer (some ⟨pm,0,none⟩),V Z u] W fun e W'=>e=.returned (V Z q)/\Ext W W'):=fun W hx=>hq.out▸told35 _ pm o' S' u W (hR10.out.ext hx)
 have hE:=(Ext.refl W9).drew
 have hS:∀ w',Ext W9 w'->(∀ i,w'.cell? ⟨b3,i,none⟩=(#[.bool (!o'),.slice A3 S'.acc.length c3,.slice A3' S'.nts.length c3',.slice As3 n3 k3x]:Array Value)[i]?):=fun w' hx=>(g3.ext hx).cells
 clear g3
 refine wp_region_held_drew (S:=fun w'=>∀ i,w'.cell? ⟨b3,i,none⟩=(#[.bool (!o'),.slice A3 S'.acc.length c3,.slice A3' S'.nts.length c3',.slice As3 n3 k3x]:Array Value)[i]?) rfl (hS _ hE) (fun hHeld=>?_)
 refine tkb 0 ?_
 iterate 3
  refine tkn (v:=?_) rfl (by kernel_rfl) (fun _ _ _ h=>h) (by assumption) ?_ ?_
  rotate_left
  · (intro w hSw;(try dsimp only at hSw);go_simp;try with_reducible rfl)
  try simp only [put_pack]
 refine tke ?_
 refine wpAnyH_ready (rs:=[3]) (by kernel_rfl) (by simp) ?_
 refine AllReadyH.cons rfl (fun K hKK=>?_) (AllReadyH.nil)
 go_simp
 refine (hTold.out _ hE).mono ?_
 rintro e wd1 ⟨rfl,hxd⟩
 replace hE:=hE.trans hxd
 clear hxd
 refine hKK.out _ _ (hS _ hE) (fun hHeld=>?_)
 clear hKK K
 try dsimp only
 refine tkb 4 ?_
 iterate 4
  refine tkn (v:=?_) rfl (by kernel_rfl) (fun _ _ _ h=>h) (by assumption) ?_ ?_
  rotate_left
  · (intro w hSw;(try dsimp only at hSw);go_simp;try with_reducible rfl)
  try simp only [put_pack]
 refine tke ?_
 refine wpAnyH_ready (rs:=[8]) (by kernel_rfl) (by simp) ?_
 refine AllReadyH.cons rfl (fun K hKK=>?_) (AllReadyH.nil)
 go_simp
 refine (dout_r _ pm o' S' _ (hR10.out.ext hE)).mono ?_
 rintro e wd2 ⟨v9,rfl,hOx,hxd⟩
 replace hE:=hE.trans hxd
 clear hxd
 refine hKK.out _ _ (hS _ hE) (fun hHeld=>?_)
 clear hKK K
 try dsimp only
 refine wpAnyH_ready (rs:=[9]) (by kernel_rfl) (by simp) ?_
 refine AllReadyH.cons rfl (fun K hKK=>?_) (AllReadyH.nil)
 go_simp
 refine (same_r _ _ (!o') S' _ (hO10.out.ext hE) hOx).mono ?_
 rintro e wf ⟨rfl,hxd⟩
 replace hE:=hE.trans hxd
 clear hxd
 refine hKK.out _ _ (hS _ hE) (fun hHeld=>?_)
 clear hKK K
 try dsimp only
 refine tk 10 (v:=?_) rfl (by kernel_rfl) (fun _ _ _ h=>h) (by assumption) ?_ ?_
 rotate_left
 · (intro w hSw;(try dsimp only at hSw);go_simp;try with_reducible rfl)
 try simp only [put_pack]
 refine tk 11 (v:=?_) rfl (by kernel_rfl) (fun _ _ _ h=>h) (by assumption) ?_ ?_
 rotate_left
 · (intro w hSw;(try dsimp only at hSw);go_simp;try with_reducible rfl)
 try simp only [put_pack]
 refine wpAnyH_ready (rs:=[12]) (by kernel_rfl) (by simp) ?_
 refine AllReadyH.cons rfl (fun K hKK=>?_) (AllReadyH.nil)
 go_simp
 refine (alive35 _).mono ?_
 rintro e wg ⟨rfl,hxd⟩
 replace hE:=hE.trans hxd
 clear hxd
 refine hKK.out _ _ (hS _ hE) (fun hHeld=>?_)
 clear hKK K
 try dsimp only
 refine tk 13 (v:=?_) rfl (by kernel_rfl) (fun _ _ _ h=>h) (by assumption) ?_ ?_
 rotate_left
 · (intro w hSw;(try dsimp only at hSw);go_simp;try with_reducible rfl)
 try simp only [put_pack]
 refine tk 14 (v:=?_) rfl (by kernel_rfl) (fun _ _ _ h=>h) (by assumption) ?_ ?_
 rotate_left
 · (intro w hSw;(try dsimp only at hSw);go_simp;try with_reducible rfl)
 try simp only [put_pack]
 refine wpAnyH_done (by kernel_rfl) ?_ _
 go_simp
 have hf:=Hd (hX10.out.trans hE)
 clear hE hS hTold hR10 hO10 hX10
 go_wp2_with fail
 first | go_ret2 | go_ret
 exact⟨rfl,hf.out⟩
end Go.Proofs.YtbaajjkopdjbgaaGreat
namespace Go.Proofs.YtbaajjkopdjbgaaGreat
open Go.ChangeShapes Go.WideShapes Go.ChangeAt Go.RowKit Kv
theorem cellsLock:Tryz.prog.cellsOf 23=6:=by kernel_rfl
theorem cellsRow:Tryz.prog.cellsOf 25=1:=by kernel_rfl
theorem cellsAsk:Tryz.prog.cellsOf 63=11:=by kernel_rfl
set_option maxRecDepth 100000 in
theorem open_ask35 {H:Type}{enc:TypeId × Value->H}{W:World}{b0:Nat}{r:Reach}{v:Value}{d:DataW H}{p:List MemPlace}
  (hv:Value.okWide Tryz.prog W r b0 63 v)(h:DataW.Trod enc Tryz.prog W 0 (fun _=>true) true 63 v d p) :
  ∃ (kind alg N mode base loc room arg me:Int) (vL vA:Value) (Lo La:List Int),v=.agg #[V Z kind,V Z alg,V Z N,V Z mode,V Z base,V Z loc,V Z room,V Z arg,V Z me,vL,vA]/\Ints W vL Lo/\Ints W vA La:=by
 obtain⟨cs,rfl,hsz⟩:=okWide_struct Tryz.underlying63 hv
 obtain⟨l⟩:=cs
 match l,hsz.trans cellsAsk with
 | [c0,c1,c2,c3,c4,c5,c6,c7,c8,c9,c10],_ =>
   obtain⟨fuel,hf⟩:=h
   obtain⟨xs,n,_,_,_,hlen,hg⟩:=DataW.trod_struct Tryz.underlying63 hf
   match xs,hlen with
   | [y0,y1,y2,y3,y4,y5],_ =>
     have g0:DataW.trod enc Tryz.prog W 0 (fun _=>true) true n 3 [c0]=some y0:=by simpa [Value.cells,cellsInt] using hg 0 _ rfl
     have g1:DataW.trod enc Tryz.prog W 0 (fun _=>true) true n 23 [c1,c2,c3,c4,c5,c6]=some y1:=by simpa [Value.cells,cellsLock] using hg 1 _ rfl
     have g2:DataW.trod enc Tryz.prog W 0 (fun _=>true) true n 3 [c7]=some y2:=by simpa [Value.cells,cellsInt] using hg 2 _ rfl
     have g3:DataW.trod enc Tryz.prog W 0 (fun _=>true) true n 3 [c8]=some y3:=by simpa [Value.cells,cellsInt] using hg 3 _ rfl
     have g4:DataW.trod enc Tryz.prog W 0 (fun _=>true) true n 25 [c9]=some y4:=by simpa [Value.cells,cellsRow] using hg 4 _ rfl
     have g5:DataW.trod enc Tryz.prog W 0 (fun _=>true) true n 25 [c10]=some y5:=by simpa [Value.cells,cellsRow] using hg 5 _ rfl
     obtain⟨zs,n2,_,_,_,hlen2,hg2⟩:=DataW.trod_struct Tryz.underlying23 g1
     match zs,hlen2 with
     | [z0,z1,z2,z3,z4,z5],_ =>
       have k0:DataW.trod enc Tryz.prog W 0 (fun _=>true) true n2 3 [c1]=some z0:=by simpa [Value.cells,cellsInt] using hg2 0 _ rfl
       have k1:DataW.trod enc Tryz.prog W 0 (fun _=>true) true n2 3 [c2]=some z1:=by simpa [Value.cells,cellsInt] using hg2 1 _ rfl
       have k2:DataW.trod enc Tryz.prog W 0 (fun _=>true) true n2 3 [c3]=some z2:=by simpa [Value.cells,cellsInt] using hg2 2 _ rfl
       have k3:DataW.trod enc Tryz.prog W 0 (fun _=>true) true n2 3 [c4]=some z3:=by simpa [Value.cells,cellsInt] using hg2 3 _ rfl
       have k4:DataW.trod enc Tryz.prog W 0 (fun _=>true) true n2 3 [c5]=some z4:=by simpa [Value.cells,cellsInt] using hg2 4 _ rfl
       have k5:DataW.trod enc Tryz.prog W 0 (fun _=>true) true n2 3 [c6]=some z5:=by simpa [Value.cells,cellsInt] using hg2 5 _ rfl
       obtain⟨x0,e0,-,-⟩:=DataW.trod_int Tryz.underlying3 g0
       obtain⟨x2,e2,-,-⟩:=DataW.trod_int Tryz.underlying3 g2
       obtain⟨x3,e3,-,-⟩:=DataW.trod_int Tryz.underlying3 g3
       obtain⟨q0,f0,-,-⟩:=DataW.trod_int Tryz.underlying3 k0
       obtain⟨q1,f1,-,-⟩:=DataW.trod_int Tryz.underlying3 k1
       obtain⟨q2,f2,-,-⟩:=DataW.trod_int Tryz.underlying3 k2
       obtain⟨q3,f3,-,-⟩:=DataW.trod_int Tryz.underlying3 k3
       obtain⟨q4,f4,-,-⟩:=DataW.trod_int Tryz.underlying3 k4
       obtain⟨q5,f5,-,-⟩:=DataW.trod_int Tryz.underlying3 k5
       obtain⟨Lo,hLo,-⟩:=ints_trod g4
       obtain⟨La,hLa,-⟩:=ints_trod g5
       simp at e0 e2 e3 f0 f1 f2 f3 f4 f5
       subst e0 e2 e3 f0 f1 f2 f3 f4 f5
       exact⟨x0,q0,q1,q2,q3,q4,q5,x2,x3,c9,c10,Lo,La,rfl,hLo,hLa⟩
end Go.Proofs.YtbaajjkopdjbgaaGreat
namespace Go.Proofs.YtbaajjkopdjbgaaGreat.mutexPlays
open Go.ChangeShapes Go.WideShapes Go.ChangeAt Go.RowKit Kv
set_option maxRecDepth 100000 in
theorem main (H:Type)(enc:TypeId × Value->H)(W:World)(base:Nat)(args:Array Value)(ds:List (DataW H))(p:List MemPlace)
  (hval:∀ (j:Nat) t v,Tryz.f6.params[j]?=some t->args[j]?=some v->Value.okWide Tryz.prog W .any base t v)
  (hA:DataW.TrodAll enc Tryz.prog W 0 (fun _=>true) true Tryz.f6.params.toList args.toList ds p)(_hL:laidMetH Tryz.prog Rows.mutexPlaysRow.laid W) :
  Calls Tryz.prog 6 args W fun e w'=>e=.returned (.bool true)/\Ext W w':=by
 rw [Tryz.params6] at hA hval
 obtain⟨v0,vs0,d0,ds0,p0,q0,hargs,rfl,rfl,h0,r0⟩:=trodAll_cons hA
 obtain⟨rfl,rfl,rfl⟩:=trodAll_nil r0
 obtain rfl:args=#[v0]:=by cases args;simp_all
 obtain⟨kind,alg,N,mode,b,loc,room,arg,me,vL,vA,Lo,La,rfl,hLo,hLa⟩:=open_ask35 (hval 0 63 v0 rfl rfl) h0
 exact mutex_walk kind alg N mode b loc room arg me vL vA Lo La W hLo hLa
end Go.Proofs.YtbaajjkopdjbgaaGreat.mutexPlays
namespace Go.Proofs.YtbaajjkopdjbgaaGreat.mutexPlays
open Go.ChangeShapes Go.WideShapes Go.ChangeAt Go.RowKit
theorem laidOut:laidOutB Tryz.prog=true:=by kernel_rfl
set_option maxRecDepth 100000 in
theorem contract (H:Type)(enc:TypeId × Value->H)(W:World)(base:Nat)(args:Array Value)(ds gs:List (DataW H))(before:List MemPlace)
  (hval:∀ (j:Nat) t v,Tryz.f6.params[j]?=some t->args[j]?=some v->Value.okWide Tryz.prog W .any base t v)
  (hW:DataW.Whole enc Tryz.prog Tryz.f6.params.toList Rows.mutexPlaysSpec.vars false W args.toList ds gs before)(hL:laidMetH Tryz.prog Rows.mutexPlaysRow.laid W) :
  Calls Tryz.prog 6 args W fun e W'=>∃ v,e=.returned v/\Rows.mutexPlaysSpec.post enc Tryz.prog Tryz.f6 false true false false W args v W':=by
 refine (main H enc W base args ds before hval (by obtain⟨p,q,hA,hV,hpq,_,_⟩:=hW;obtain⟨_,rfl⟩:=trodVars_none hV;rw [List.append_nil] at hpq;subst hpq;exact hA) hL).mono fun e W' ⟨he,hg⟩=>⟨_,he,?_⟩
 refine law_post (tb:=4) laidOut ?_ (by kernel_rfl) Tryz.underlying4 rfl ?_ hW hg
 · rw [Tryz.params6]
   intro t ht
   simp only [List.mem_cons,List.not_mem_nil,or_false] at ht
   rcases ht with rfl <;> exact⟨by kernel_rfl,of_decide_eq_true (by kernel_rfl)⟩
 · intro ds hl
   rw [Tryz.params6] at hl
   match ds,hl with
   | [d0],_=>rfl
set_option maxRecDepth 100000 in
theorem laid_met (os:Os):laidMet Tryz.prog Rows.mutexPlaysRow.laid (((World.holding Tryz.prog os ⟨#[],#[],[]⟩)).forCall (fun _ _=>0) ⟨#[],#[.agg #[V Z 0,V Z 0,V Z 0,V Z 0,V Z 0,V Z 0,V Z 0,V Z 0,V Z 0,.slice none 0 0,.slice none 0 0]],[]⟩).memory :=
 laidMet_of_run' 8 (by kernel_rfl) (by kernel_rfl)
set_option maxRecDepth 100000 in
theorem reads (os:Os){H:Type}(enc:TypeId × Value->H):∃ places,DataW.whole enc Tryz.prog (((World.holding Tryz.prog os ⟨#[],#[],[]⟩)).forCall (fun _ _=>0) ⟨#[],#[.agg #[.int .i64 0,.int .i64 0,.int .i64 0,.int .i64 0,.int .i64 0,.int .i64 0,.int .i64 0,.int .i64 0,.int .i64 0,.slice none 0 0,.slice none 0 0]],[]⟩).memory Tryz.f6.params.toList Rows.mutexPlaysSpec.vars false (#[.agg #[.int .i64 0,.int .i64 0,.int .i64 0,.int .i64 0,.int .i64 0,.int .i64 0,.int .i64 0,.int .i64 0,.int .i64 0,.slice none 0 0,.slice none 0 0]]:Array Value).toList 8=some ([.agg [.lit (.int .i64 0),.agg [.lit (.int .i64 0),.lit (.int .i64 0),.lit (.int .i64 0),.lit (.int .i64 0),.lit (.int .i64 0),.lit (.int .i64 0)],.lit (.int .i64 0),.lit (.int .i64 0),.nil,.nil]],[],places) :=
 ⟨[],by kernel_rfl⟩
set_option maxRecDepth 100000 in
theorem lifted (os:Os)(started:os.Started)(H:Type)(enc:TypeId × Value->H)(F:Stop.Interp) :
  ReturnsInHanded {} Tryz.checked os 6 .any ((OpenSpec.ofChange Rows.mutexPlaysSpec).preRow enc Tryz.prog Tryz.f6 Rows.mutexPlaysRow.domain false Rows.mutexPlaysRow.laid) (((OpenSpec.ofChange Rows.mutexPlaysSpec).at F).post enc Tryz.prog Tryz.f6 false true false false):=by
 obtain⟨places,hx⟩:=reads os enc
 refine returnsInHanded_of_row (C:=Tryz.checked) (s:=(OpenSpec.ofChange Rows.mutexPlaysSpec)) own started (by kernel_rfl) Tryz.func6
  (witness_row_at (enc:=enc) (C:=Tryz.checked) false (World.holding Tryz.prog os ⟨#[],#[],[]⟩) #[.agg #[V Z 0,V Z 0,V Z 0,V Z 0,V Z 0,V Z 0,V Z 0,V Z 0,V Z 0,.slice none 0 0,.slice none 0 0]] rfl (by kernel_rfl) (by kernel_rfl) (by kernel_rfl)
    (OpenSpec.preRow_of_cond 8 hx (by kernel_rfl) (fun k hk=>by cases hk) (by kernel_rfl) (laid_met os))) ?_
 intro W base args ds gs before hval hW _ _ _ hL _ _
 exact contract H enc W base args ds gs before hval hW hL
theorem c1:(Rows.mutexPlaysRow.inPlace==Tryz.pinned.checked.prog.inPlace 6)=true:=by kernel_rfl
theorem c2:(Rows.mutexPlaysRow.unfollowed==Tryz.pinned.checked.prog.unfollowed 6)=true:=by kernel_rfl
theorem c3:(Rows.mutexPlaysRow.recurses==Tryz.pinned.checked.prog.recurses 6)=true:=by kernel_rfl
theorem c4:(Rows.mutexPlaysRow.named==Tryz.pinned.checked.prog.varsNamed 6)=true:=by kernel_rfl
theorem closed:joinedFacts Tryz.pinned.checked.prog 6 Tryz.f6 (OpenSpec.ofChange Rows.mutexPlaysSpec).bare Rows.mutexPlaysRow=true:=by
 unfold joinedFacts
 simp only [Bool.and_eq_true]
 repeat' refine And.intro ?_ ?_
 all_goals first | with_reducible exact c1 | with_reducible exact c2 | with_reducible exact c3 | with_reducible exact c4 | kernel_rfl
theorem said:Rows.MutexPlaysSaid :=
 OpenClaim.holds_of_cond 6 Tryz.f6 rfl rfl rfl rfl rfl rfl rfl ⟨rfl,rfl,rfl,rfl,rfl⟩ rfl rfl rfl rfl rfl (by kernel_rfl) Tryz.func6 closed
  (of_decide_eq_true (by kernel_rfl)) (by unfold Func.isWrapper;first | (rw [if_pos (by decide +kernel)];kernel_rfl) | (rw [if_neg (by decide +kernel)];exact⟨rfl,rfl⟩))
  (fun os started H enc _ F=>by rw [OpenClaim.pre_eq_preRow];exact lifted os started H enc F)
end Go.Proofs.YtbaajjkopdjbgaaGreat.mutexPlays
