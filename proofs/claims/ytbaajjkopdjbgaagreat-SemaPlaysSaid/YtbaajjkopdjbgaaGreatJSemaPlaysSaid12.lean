/-
  SemaPlaysSaid: part 12 of its proof.
-/
import Derived.Test.YtbaajjkopdjbgaaGreatJSemaPlaysSaid11
import Derived.Deep.CutBlock
import Derived.Deep.DeepCutAuto
import Derived.Deep.MidRow
import Derived.Laws.MakeOwn
import Derived.BigQuiet
import Derived.Deep.QuietTactic
open Go.Value renaming int -> V
open Go.IntKind renaming i64 -> Z
namespace Go.Proofs.YtbaajjkopdjbgaaGreat
open Go.RowKit Kv
theorem n23_r (alg mode base loc room:Int)(N:Nat)(w:World)(h1:1<=N)(h2:N<=8) :
  Calls Tryz.prog 106 #[.agg #[V Z alg,V Z N,V Z mode,V Z base,V Z loc,V Z room]] w fun e w'=>e=.returned (V Z N)/\Ext w w':=by
 have hn:nM (N:Int)=N:=nM_id (by omega) (by omega)
 have hX:=Ext.refl w
 have b1:=Blk.new w (.cells #[V Z alg,V Z N,V Z mode,V Z base,V Z loc,V Z room] 23)
 replace hX:=hX.alloc (.cells #[V Z alg,V Z N,V Z mode,V Z base,V Z loc,V Z room] 23)
 have c_b1:=b1.cells
 go_enter Tryz.func106,Tryz.ntmps106
 go_wp2_with fail
 refine (rn_any ⟨0,0,0,N,0,0,0⟩ _).mono ?_
 rintro e w1 ⟨rfl,hx⟩
 simp only
 rw [hn]
 have hf:=Hd (hX.trans hx)
 clear hx hn
 go_wp2_with fail
 go_ret
 exact⟨rfl,hf.out⟩
theorem room23_r (alg N mode base loc room:Int)(w:World)(h1:1<=room)(h2:room<=1048576) :
  Calls Tryz.prog 198 #[.agg #[V Z alg,V Z N,V Z mode,V Z base,V Z loc,V Z room]] w fun e w'=>e=.returned (V Z room)/\Ext w w':=by
 have hc:clamp room 1048576=room:=by unfold clamp within;omega
 have d1:decide (room<1)=false:=by rw [decide_eq_false_iff_not];omega
 have hX:=Ext.refl w
 have b1:=Blk.new w (.cells #[V Z alg,V Z N,V Z mode,V Z base,V Z loc,V Z room] 23)
 replace hX:=hX.alloc (.cells #[V Z alg,V Z N,V Z mode,V Z base,V Z loc,V Z room] 23)
 have c_b1:=b1.cells
 have hf:=Hd hX
 clear hX
 go_enter Tryz.func198,Tryz.ntmps198
 go_wp2_with fail
 refine (clamp_r _ _ _).mono ?_
 rintro e w' ⟨rfl,rfl⟩
 rw [hc]
 go_wp2_with fail
 go_ret
 exact⟨rfl,hf.out⟩
set_option maxRecDepth 100000 in
set_option maxHeartbeats 4000000 in
theorem bakwait_r (B p N D m j:Nat)(o:Bool)(S:TS)(alg mode base loc room T:Int)(w:World)(h:RAt B w p o S)(h1:1<=N)(h2:N<=8)(hj1:j<N)(hba:0<=base/\base<=32768)(hD:S.left<D) :
  Calls Tryz.prog 199 #[.pointer (some ⟨p,0,none⟩),.agg #[V Z alg,V Z N,V Z mode,V Z base,V Z loc,V Z room],V Z m,V Z j,V Z T] w (RPost encU B p w (bakFor D base N m T j) o S):=by
 generalize hR:RPost encU B p w (bakFor D base N m T j) o S=R
 have hO:ROwes R encU B p w (bakFor D base N m T j) o S:=hR▸rowes _ _ _ _ _ _ _
 clear hR
 obtain⟨b1,hK,hP⟩:=h.entry (.cells #[V Z alg,V Z N,V Z mode,V Z base,V Z loc,V Z room] 23)
 have c_b1:=b1.cells
 clear h
 have hw1:=IntWalk.i64_in (base+(j:Int)) (by omega)
 have hw2:=IntWalk.i64_in (base+(N:Int)) (by omega)
 have hw3:=IntWalk.i64_in (base+(N:Int)+(j:Int)) (by omega)
 unfold bakFor at hO
 obtain⟨J,hJ⟩:∃ J:Int->Nat->Prog Unit,∀ xv n,J xv n=if xv=0 then bakWait (base+N+j) T m j D else (zeroC (base+j) n).bind fun _=>bakWait (base+N+j) T m j D:=⟨_,fun _ _=>rfl⟩
 rw [show ((zeroC (base+(j:Int)) D).bind fun _=>bakWait (base+N+j) T m j D)=J 1 D from (hJ 1 D).symm] at hO
 have hJh:=Hd hJ
 have hOh:=Hd hO
 clear hO hJ
 go_enter Tryz.func199,Tryz.ntmps199
 go_upto_block 0 with fail
 clear c_b1
 generalize hbb:w.heap.size=z at *
 generalize World.alloc w _=W0 at *
 clear hbb
 go_cut [] (fun wx=>∃ (o2:Bool) (S2:TS),RAt B wx p o2 S2/\KeepR B p w wx/\HeldR wx p z (.cells #[V Z alg,V Z N,V Z mode,V Z base,V Z loc,V Z room] 23)/\S2.left<D/\Hid (ROwes R encU B p w (bakWait (base+N+j) T m j D) o2 S2))
 case first =>
  go_wp2_with fail
  go_loopw [10] (fun u wr=>∃ (xv:Int) (n:Nat) (o2:Bool) (S2:TS),u=V Z xv/\RAt B wr p o2 S2/\KeepR B p w wr/\HeldR wr p z (.cells #[V Z alg,V Z N,V Z mode,V Z base,V Z loc,V Z room] 23)/\S2.left<D/\Hid (ROwes R encU B p w (J xv n) o2 S2)/\(o2=false->xv≠0->S2.left<n)) (fun _ wr=>leftR wr p)
  case atStart=>exact⟨1,D,o,S,rfl,hP,hK,b1,hD,hOh,fun _ _=>hD⟩
  case round =>
   clear hP hK b1 hD hOh
   obtain⟨xv,n,o2,S2,rfl,hP,hK,b1,hD,hOh,hn⟩:=hrel
   have hlw:=Hd hP.leftR
   obtain⟨_,_,_,_,_,hcc⟩:=hP.cell
   by_cases hx:xv=0
   · have dx:(xv != 0)=false:=by simpa using hx
     replace hO:=hOh.out
     rw [hJh.out,if_pos hx] at hO
     have hf:=Hd hO
     clear hO hOh hx hn hcc
     go_wp2_with fail
     go_meet
     exact⟨o2,S2,hP,hK,b1,hD,hf⟩
   · have dx:(xv != 0)=true:=by simpa using hx
     cases o2 with
     | true =>
       have hf:=Hd (hOh.out.any (bakWait (base+N+j) T m j D))
       clear hOh hx hn
       go_wp2_with fail
       go_meet
       exact⟨true,S2,hP,hK,b1,hD,hf⟩
     | false =>
       have hn:=hn rfl hx
       cases n with
       | zero=>omega
       | succ n =>
         replace hO:=hOh.out
         rw [hJh.out,if_neg hx,zeroC_bind] at hO
         clear hOh hx
         have hOh:=Hd hO
         clear hO
         have c_b1:=b1.cells
         go_wp2_with fail
         clear hcc c_b1
         refine rstepA (notes_rd _) hOh.out hK (read_r B p false S2 _ _ hP) ?_
         clear hOh hK hP
         intro x o3 S3 w3 htm hlf hdn _ hP hk hK hO
         replace b1:=b1.keep hk
         clear hk htm
         have hn3:o3=false->x≠0->S3.left<n:=fun ho _=>by have:=(hdn ho).2.2 (asks_rd _);omega
         have hlw2:=Hd hP.leftR
         have hdec:o3=false->S3.left<S2.left:=fun ho=>(hdn ho).2.2 (asks_rd _)
         replace hD:=Nat.lt_of_le_of_lt hlf hD
         clear hdn
         have hf:Hid (ROwes R encU B p w (J x n) o3 S3):=by
          refine Hd ?_
          rw [hJh.out]
          exact hO
         clear hO
         go_wp2_with fail
         refine⟨⟨x,n,o3,S3,rfl,hP,hK,b1,hD,hf,hn3⟩,?_⟩
         rw [hlw.out,hlw2.out]
         cases o3 with
         | true=>simp;omega
         | false=>have:=hdec rfl;simp;omega
 case rest =>
  clear hP hK b1 hD hOh
  obtain⟨o2,S2,hP,hK,b1,hD,hOh⟩:=hcut
  obtain⟨J2,hJ2⟩:∃ J:Bool->Nat->Prog Unit,∀ bv n,J bv n=if bv=true then bakWait (base+N+j) T m j n else .ret ():=⟨_,fun _ _=>rfl⟩
  have hOh2:Hid (ROwes R encU B p w (J2 true D) o2 S2):=by
   refine Hd ?_
   rw [hJ2]
   exact hOh.out
  have hJ2h:=Hd hJ2
  clear hOh hJ2
  go_wp2_with fail
  go_loopw [11] (fun u wr=>∃ (bv:Bool) (n:Nat) (o2:Bool) (S2:TS),u=.bool bv/\RAt B wr p o2 S2/\KeepR B p w wr/\HeldR wr p z (.cells #[V Z alg,V Z N,V Z mode,V Z base,V Z loc,V Z room] 23)/\Hid (ROwes R encU B p w (J2 bv n) o2 S2)/\(o2=false->bv=true->S2.left<n)) (fun _ wr=>leftR wr p)
  case atStart=>exact⟨true,D,o2,S2,rfl,hP,hK,b1,hOh2,fun _ _=>hD⟩
  case round =>
   clear hP hK b1 hD hOh2
   obtain⟨bv,n,o2,S2,rfl,hP,hK,b1,hOh,hn⟩:=hrel
   have hlw:=Hd hP.leftR
   obtain⟨_,_,_,_,_,hcc⟩:=hP.cell
   cases bv with
   | false =>
     replace hO:=hOh.out
     rw [hJ2h.out,if_neg (by decide)] at hO
     have hf:R (.returned (encU ())) wr:=hO.ret hP hK
     clear hO hOh hn hP hK hcc b1 hlw
     go_wp2_with fail
     first | exact hf | (refine bodyPost_ret (results_none rfl _ _ _) rfl ?_;exact hf)
   | true =>
     cases o2 with
     | true =>
       have hf:R (.returned (encU ())) wr:=hOh.out.over () hP hK
       clear hOh hn hK b1 hlw
       go_wp2_with fail
       first | exact hf | (refine bodyPost_ret (results_none rfl _ _ _) rfl ?_;exact hf)
     | false =>
       have hn1:=hn rfl rfl
       clear hn
       cases n with
       | zero=>omega
       | succ n =>
         replace hO:=hOh.out
         rw [hJ2h.out,if_pos rfl,<- Prog.bind_id (bakWait _ _ _ _ _),bakWait_bind] at hO
         clear hOh
         go_wp2_with fail
         clear hcc
         replace hP:=hP.drew
         replace hK:=hK.drew
         replace b1:=b1.drew
         have c_b1:=b1.cells
         go_region_held2 (fun w'=>∀ i:Nat,w'.cell? ⟨z,i,none⟩=(#[V Z alg,V Z N,V Z mode,V Z base,V Z loc,V Z room]:Array Value)[i]?) (first | with_reducible exact c_b1 | go_keep)
          (first
            | (go_at_call 106
               refine (n23_r alg mode base loc room N _ h1 h2).mono ?_
               rintro e w2 ⟨rfl,hx⟩
               clear c_b1
               replace hK:=hK.trans (Keep.of_ext hx hP.lt hP.le)
               replace b1:=b1.ext hx hP.lt
               have c_b1:=b1.cells
               replace hP:=hP.ext hx
               clear hx)
            | (go_at_call 134
               refine rstepA (notes_rd _) hO hK (read_r B p false S2 _ _ hP) ?_
               clear hO hK hP c_b1
               intro x o3 S3 w3 htm hlf hdn _ hP hk hK hO
               replace b1:=b1.keep hk
               have c_b1:=b1.cells
               clear hk htm))
         have hn3:o3=false->S3.left<n:=fun ho=>by have:=(hdn ho).2.2 (asks_rd _);omega
         have hlw2:=Hd hP.leftR
         have hdec:o3=false->S3.left<S2.left:=fun ho=>(hdn ho).2.2 (asks_rd _)
         clear hdn c_b1 hn1
         rw [Prog.bind_id] at hO
         by_cases hq0:x=0
         · have d0:(x != 0)=false:=by simpa using hq0
           have hf:Hid (ROwes R encU B p w (J2 false n) o3 S3):=by
            refine Hd ?_
            rw [hJ2h.out,if_neg (by decide)]
            rw [if_neg (by omega)] at hO
            exact hO
           clear hO hq0
           go_wp2_with fail
           refine⟨⟨false,n,o3,S3,rfl,hP,hK,b1,hf,fun _ h=>by cases h⟩,?_⟩
           rw [hlw.out,hlw2.out]
           cases o3 with
           | true=>simp;omega
           | false=>have:=hdec rfl;simp;omega
         · have d0:(x != 0)=true:=by simpa using hq0
           by_cases hq1:x<T
           · have d1:decide (x<T)=true:=by rw [decide_eq_true_eq];exact hq1
             have hf:Hid (ROwes R encU B p w (J2 true n) o3 S3):=by
              refine Hd ?_
              rw [hJ2h.out,if_pos rfl]
              rw [if_pos (⟨hq0,.inl hq1⟩)] at hO
              exact hO
             clear hO hq0 hq1
             go_wp2_with fail
             refine⟨⟨true,n,o3,S3,rfl,hP,hK,b1,hf,fun ho _=>hn3 ho⟩,?_⟩
             rw [hlw.out,hlw2.out]
             cases o3 with
             | true=>simp;omega
             | false=>have:=hdec rfl;simp;omega
           · have d1:decide (x<T)=false:=by rw [decide_eq_false_iff_not];exact hq1
             by_cases hq2:x=T
             · have d2:(x==T)=true:=by simpa using hq2
               by_cases hq3:(j:Int)<(m:Int)
               · have d3:decide (j<m)=true:=by rw [decide_eq_true_eq];omega
                 have hf:Hid (ROwes R encU B p w (J2 true n) o3 S3):=by
                  refine Hd ?_
                  rw [hJ2h.out,if_pos rfl]
                  rw [if_pos (⟨hq0,.inr ⟨hq2,hq3⟩⟩)] at hO
                  exact hO
                 clear hO hq0 hq1 hq2 hq3
                 go_wp2_with fail
                 refine⟨⟨true,n,o3,S3,rfl,hP,hK,b1,hf,fun ho _=>hn3 ho⟩,?_⟩
                 rw [hlw.out,hlw2.out]
                 cases o3 with
                 | true=>simp;omega
                 | false=>have:=hdec rfl;simp;omega
               · have d3:decide (j<m)=false:=by rw [decide_eq_false_iff_not];omega
                 have hf:Hid (ROwes R encU B p w (J2 false n) o3 S3):=by
                  refine Hd ?_
                  rw [hJ2h.out,if_neg (by decide)]
                  rw [if_neg (by omega)] at hO
                  exact hO
                 clear hO hq0 hq1 hq2 hq3
                 go_wp2_with fail
                 refine⟨⟨false,n,o3,S3,rfl,hP,hK,b1,hf,fun _ h=>by cases h⟩,?_⟩
                 rw [hlw.out,hlw2.out]
                 cases o3 with
                 | true=>simp;omega
                 | false=>have:=hdec rfl;simp;omega
             · have d2:(x==T)=false:=by simpa using hq2
               have hf:Hid (ROwes R encU B p w (J2 false n) o3 S3):=by
                refine Hd ?_
                rw [hJ2h.out,if_neg (by decide)]
                rw [if_neg (by omega)] at hO
                exact hO
               clear hO hq0 hq1 hq2
               go_wp2_with fail
               refine⟨⟨false,n,o3,S3,rfl,hP,hK,b1,hf,fun _ h=>by cases h⟩,?_⟩
               rw [hlw.out,hlw2.out]
               cases o3 with
               | true=>simp;omega
               | false=>have:=hdec rfl;simp;omega
set_option maxRecDepth 100000 in
set_option maxHeartbeats 4000000 in
theorem bakacq_r (B p N D:Nat)(o:Bool)(S:TS)(alg mode base loc room:Int)(m:Nat)(w:World)(h:RAt B w p o S)(h1:1<=N)(h2:N<=8)(hm1:m<N)(hba:0<=base/\base<=32768)(hro:1<=room/\room<=1048576)
  (hta:TameA S)(hD:S.left<D)(hn0:S.nts.length<=100000) :
  Calls Tryz.prog 108 #[.pointer (some ⟨p,0,none⟩),.agg #[V Z alg,V Z N,V Z mode,V Z base,V Z loc,V Z room],V Z m] w (RPost encI B p w (bakA D base N room loc m) o S):=by
 generalize hR:RPost encI B p w (bakA D base N room loc m) o S=R
 have hO:ROwes R encI B p w (bakA D base N room loc m) o S:=hR▸rowes _ _ _ _ _ _ _
 clear hR
 obtain⟨b1,hK,hP⟩:=h.entry (.cells #[V Z alg,V Z N,V Z mode,V Z base,V Z loc,V Z room] 23)
 have c_b1:=b1.cells
 clear h
 unfold bakA at hO
 have hw1:=IntWalk.i64_in (base+(N:Int)) (by omega)
 have hw2:=IntWalk.i64_in (base+(m:Int)) (by omega)
 have hw3:=IntWalk.i64_in (base+(N:Int)+(m:Int)) (by omega)
 have hOh:=Hd hO
 clear hO
 go_enter Tryz.func108,Tryz.ntmps108
 go_wp2_with fail
 refine (n23_r alg mode base loc room N _ h1 h2).mono ?_
 rintro e w1 ⟨rfl,hx⟩
 replace hK:=hK.trans (Keep.of_ext hx hP.lt hP.le)
 replace b1:=b1.ext hx hP.lt
 replace hP:=hP.ext hx
 clear hx c_b1
 generalize w.heap.size=z at *
 go_wp2_with fail
 refine rstepA (notes_nt 1) hOh.out hK (note_r B p o S 1 _ hP (by unfold maxAns;omega)) ?_
 clear hOh hK hP
 intro u o1 S1 wn htm hlf hdn hnn hP hk hK hO
 replace hta:=htm hta
 replace hD:=Nat.lt_of_le_of_lt hlf hD
 replace hn0:S1.nts.length<=100001:=by omega
 replace b1:=b1.keep hk
 clear hk htm hnn hlf
 clear hdn
 have hOh:=Hd hO
 have c_b1:=b1.cells
 clear hO
 go_wp2_with fail
 clear c_b1
 refine rstepA (notes_wr _ _) hOh.out hK (write_r B p o1 S1 _ _ _ hP) ?_
 clear hOh hK hP
 intro u o2 S2 wn htm hlf hdn hnn hP hk hK hO
 replace hta:=htm hta
 replace hD:=Nat.lt_of_le_of_lt hlf hD
 replace hn0:S2.nts.length<=100001:=by omega
 replace b1:=b1.keep hk
 clear hk htm hnn hlf
 clear hdn
 obtain⟨F,hF⟩:∃ F:Int->Prog Int,F=bakIn D base N room loc m:=⟨_,rfl⟩
 rw [<- hF,Int.toNat_natCast] at hO
 have hOh:=Hd hO
 have hFh:=Hd hF
 clear hO hF
 go_upto_block 0 with fail
 go_cut [8] (fun s8 wx=>∃ (tv:Int) (o2:Bool) (S2:TS),s8=V Z tv/\RAt B wx p o2 S2/\KeepR B p w wx/\HeldR wx p z (.cells #[V Z alg,V Z N,V Z mode,V Z base,V Z loc,V Z room] 23)/\S2.left<D/\TameA S2/\S2.nts.length<=100001/\Hid (ROwes R encI B p w (F (tv-1)) o2 S2))
 case first =>
  go_wp2_with fail
  go_loopw [8,9,10] (fun u i v wr=>∃ (j:Nat) (tv:Int) (o2:Bool) (S2:TS),i=V Z j/\u=V Z tv/\j<=N/\(o2=false->1<=tv/\tv<=1048577)/\RAt B wr p o2 S2/\KeepR B p w wr/\HeldR wr p z (.cells #[V Z alg,V Z N,V Z mode,V Z base,V Z loc,V Z room] 23)/\S2.left<D/\TameA S2/\S2.nts.length<=100001/\Hid (ROwes R encI B p w ((forP (fun j t=>(rd (base+N+j)).bind fun x=>.ret (max t x)) (ranksFrom m (N-j) j) (tv-1)).bind F) o2 S2)) (fun _ i _ _=>N-(intOf i).toNat)
  case atStart=>exact⟨0,1,o2,S2,rfl,rfl,by omega,fun _=>by omega,hP,hK,b1,hD,hta,hn0,hOh⟩
  case round =>
   clear hP hK b1 hD hta hn0 hOh
   obtain⟨j,tv,o2,S2,rfl,rfl,hj,htv,hP,hK,b1,hD,hta,hn0,hOh⟩:=hrel
   by_cases hjN:j<N
   · have dj:decide ((j:Int)<(N:Int))=true:=by rw [decide_eq_true_eq];omega
     obtain⟨g,hg⟩:∃ g,N-j=g+1:=⟨N-j-1,by omega⟩
     by_cases hjm:j=m
     · subst hjm
       have djm:((j:Int) != (j:Int))=false:=by simp
       replace hO:=hOh.out
       rw [hg,ranks_skip,show g=N-(j+1) from by omega] at hO
       have hf:=Hd hO
       clear hO hOh hg
       go_wp2_with fail
       refine⟨⟨j+1,tv,o2,S2,by go_num,rfl,by omega,htv,hP,hK,b1,hD,hta,hn0,hf⟩,?_⟩
       simp [intOf];omega
     · have djm:((j:Int) != (m:Int))=true:=by rw [bne_iff_ne];omega
       have hw4:=IntWalk.i64_in (base+(N:Int)+(j:Int)) (by omega)
       replace hO:=hOh.out
       rw [hg,ranks_cons _ _ _ (by omega),bakMost_cons,show g=N-(j+1) from by omega] at hO
       clear hOh hg
       have hOh:=Hd hO
       have c_b1:=b1.cells
       clear hO
       go_wp2_with fail
       clear c_b1
       refine rstepA (notes_rd _) hOh.out hK (read_r B p o2 S2 _ _ hP) ?_
       clear hOh hK hP
       intro x o5 S5 wn htm hlf hdn hnn hP hk hK hO
       have hxb:o5=false->(1<=tv/\tv<=1048577)/\0<=x/\x<=1048576:=fun ho=>⟨htv (hdn ho).1,rd_bd hta (hdn ho).2.1⟩
       replace hta:=htm hta
       replace hD:=Nat.lt_of_le_of_lt hlf hD
       replace hn0:S5.nts.length<=100001:=by omega
       replace b1:=b1.keep hk
       clear hk htm hnn hlf hdn htv
       by_cases hc:tv<=x
       · have d2:decide (tv<=x)=true:=by rw [decide_eq_true_eq];exact hc
         have hf:Hid (ROwes R encI B p w ((forP (fun j t=>(rd (base+N+j)).bind fun x=>.ret (max t x)) (ranksFrom m (N-(j+1)) ((j:Int)+1)) (IntKind.i64.wrap (x+1)-1)).bind F) o5 S5):=by
          refine Hd ?_
          cases o5 with
          | true=>exact hO.any _
          | false =>
            obtain⟨_,hxb⟩:=hxb rfl
            rw [IntWalk.i64_in (x+1) (by omega),show x+1-1=x from by omega]
            rw [show max (tv-1) x=x from by omega] at hO
            exact hO
         have hb5:o5=false->1<=IntKind.i64.wrap (x+1)/\IntKind.i64.wrap (x+1)<=1048577:=fun ho=>by
          obtain⟨_,hxb⟩:=hxb ho
          rw [IntWalk.i64_in (x+1) (by omega)]
          omega
         clear hxb hc hO
         obtain⟨v,hv⟩:∃ v,IntKind.i64.wrap (x+1)=v:=⟨_,rfl⟩
         rw [hv] at hf hb5
         go_wp2_with fail
         refine⟨⟨j+1,v,o5,S5,by go_num,rfl,by omega,hb5,hP,hK,b1,hD,hta,hn0,hf⟩,?_⟩
         simp [intOf];omega
       · have d2:decide (tv<=x)=false:=by rw [decide_eq_false_iff_not];exact hc
         have hf:Hid (ROwes R encI B p w ((forP (fun j t=>(rd (base+N+j)).bind fun x=>.ret (max t x)) (ranksFrom m (N-(j+1)) ((j:Int)+1)) (tv-1)).bind F) o5 S5):=by
          refine Hd ?_
          cases o5 with
          | true=>exact hO.any _
          | false =>
            rw [show max (tv-1) x=tv-1 from by omega] at hO
            exact hO
         have hb5:o5=false->1<=tv/\tv<=1048577:=fun ho=>(hxb ho).1
         clear hxb hc hO
         go_wp2_with fail
         refine⟨⟨j+1,tv,o5,S5,by go_num,rfl,by omega,hb5,hP,hK,b1,hD,hta,hn0,hf⟩,?_⟩
         simp [intOf];omega
   · obtain rfl:N=j:=by omega
     have dj:decide ((N:Int)<(N:Int))=false:=by simp
     replace hO:=hOh.out
     rw [Nat.sub_self,ranks_zero,forP_nilB] at hO
     have hOh2:=Hd hO
     clear hO hOh htv
     go_wp2_with fail
     go_meet
     exact⟨tv,o2,S2,rfl,hP,hK,b1,hD,hta,hn0,hOh2⟩
 case rest =>
  clear hP hK b1 hD hta hn0 hOh
  obtain⟨tv,o2,S2,rfl,hP,hK,b1,hD,hta,hn0,hOh⟩:=hcut
  replace hO:=hOh.out
  rw [hFh.out] at hO
  unfold bakIn at hO
  rw [show tv-1+1=tv from by omega] at hO
  clear hOh
  have c_b1:=b1.cells
  by_cases hfull:room<tv
  · have df:decide (room<tv)=true:=by rw [decide_eq_true_eq];exact hfull
    rw [if_pos hfull] at hO
    have hOh:=Hd hO
    clear hO hfull
    go_wp2_with fail
    refine (room23_r alg N mode base loc room _ hro.1 hro.2).mono ?_
    rintro e w1 ⟨rfl,hx⟩
    clear c_b1
    replace hK:=hK.trans (Keep.of_ext hx hP.lt hP.le)
    replace b1:=b1.ext hx hP.lt
    replace hP:=hP.ext hx
    have c_b1:=b1.cells
    clear hx
    go_wp2_with fail
    clear c_b1
    refine rstepA (notes_wr _ _) hOh.out hK (write_r B p o2 S2 _ _ _ hP) ?_
    clear hOh hK hP
    intro u o3 S3 wn htm hlf hdn hnn hP hk hK hO
    replace hta:=htm hta
    replace hD:=Nat.lt_of_le_of_lt hlf hD
    replace hn0:S3.nts.length<=100001:=by omega
    replace b1:=b1.keep hk
    clear hk htm hnn hlf
    clear hdn
    have hOh:=Hd hO
    clear hO
    go_wp2_with fail
    refine rstepN (notes_nt 4) hOh.out hK (note_r B p o3 S3 4 _ hP (by unfold maxAns;omega)) ?_
    clear hOh hK hP
    intro u o7 S7 w7 _ _ _ hP _ hK hO
    have hf:R (.returned (encI 11)) w7:=hO.ret hP hK
    clear hO hP hK
    go_wp2_with fail
    first | exact hf | (go_ret;exact hf)
  · have df:decide (room<tv)=false:=by rw [decide_eq_false_iff_not];exact hfull
    rw [if_neg hfull] at hO
    have hOh:=Hd hO
    clear hO hfull
    go_wp2_with fail
    refine (room23_r alg N mode base loc room _ hro.1 hro.2).mono ?_
    rintro e w1 ⟨rfl,hx⟩
    clear c_b1
    replace hK:=hK.trans (Keep.of_ext hx hP.lt hP.le)
    replace b1:=b1.ext hx hP.lt
    replace hP:=hP.ext hx
    have c_b1:=b1.cells
    clear hx
    go_wp2_with fail
    clear c_b1
    refine rstepA (notes_wr _ _) hOh.out hK (write_r B p o2 S2 _ _ _ hP) ?_
    clear hOh hK hP
    intro u o3 S3 wn htm hlf hdn hnn hP hk hK hO
    replace hta:=htm hta
    replace hD:=Nat.lt_of_le_of_lt hlf hD
    replace hn0:S3.nts.length<=100001:=by omega
    replace b1:=b1.keep hk
    clear hk htm hnn hlf
    clear hdn
    have hOh:=Hd hO
    have c_b1:=b1.cells
    clear hO
    go_wp2_with fail
    clear c_b1
    refine rstepA (notes_st _ _) hOh.out hK (set_r B p o3 S3 _ _ _ hP) ?_
    clear hOh hK hP
    intro u o4 S4 wn htm hlf hdn hnn hP hk hK hO
    replace hta:=htm hta
    replace hD:=Nat.lt_of_le_of_lt hlf hD
    replace hn0:S4.nts.length<=100001:=by omega
    replace b1:=b1.keep hk
    clear hk htm hnn hlf
    clear hdn
    have hOh:=Hd hO
    have c_b1:=b1.cells
    clear hO
    go_wp2_with fail
    clear c_b1
    refine rstepA (notes_wr _ _) hOh.out hK (write_r B p o4 S4 _ _ _ hP) ?_
    clear hOh hK hP
    intro u o5 S5 wn htm hlf hdn hnn hP hk hK hO
    replace hta:=htm hta
    replace hD:=Nat.lt_of_le_of_lt hlf hD
    replace hn0:S5.nts.length<=100001:=by omega
    replace b1:=b1.keep hk
    clear hk htm hnn hlf
    clear hdn
    have hOh:=Hd hO
    have c_b1:=b1.cells
    clear hO
    go_wp2_with fail
    clear c_b1
    refine rstepA (notes_nt 2) hOh.out hK (note_r B p o5 S5 2 _ hP (by unfold maxAns;omega)) ?_
    clear hOh hK hP
    intro u o6 S6 wn htm hlf hdn hnn hP hk hK hO
    replace hta:=htm hta
    replace hD:=Nat.lt_of_le_of_lt hlf hD
    replace hn0:S6.nts.length<=100002:=by omega
    replace b1:=b1.keep hk
    clear hk htm hnn hlf
    clear hdn
    obtain⟨G,hG⟩:∃ G:Unit->Prog Int,G=fun _=>(nt 3).bind fun _=>.ret 0:=⟨_,rfl⟩
    rw [<- hG,Int.toNat_natCast] at hO
    have hOh:=Hd hO
    have hGh:=Hd hG
    clear hO hG
    go_wp2_with fail
    go_loopw [11] (fun i wr=>∃ (j:Nat) (o6:Bool) (S6:TS),i=V Z j/\j<=N/\RAt B wr p o6 S6/\KeepR B p w wr/\HeldR wr p z (.cells #[V Z alg,V Z N,V Z mode,V Z base,V Z loc,V Z room] 23)/\S6.left<D/\TameA S6/\S6.nts.length<=100002/\Hid (ROwes R encI B p w ((forP (fun j _=>bakFor D base N m tv j) (ranksFrom m (N-j) j) ()).bind G) o6 S6)) (fun i _=>N-(intOf i).toNat)
    case atStart=>exact⟨0,o6,S6,rfl,by omega,hP,hK,b1,hD,hta,hn0,hOh⟩
    case round =>
     clear hP hK b1 hD hta hn0 hOh
     obtain⟨j,o6,S6,rfl,hj,hP,hK,b1,hD,hta,hn0,hOh⟩:=hrel
     by_cases hjN:j<N
     · have dj:decide ((j:Int)<(N:Int))=true:=by rw [decide_eq_true_eq];omega
       obtain⟨g,hg⟩:∃ g,N-j=g+1:=⟨N-j-1,by omega⟩
       by_cases hjm:j=m
       · subst hjm
         have djm:((j:Int) != (j:Int))=false:=by simp
         replace hO:=hOh.out
         rw [hg,ranks_skip,show g=N-(j+1) from by omega] at hO
         have hf:=Hd hO
         clear hO hOh hg
         go_wp2_with fail
         refine⟨⟨j+1,o6,S6,by go_num,by omega,hP,hK,b1,hD,hta,hn0,hf⟩,?_⟩
         simp [intOf];omega
       · have djm:((j:Int) != (m:Int))=true:=by rw [bne_iff_ne];omega
         replace hO:=hOh.out
         rw [hg,ranks_cons _ _ _ (by omega),forP_consB,show g=N-(j+1) from by omega] at hO
         have hOh2:=Hd hO
         have c_b1:=b1.cells
         clear hO hOh hg
         go_wp2_with fail
         clear c_b1
         refine rstepA (notes_bakFor _ _ _ _ _ _) hOh2.out hK (bakwait_r B p N D m j o6 S6 alg mode base loc room tv _ hP h1 h2 hjN hba hD) ?_
         clear hOh2 hK hP
         intro u o7 S7 wn htm hlf hdn hnn hP hk hK hO
         replace hta:=htm hta
         replace hD:=Nat.lt_of_le_of_lt hlf hD
         replace hn0:S7.nts.length<=100002:=by omega
         replace b1:=b1.keep hk
         clear hk htm hnn hdn hlf
         have hf:=Hd hO
         clear hO
         go_wp2_with fail
         refine⟨⟨j+1,o7,S7,by go_num,by omega,hP,hK,b1,hD,hta,hn0,hf⟩,?_⟩
         simp [intOf];omega
     · obtain rfl:N=j:=by omega
       have dj:decide ((N:Int)<(N:Int))=false:=by simp
       replace hO:=hOh.out
       rw [Nat.sub_self,ranks_zero,forP_nilB,hGh.out] at hO
       have hOh2:=Hd hO
       clear hO hOh
       go_wp2_with fail
       refine rstepN (notes_nt 3) hOh2.out hK (note_r B p o6 S6 3 _ hP (by unfold maxAns;omega)) ?_
       clear hOh2 hK hP
       intro u o7 S7 w7 _ _ _ hP _ hK hO
       have hf:R (.returned (encI 0)) w7:=hO.ret hP hK
       clear hO hP hK
       go_wp2_with fail
       first | exact hf | (go_ret;exact hf)
set_option maxRecDepth 100000 in
theorem bakrel_r (B p N:Nat)(o:Bool)(S:TS)(alg mode base loc room:Int)(m:Nat)(w:World)(h:RAt B w p o S)(h1:1<=N)(h2:N<=8)(hm1:m<N)(hba:0<=base/\base<=32768)(hn0:S.nts.length<=100000) :
  Calls Tryz.prog 115 #[.pointer (some ⟨p,0,none⟩),.agg #[V Z alg,V Z N,V Z mode,V Z base,V Z loc,V Z room],V Z m] w (RPost encU B p w (bakR base N loc m) o S):=by
 generalize hR:RPost encU B p w (bakR base N loc m) o S=R
 have hO:ROwes R encU B p w (bakR base N loc m) o S:=hR▸rowes _ _ _ _ _ _ _
 clear hR
 obtain⟨b1,hK,hP⟩:=h.entry (.cells #[V Z alg,V Z N,V Z mode,V Z base,V Z loc,V Z room] 23)
 have c_b1:=b1.cells
 clear h
 unfold bakR at hO
 have hw1:=IntWalk.i64_in (base+(N:Int)) (by omega)
 have hw3:=IntWalk.i64_in (base+(N:Int)+(m:Int)) (by omega)
 have hOh:=Hd hO
 clear hO
 go_enter Tryz.func115,Tryz.ntmps115
 go_wp2_with fail
 clear c_b1
 generalize w.heap.size=z at *
 refine rstepN (notes_nt 5) hOh.out hK (note_r B p o S 5 _ hP (by unfold maxAns;omega)) ?_
 clear hOh hK hP
 intro u o1 S1 w1 _ _ _ hP hk hK hO
 replace b1:=b1.keep hk
 clear hk
 go_wp2_with fail
 replace hP:=hP.drew
 replace hK:=hK.drew
 replace b1:=b1.drew
 have c_b1:=b1.cells
 go_region_held2 (fun w'=>∀ i:Nat,w'.cell? ⟨z,i,none⟩=(#[V Z alg,V Z N,V Z mode,V Z base,V Z loc,V Z room]:Array Value)[i]?) (first | with_reducible exact c_b1 | go_keep)
  (first
    | (go_at_call 106
       refine (n23_r alg mode base loc room N _ h1 h2).mono ?_
       rintro e w2 ⟨rfl,hx⟩
       clear c_b1
       replace hK:=hK.trans (Keep.of_ext hx hP.lt hP.le)
       replace b1:=b1.ext hx hP.lt
       have c_b1:=b1.cells
       replace hP:=hP.ext hx
       clear hx)
    | (go_at_call 135
       refine rstepN (notes_wr _ _) hO hK (write_r B p o1 S1 _ _ _ hP) ?_
       clear hO hK hP c_b1
       intro u o2 S2 w2 _ _ _ hP hk hK hO
       replace b1:=b1.keep hk
       have c_b1:=b1.cells
       clear hk))
 have hOh:=Hd hO
 clear hO
 go_wp2_with fail
 clear c_b1
 refine rlast hOh.out hK (set_r B p o2 S2 _ _ _ hP) ?_
 clear hOh hK hP
 intro u o3 S3 w3 hP hk hK hO
 have hf:R (.returned (encU ())) w3:=hO.ret hP hK
 clear hO hP hK hk b1
 go_wp2_with fail
 first | exact hf | (refine bodyPost_ret (results_none rfl _ _ _) rfl ?_;exact hf)
set_option maxRecDepth 100000 in
set_option maxHeartbeats 1000000 in
theorem zero24_r (B p D:Nat)(o:Bool)(S:TS)(c:Int)(w:World)(h:RAt B w p o S)(hD:S.left<D) :
  Calls Tryz.prog 200 #[.pointer (some ⟨p,0,none⟩),V Z c] w (RPost encU B p w (zeroC c D) o S):=by
 generalize hR:RPost encU B p w (zeroC c D) o S=R
 have hO:ROwes R encU B p w (zeroC c D) o S:=hR▸rowes _ _ _ _ _ _ _
 clear hR
 have hK:=Keep.refl [3,4,5] B p w
 have hP:=h
 clear h
 have hOh:=Hd hO
 clear hO
 go_enter Tryz.func200,Tryz.ntmps200
 go_wp2_with fail
 go_loopw [] (fun wr=>∃ (n:Nat) (o2:Bool) (S2:TS),RAt B wr p o2 S2/\KeepR B p w wr/\Hid (ROwes R encU B p w (zeroC c n) o2 S2)/\(o2=false->S2.left<n)) (fun wr=>leftR wr p)
 case atStart=>exact⟨D,o,S,hP,hK,hOh,fun _=>hD⟩
 case round =>
  clear hP hK hOh hD
  obtain⟨n,o2,S2,hP,hK,hOh,hn⟩:=hrel
  have hlw:=Hd hP.leftR
  obtain⟨_,_,_,_,_,hcc⟩:=hP.cell
  cases o2 with
  | true =>
    have hf:R (.returned (encU ())) wr:=hOh.out.over () hP hK
    clear hOh hK hn hlw
    go_wp2_with fail
    first | exact hf | (refine bodyPost_ret (results_none rfl _ _ _) rfl ?_;exact hf)
  | false =>
    have hn1:=hn rfl
    clear hn
    cases n with
    | zero=>omega
    | succ n =>
      replace hO:=hOh.out
      rw [<- Prog.bind_id (zeroC _ _),zeroC_bind] at hO
      clear hOh
      have hOh:=Hd hO
      clear hO
      go_wp2_with fail
      clear hcc
      refine rstepA (notes_rd _) hOh.out hK (read_r B p false S2 _ _ hP) ?_
      clear hOh hK hP
      intro x o3 S3 w3 _ hlf hdn _ hP hk hK hO
      clear hk
      have hn3:o3=false->S3.left<n:=fun ho=>by have:=(hdn ho).2.2 (asks_rd _);omega
      have hlw2:=Hd hP.leftR
      have hdec:o3=false->S3.left<S2.left:=fun ho=>(hdn ho).2.2 (asks_rd _)
      clear hdn
      rw [Prog.bind_id] at hO
      by_cases hx:x=0
      · have dx:(x==0)=true:=by simpa using hx
        rw [if_pos hx] at hO
        have hf:R (.returned (encU ())) w3:=hO.ret hP hK
        clear hO hP hK hx hlw hlw2
        go_wp2_with fail
        first | exact hf | (refine bodyPost_ret (results_none rfl _ _ _) rfl ?_;exact hf)
      · have dx:(x==0)=false:=by simpa using hx
        rw [if_neg hx] at hO
        have hOh:=Hd hO
        clear hO hx
        go_wp2_with fail
        refine⟨⟨n,o3,S3,hP,hK,hOh,hn3⟩,?_⟩
        rw [hlw.out,hlw2.out]
        cases o3 with
        | true=>simp;omega
        | false=>have:=hdec rfl;simp;omega
set_option maxRecDepth 100000 in
set_option maxHeartbeats 4000000 in
theorem oneacq_r (B p N D:Nat)(o:Bool)(S:TS)(alg mode base loc room:Int)(m:Nat)(w:World)(h:RAt B w p o S)(h1:1<=N)(h2:N<=8)(hm1:m<N)(hba:0<=base/\base<=32768)
  (hD:S.left<D)(hn0:S.nts.length<=100000) :
  Calls Tryz.prog 109 #[.pointer (some ⟨p,0,none⟩),.agg #[V Z alg,V Z N,V Z mode,V Z base,V Z loc,V Z room],V Z m] w (RPost encI B p w (oneA D base N m) o S):=by
 generalize hR:RPost encI B p w (oneA D base N m) o S=R
 have hO:ROwes R encI B p w (oneA D base N m) o S:=hR▸rowes _ _ _ _ _ _ _
 clear hR
 obtain⟨b1,hK,hP⟩:=h.entry (.cells #[V Z alg,V Z N,V Z mode,V Z base,V Z loc,V Z room] 23)
 have c_b1:=b1.cells
 clear h
 unfold oneA at hO
 have hw2:=IntWalk.i64_in (base+(m:Int)) (by omega)
 obtain⟨F,hF⟩:∃ F:Unit->Prog Int,F=fun _=>(nt 2).bind fun _=>(forP (fun j _=>zeroC (base+j) D) (ranksFrom (-1) (N-1-m) ((m:Int)+1)) ()).bind fun _=>(nt 3).bind fun _=>.ret 0:=⟨_,rfl⟩
 rw [<- hF] at hO
 have hFh:=Hd hF
 have hOh:=Hd hO
 clear hO hF
 go_enter Tryz.func109,Tryz.ntmps109
 go_wp2_with fail
 clear c_b1
 generalize w.heap.size=z at *
 refine rstepA (notes_nt 1) hOh.out hK (note_r B p o S 1 _ hP (by unfold maxAns;omega)) ?_
 clear hOh hK hP
 intro u o1 S1 wn htm hlf hdn hnn hP hk hK hO
 replace hD:=Nat.lt_of_le_of_lt hlf hD
 replace hn0:S1.nts.length<=100001:=by omega
 replace b1:=b1.keep hk
 clear hk htm hnn
 clear hdn hlf
 have hOh:=Hd hO
 clear hO
 have c_b1:=b1.cells
 go_wp2_with fail
 clear c_b1
 refine rstepA (notes_wr _ _) hOh.out hK (write_r B p o1 S1 _ _ _ hP) ?_
 clear hOh hK hP
 intro u o2 S2 wn htm hlf hdn hnn hP hk hK hO
 replace hD:=Nat.lt_of_le_of_lt hlf hD
 replace hn0:S2.nts.length<=100001:=by omega
 replace b1:=b1.keep hk
 clear hk htm hnn
 clear hdn hlf
 have hOh:=Hd hO
 clear hO
 go_upto_block 0 with fail
 go_cut [] (fun wx=>∃ (o2:Bool) (S2:TS),RAt B wx p o2 S2/\KeepR B p w wx/\HeldR wx p z (.cells #[V Z alg,V Z N,V Z mode,V Z base,V Z loc,V Z room] 23)/\S2.left<D/\S2.nts.length<=100001/\Hid (ROwes R encI B p w (F ()) o2 S2))
 case first =>
  go_wp2_with fail
  go_loopw [7] (fun i wr=>∃ (j k:Nat) (o2:Bool) (S2:TS),i=V Z j/\j<=m/\RAt B wr p o2 S2/\KeepR B p w wr/\HeldR wr p z (.cells #[V Z alg,V Z N,V Z mode,V Z base,V Z loc,V Z room] 23)/\S2.left<D/\S2.nts.length<=100001/\(o2=false->S2.left<k)/\Hid (ROwes R encI B p w ((oneUp D base m k j).bind F) o2 S2)) (fun _ wr=>leftR wr p)
  case atStart=>exact⟨0,D,o2,S2,rfl,by omega,hP,hK,b1,hD,hn0,fun _=>hD,hOh⟩
  case round =>
   clear hP hK b1 hD hn0 hOh
   obtain⟨j,k,o2,S2,rfl,hj,hP,hK,b1,hD,hn0,hkk,hOh⟩:=hrel
   have hlw:=Hd hP.leftR
   obtain⟨_,_,_,_,_,hcc⟩:=hP.cell
   by_cases hjm:j<m
   · have dj:decide (j<m)=true:=by rw [decide_eq_true_eq];exact hjm
     have hw4:=IntWalk.i64_in (base+(j:Int)) (by omega)
     cases o2 with
     | true =>
       have hf:=Hd (hOh.out.any (F ()))
       clear hOh hkk
       go_wp2_with fail
       go_meet
       exact⟨true,S2,hP,hK,b1,hD,hn0,hf⟩
     | false =>
       have hk1:=hkk rfl
       clear hkk
       cases k with
       | zero=>omega
       | succ k =>
         replace hO:=hOh.out
         rw [oneUp_lt D base m k j hjm] at hO
         clear hOh
         have hOh:=Hd hO
         clear hO
         have c_b1:=b1.cells
         go_wp2_with fail
         clear c_b1 hcc
         refine rstepA (notes_rd _) hOh.out hK (read_r B p false S2 _ _ hP) ?_
         clear hOh hK hP
         intro x o3 S3 wn htm hlf hdn hnn hP hk hK hO
         replace hD:=Nat.lt_of_le_of_lt hlf hD
         replace hn0:S3.nts.length<=100001:=by omega
         replace b1:=b1.keep hk
         clear hk htm hnn
         have hk3:o3=false->S3.left<k:=fun ho=>by have:=(hdn ho).2.2 (asks_rd _);omega
         have hdec:o3=false->S3.left<S2.left:=fun ho=>(hdn ho).2.2 (asks_rd _)
         clear hdn
         by_cases hx:x=0
         · have dx:(x==0)=true:=by simpa using hx
           rw [if_pos hx] at hO
           have hOh:=Hd hO
           have hlw2:=Hd hP.leftR
           clear hO hx
           go_wp2_with fail
           refine⟨⟨j+1,k,o3,S3,by go_num,by omega,hP,hK,b1,hD,hn0,hk3,hOh⟩,?_⟩
           rw [hlw.out,hlw2.out]
           cases o3 with
           | true=>simp;omega
           | false=>have:=hdec rfl;simp;omega
         · have dx:(x==0)=false:=by simpa using hx
           rw [if_neg hx] at hO
           have hOh:=Hd hO
           have c_b1:=b1.cells
           clear hO hx
           go_wp2_with fail
           clear c_b1
           have hlf3:=hlf
           clear hlf
           refine rstepA (notes_wr _ _) hOh.out hK (write_r B p o3 S3 _ _ _ hP) ?_
           clear hOh hK hP
           intro u o4 S4 wn htm hlf hdn hnn hP hk hK hO
           replace hD:=Nat.lt_of_le_of_lt hlf hD
           replace hn0:S4.nts.length<=100001:=by omega
           replace b1:=b1.keep hk
           clear hk htm hnn
           have ho43:o4=false->o3=false:=fun ho=>(hdn ho).1
           have hlf4:=hlf
           clear hdn hlf
           have hOh:=Hd hO
           have c_b1:=b1.cells
           clear hO
           go_wp2_with fail
           clear c_b1
           refine rstepA (notes_zeroC _ _) hOh.out hK (zero24_r B p D o4 S4 _ _ hP hD) ?_
           clear hOh hK hP
           intro u o5 S5 wn htm hlf hdn hnn hP hk hK hO
           replace hD:=Nat.lt_of_le_of_lt hlf hD
           replace hn0:S5.nts.length<=100001:=by omega
           replace b1:=b1.keep hk
           clear hk htm hnn
           have ho54:o5=false->o4=false:=fun ho=>(hdn ho).1
           have hlf5:=hlf
           clear hdn hlf
           have hOh:=Hd hO
           have c_b1:=b1.cells
           clear hO
           go_wp2_with fail
           clear c_b1
           refine rstepA (notes_wr _ _) hOh.out hK (write_r B p o5 S5 _ _ _ hP) ?_
           clear hOh hK hP
           intro u o6 S6 wn htm hlf hdn hnn hP hk hK hO
           replace hD:=Nat.lt_of_le_of_lt hlf hD
           replace hn0:S6.nts.length<=100001:=by omega
           replace b1:=b1.keep hk
           clear hk htm hnn
           have ho65:o6=false->o5=false:=fun ho=>(hdn ho).1
           have hk6:o6=false->S6.left<k/\S6.left<S2.left:=fun ho=>by
            have q1:=hk3 (ho43 (ho54 (ho65 ho)))
            have q2:=hdec (ho43 (ho54 (ho65 ho)))
            omega
           have hl6:S6.left<=S2.left:=by omega
           clear hdn hlf hk3 hdec ho43 ho54 ho65 hlf3 hlf4 hlf5
           have hlw2:=Hd hP.leftR
           have hOh:=Hd hO
           clear hO
           go_wp2_with fail
           refine⟨⟨0,k,o6,S6,rfl,by omega,hP,hK,b1,hD,hn0,fun ho=>(hk6 ho).1,hOh⟩,?_⟩
           rw [hlw.out,hlw2.out]
           cases o6 with
           | true=>simp;omega
           | false=>have:=hk6 rfl;simp;omega
   · obtain rfl:m=j:=by omega
     have dj:decide (m<m)=false:=by simp
     replace hO:=hOh.out
     rw [oneUp_ge D base m k] at hO
     have hf:=Hd hO
     clear hO hOh hkk hcc
     go_wp2_with fail
     go_meet
     exact⟨o2,S2,hP,hK,b1,hD,hn0,hf⟩
 case rest =>
  clear hP hK b1 hD hn0 hOh
  obtain⟨o2,S2,hP,hK,b1,hD,hn0,hOh⟩:=hcut
  replace hO:=hOh.out
  rw [hFh.out] at hO
  clear hOh
  have hOh:=Hd hO
  clear hO
  go_wp2_with fail
  refine rstepA (notes_nt 2) hOh.out hK (note_r B p o2 S2 2 _ hP (by unfold maxAns;omega)) ?_
  clear hOh hK hP
  intro u o3 S3 wn htm hlf hdn hnn hP hk hK hO
  replace hD:=Nat.lt_of_le_of_lt hlf hD
  replace hn0:S3.nts.length<=100002:=by omega
  replace b1:=b1.keep hk
  clear hk htm hnn
  clear hdn hlf
  obtain⟨G,hG⟩:∃ G:Unit->Prog Int,G=fun _=>(nt 3).bind fun _=>.ret 0:=⟨_,rfl⟩
  rw [<- hG] at hO
  have hOh:=Hd hO
  have hGh:=Hd hG
  clear hO hG
  have hl0:Hid (∀ L:Nat,L=N-1-m->m+1+L=N):=Hd (fun L h=>by omega)
  obtain⟨L,hL⟩:∃ L,L=N-1-m:=⟨_,rfl⟩
  have hLN:=hl0.out L hL
  rw [<- hL] at hOh
  clear hl0 hL
  have hLh:=Hd hLN
  clear hLN
  have hw3:=IntWalk.i64_in ((m:Int)+1) (by omega)
  go_wp2_with fail
  go_loopw [8] (fun i wr=>∃ (q:Nat) (o2:Bool) (S2:TS),i=V Z ((m:Int)+1+q)/\q<=L/\RAt B wr p o2 S2/\KeepR B p w wr/\HeldR wr p z (.cells #[V Z alg,V Z N,V Z mode,V Z base,V Z loc,V Z room] 23)/\S2.left<D/\S2.nts.length<=100002/\Hid (ROwes R encI B p w ((forP (fun j _=>zeroC (base+j) D) (ranksFrom (-1) (L-q) ((m:Int)+1+q)) ()).bind G) o2 S2)) (fun i _=>N-(intOf i).toNat)
  case atStart=>exact⟨0,o3,S3,by simp,by omega,hP,hK,b1,hD,hn0,by simpa using hOh⟩
  case round =>
   clear hP hK b1 hD hn0 hOh
   obtain⟨q,o2,S2,rfl,hq,hP,hK,b1,hD,hn0,hOh⟩:=hrel
   have c_b1:=b1.cells
   go_wp2_with fail
   refine (n23_r alg mode base loc room N _ h1 h2).mono ?_
   rintro e w1 ⟨rfl,hx⟩
   clear c_b1
   replace hK:=hK.trans (Keep.of_ext hx hP.lt hP.le)
   replace b1:=b1.ext hx hP.lt
   replace hP:=hP.ext hx
   clear hx
   have c_b1:=b1.cells
   by_cases hqL:q<L
   · have dq:decide ((m:Int)+1+(q:Int)<(N:Int))=true:=by rw [decide_eq_true_eq];have:=hLh.out;omega
     have hw5:=IntWalk.i64_in (base+((m:Int)+1+(q:Int))) (by have:=hLh.out;omega)
     have hw6:=IntWalk.i64_in ((m:Int)+1+(q:Int)+1) (by have:=hLh.out;omega)
     obtain⟨g,hg⟩:∃ g,L-q=g+1:=⟨L-q-1,by omega⟩
     replace hO:=hOh.out
     rw [hg,ranks_cons _ _ _ (by omega),forP_consB,show g=L-(q+1) from by omega] at hO
     clear hOh
     have hOh:=Hd hO
     clear hO hg
     go_wp2_with fail
     clear c_b1
     refine rstepA (notes_zeroC _ _) hOh.out hK (zero24_r B p D o2 S2 _ _ hP hD) ?_
     clear hOh hK hP
     intro u o5 S5 wn htm hlf hdn hnn hP hk hK hO
     replace hD:=Nat.lt_of_le_of_lt hlf hD
     replace hn0:S5.nts.length<=100002:=by omega
     replace b1:=b1.keep hk
     clear hk htm hnn
     clear hdn hlf
     have hf:=Hd hO
     clear hO
     go_wp2_with fail
     refine⟨⟨q+1,o5,S5,by go_num,by omega,hP,hK,b1,hD,hn0,?_⟩,?_⟩
     · rw [show (m:Int)+1+((q+1:Nat):Int)=(m:Int)+1+q+1 from by omega]
       exact hf
     · simp [intOf];have:=hLh.out;omega
   · obtain rfl:q=L:=by omega
     have dq:decide ((m:Int)+1+(q:Int)<(N:Int))=false:=by rw [decide_eq_false_iff_not];have:=hLh.out;omega
     replace hO:=hOh.out
     rw [Nat.sub_self,ranks_zero,forP_nilB,hGh.out] at hO
     have hOh2:=Hd hO
     clear hO hOh c_b1
     go_wp2_with fail
     refine rstepN (notes_nt 3) hOh2.out hK (note_r B p o2 S2 3 _ hP (by unfold maxAns;omega)) ?_
     clear hOh2 hK hP
     intro u o7 S7 w7 _ _ _ hP _ hK hO
     have hf:R (.returned (encI 0)) w7:=hO.ret hP hK
     clear hO hP hK
     go_wp2_with fail
     first | exact hf | (go_ret;exact hf)
theorem onerel_r (B p N:Nat)(o:Bool)(S:TS)(alg mode base loc room:Int)(m:Nat)(w:World)(h:RAt B w p o S)(h2:N<=8)(hm1:m<N)(hba:0<=base/\base<=32768)(hn0:S.nts.length<=100000) :
  Calls Tryz.prog 116 #[.pointer (some ⟨p,0,none⟩),.agg #[V Z alg,V Z N,V Z mode,V Z base,V Z loc,V Z room],V Z m] w (RPost encU B p w (oneR base m) o S):=by
 generalize hR:RPost encU B p w (oneR base m) o S=R
 have hO:ROwes R encU B p w (oneR base m) o S:=hR▸rowes _ _ _ _ _ _ _
 clear hR
 obtain⟨b1,hK,hP⟩:=h.entry (.cells #[V Z alg,V Z N,V Z mode,V Z base,V Z loc,V Z room] 23)
 have c_b1:=b1.cells
 clear h
 unfold oneR at hO
 have hw2:=IntWalk.i64_in (base+(m:Int)) (by omega)
 have hOh:=Hd hO
 clear hO
 go_enter Tryz.func116,Tryz.ntmps116
 go_wp2_with fail
 clear c_b1
 generalize w.heap.size=z at *
 refine rstepN (notes_nt 5) hOh.out hK (note_r B p o S 5 _ hP (by unfold maxAns;omega)) ?_
 clear hOh hK hP
 intro u o1 S1 w1 _ _ _ hP hk hK hO
 replace b1:=b1.keep hk
 clear hk
 have c_b1:=b1.cells
 have hOh:=Hd hO
 clear hO
 go_wp2_with fail
 clear c_b1
 refine rlast hOh.out hK (write_r B p o1 S1 _ _ _ hP) ?_
 clear hOh hK hP
 intro u o3 S3 w3 hP hk hK hO
 have hf:R (.returned (encU ())) w3:=hO.ret hP hK
 clear hO hP hK hk b1
 go_wp2_with fail
 first | exact hf | (refine bodyPost_ret (results_none rfl _ _ _) rfl ?_;exact hf)
theorem alg_casesR {alg:Int}(h:1<=alg/\alg<=8):alg=1∨alg=2∨alg=3∨alg=4∨alg=5∨alg=6∨alg=7∨alg=8:=by omega
set_option maxRecDepth 100000 in
theorem lkacq_r (B p N D:Nat)(o:Bool)(S:TS)(alg mode base loc room:Int)(m:Nat)(rs:List Reg)(w:World)(h:RAt B w p o S)(hk:LkOk alg N mode base loc room rs)(hm:m<N)(hN:¬ (N=1/\mode=2))(hta:TameA S)(hD:S.left<D)(hn0:S.nts.length<=100000) :
  Calls Tryz.prog 28 #[.pointer (some ⟨p,0,none⟩),.agg #[V Z alg,V Z N,V Z mode,V Z base,V Z loc,V Z room],V Z m] w (RPost encI B p w (lkA D alg N base loc room rs m) o S):=by
 have hal:=hk.halg
 generalize hR:RPost encI B p w (lkA D alg N base loc room rs m) o S=R
 have hO:ROwes R encI B p w (lkA D alg N base loc room rs m) o S:=hR▸rowes _ _ _ _ _ _ _
 clear hR
 obtain⟨b1,hK,hP⟩:=h.entry (.cells #[V Z alg,V Z N,V Z mode,V Z base,V Z loc,V Z room] 23)
 have c_b1:=b1.cells
 clear h
 rcases alg_casesR hal with rfl | rfl | rfl | rfl | rfl | rfl | rfl | rfl
 have hq:=fun W hP=>bakacq_r B p N D o S 1 mode base loc room m W hP hk.hn.1 hk.hn.2 hm hk.hbase hk.hroom hta hD hn0
 replace hq:=Hd hq
 clear hk hal
 rotate_left
 have hq:=fun W hP=>oneacq_r B p N D o S 2 mode base loc room m W hP hk.hn.1 hk.hn.2 hm hk.hbase hD hn0
 replace hq:=Hd hq
 clear hk hal
 rotate_left
 have hl:layM (bwWants N) N mode base loc=some rs:=hk.hlay (by decide)
 have hq:=fun W hP=>bwacq_r B p N D o S 3 mode base loc room m rs W hP hk.hn.1 hk.hn.2 hm hl hk.hloc (laid_all hl) (bw_told hl) hta hD hn0
 replace hq:=Hd hq
 clear hk hl hal
 rotate_left
 have hl:layM (filWants N) N mode base loc=some rs:=hk.hlay (by decide)
 have hq:=fun W hP=>filacq_r B p N D o S 4 mode base loc room m rs W hP hk.hn.1 hk.hn.2 hm hl (laid_all hl) (fil_told hl) hD hn0
 replace hq:=Hd hq
 clear hk hl hal
 rotate_left
 have hl:layM (fastWants N) N mode base loc=some rs:=hk.hlay (by decide)
 obtain⟨Zq,z1,z2,z3⟩:=fast_hz (m:=m) (D:=D) hl hm
 have hq:=fun W hP=>fastacq_r B p N D o S 5 mode base loc room m rs W hP hk.hn.1 hk.hn.2 hm hl (laid_all hl) (fast_told hl hN) hD hn0 Zq z1 z2 z3
 replace hq:=Hd hq
 clear hk hl z1 z2 z3 hal
 rotate_left
 have hl:layM (treeWants (eachK 6) N) N mode base loc=some rs:=hk.hlay (by decide)
 have hq:=fun W hP=>treeacq_r B p N D o S 6 mode base loc room m rs W hP hk.hn.1 (by have:=hk.hn.2;omega) hm hl (tree_all hl hm) hD hn0
 replace hq:=Hd hq
 clear hk hl hal
 rotate_left
 have hl:layM (treeWants (eachK 7) N) N mode base loc=some rs:=hk.hlay (by decide)
 have hq:=fun W hP=>treeacq_r B p N D o S 7 mode base loc room m rs W hP hk.hn.1 (by have:=hk.hn.2;omega) hm hl (tree_all hl hm) hD hn0
 replace hq:=Hd hq
 clear hk hl hal
 rotate_left
 have hl:layM (adWants N) N mode base loc=some rs:=hk.hlay (by decide)
 have hq:=fun W hP=>adacq_r B p N D o S 8 mode base loc room m rs W hP hk.hn.1 hk.hn.2 hm hl hk.hloc (laid_all hl) (ad_told hl hk.hn.1) hD hn0
 replace hq:=Hd hq
 clear hk hl hal
 rotate_left
 all_goals
  go_enter Tryz.func28,Tryz.ntmps28
  go_wp2_with fail
  refine rlast hO hK (hq.out _ hP) ?_
  clear hO hK hP hq c_b1
  intro u o9 S9 w9 hP hk9 hK hO
  have hf:R (.returned (encI u)) w9:=hO.ret hP hK
  clear hO hP hK hk9
  go_wp2_with fail
  first | exact hf | (refine bodyPost_ret (results_none rfl _ _ _) rfl ?_;exact hf) | (go_ret;exact hf)
set_option maxRecDepth 100000 in
theorem lkrel_r (B p N:Nat)(o:Bool)(S:TS)(alg mode base loc room:Int)(m:Nat)(rs:List Reg)(w:World)(h:RAt B w p o S)(hk:LkOk alg N mode base loc room rs)(hm:m<N)(hn0:S.nts.length<=100000) :
  Calls Tryz.prog 32 #[.pointer (some ⟨p,0,none⟩),.agg #[V Z alg,V Z N,V Z mode,V Z base,V Z loc,V Z room],V Z m] w (RPost encU B p w (lkR alg N base loc rs m) o S):=by
 have hal:=hk.halg
 generalize hR:RPost encU B p w (lkR alg N base loc rs m) o S=R
 have hO:ROwes R encU B p w (lkR alg N base loc rs m) o S:=hR▸rowes _ _ _ _ _ _ _
 clear hR
 obtain⟨b1,hK,hP⟩:=h.entry (.cells #[V Z alg,V Z N,V Z mode,V Z base,V Z loc,V Z room] 23)
 have c_b1:=b1.cells
 clear h
 rcases alg_casesR hal with rfl | rfl | rfl | rfl | rfl | rfl | rfl | rfl
 have hq:=fun W hP=>bakrel_r B p N o S 1 mode base loc room m W hP hk.hn.1 hk.hn.2 hm hk.hbase hn0
 replace hq:=Hd hq
 clear hk hal
 rotate_left
 have hq:=fun W hP=>onerel_r B p N o S 2 mode base loc room m W hP hk.hn.2 hm hk.hbase hn0
 replace hq:=Hd hq
 clear hk hal
 rotate_left
 have hl:layM (bwWants N) N mode base loc=some rs:=hk.hlay (by decide)
 have hq:=fun W hP=>bwrel_r B p N o S 3 mode base loc room m rs W hP hk.hn.1 hk.hn.2 hm hl hk.hloc (laid_all hl) hn0
 replace hq:=Hd hq
 clear hk hl hal
 rotate_left
 have hl:layM (filWants N) N mode base loc=some rs:=hk.hlay (by decide)
 have hq:=fun W hP=>filrel_r B p N o S 4 mode base loc room m rs W hP hk.hn.1 hk.hn.2 hm hl (laid_all hl) hn0
 replace hq:=Hd hq
 clear hk hl hal
 rotate_left
 have hl:layM (fastWants N) N mode base loc=some rs:=hk.hlay (by decide)
 have hq:=fun W hP=>fastrel_r B p N o S 5 mode base loc room m rs W hP hk.hn.1 hk.hn.2 hm hl (laid_all hl) hn0
 replace hq:=Hd hq
 clear hk hl hal
 rotate_left
 have hl:layM (treeWants (eachK 6) N) N mode base loc=some rs:=hk.hlay (by decide)
 have hq:=fun W hP=>treerel_r B p N o S 6 mode base loc room m rs W hP hk.hn.1 (by have:=hk.hn.2;omega) hm hl (tree_all hl hm) hn0
 replace hq:=Hd hq
 clear hk hl hal
 rotate_left
 have hl:layM (treeWants (eachK 7) N) N mode base loc=some rs:=hk.hlay (by decide)
 have hq:=fun W hP=>treerel_r B p N o S 7 mode base loc room m rs W hP hk.hn.1 (by have:=hk.hn.2;omega) hm hl (tree_all hl hm) hn0
 replace hq:=Hd hq
 clear hk hl hal
 rotate_left
 have hl:layM (adWants N) N mode base loc=some rs:=hk.hlay (by decide)
 have hq:=fun W hP=>adrel_r B p N o S 8 mode base loc room m rs W hP hk.hn.1 hk.hn.2 hm hl hk.hloc (laid_all hl) (ad_told hl hk.hn.1) hn0
 replace hq:=Hd hq
 clear hk hl hal
 rotate_left
 all_goals
  go_enter Tryz.func32,Tryz.ntmps32
  go_wp2_with fail
  refine rlast hO hK (hq.out _ hP) ?_
  clear hO hK hP hq c_b1
  intro u o9 S9 w9 hP hk9 hK hO
  have hf:R (.returned (encU u)) w9:=hO.ret hP hK
  clear hO hP hK hk9
  go_wp2_with fail
  first | exact hf | (refine bodyPost_ret (results_none rfl _ _ _) rfl ?_;exact hf) | (go_ret;exact hf)
set_option maxRecDepth 100000 in
theorem lkw3 (N:Nat)(mode base loc room:Int)(w:World)(h1:1<=N)(h2:N<=8):Calls Tryz.prog 100 #[.agg #[V Z 3,V Z N,V Z mode,V Z base,V Z loc,V Z room]] w fun e w'=>∃ v,e=.returned v/\WantsAt w' v (bwWants N)/\Ext w w':=by
 have hX:=Ext.refl w
 have b1:=Blk.new w (.cells #[V Z 3,V Z N,V Z mode,V Z base,V Z loc,V Z room] 23)
 replace hX:=hX.alloc (.cells #[V Z 3,V Z N,V Z mode,V Z base,V Z loc,V Z room] 23)
 have c_b1:=b1.cells
 go_enter Tryz.func100,Tryz.ntmps100
 go_wp2_with fail
 refine (bwwants_r N _ h1 h2).mono ?_
 rintro e w2 ⟨v,rfl,hv,hx⟩
 have hf:=Hd (And.intro hv (hX.trans hx))
 clear hv hx c_b1
 go_wp2_with fail
 go_ret
 exact⟨_,rfl,hf.out.1,hf.out.2⟩
set_option maxRecDepth 100000 in
theorem lkw4 (N:Nat)(mode base loc room:Int)(w:World)(h1:1<=N)(h2:N<=8):Calls Tryz.prog 100 #[.agg #[V Z 4,V Z N,V Z mode,V Z base,V Z loc,V Z room]] w fun e w'=>∃ v,e=.returned v/\WantsAt w' v (filWants N)/\Ext w w':=by
 have hX:=Ext.refl w
 have b1:=Blk.new w (.cells #[V Z 4,V Z N,V Z mode,V Z base,V Z loc,V Z room] 23)
 replace hX:=hX.alloc (.cells #[V Z 4,V Z N,V Z mode,V Z base,V Z loc,V Z room] 23)
 have c_b1:=b1.cells
 go_enter Tryz.func100,Tryz.ntmps100
 go_wp2_with fail
 refine (filwants_r N _ h1 h2).mono ?_
 rintro e w2 ⟨v,rfl,hv,hx⟩
 have hf:=Hd (And.intro hv (hX.trans hx))
 clear hv hx c_b1
 go_wp2_with fail
 go_ret
 exact⟨_,rfl,hf.out.1,hf.out.2⟩
set_option maxRecDepth 100000 in
theorem lkw5 (N:Nat)(mode base loc room:Int)(w:World)(h1:1<=N)(h2:N<=8):Calls Tryz.prog 100 #[.agg #[V Z 5,V Z N,V Z mode,V Z base,V Z loc,V Z room]] w fun e w'=>∃ v,e=.returned v/\WantsAt w' v (fastWants N)/\Ext w w':=by
 have hX:=Ext.refl w
 have b1:=Blk.new w (.cells #[V Z 5,V Z N,V Z mode,V Z base,V Z loc,V Z room] 23)
 replace hX:=hX.alloc (.cells #[V Z 5,V Z N,V Z mode,V Z base,V Z loc,V Z room] 23)
 have c_b1:=b1.cells
 go_enter Tryz.func100,Tryz.ntmps100
 go_wp2_with fail
 refine (fastwants_r N _ h1 h2).mono ?_
 rintro e w2 ⟨v,rfl,hv,hx⟩
 have hf:=Hd (And.intro hv (hX.trans hx))
 clear hv hx c_b1
 go_wp2_with fail
 go_ret
 exact⟨_,rfl,hf.out.1,hf.out.2⟩
set_option maxRecDepth 100000 in
theorem lkw6 (N:Nat)(mode base loc room:Int)(w:World)(h1:1<=N)(h2:N<=8):Calls Tryz.prog 100 #[.agg #[V Z 6,V Z N,V Z mode,V Z base,V Z loc,V Z room]] w fun e w'=>∃ v,e=.returned v/\WantsAt w' v (treeWants (eachK 6) N)/\Ext w w':=by
 have hX:=Ext.refl w
 have b1:=Blk.new w (.cells #[V Z 6,V Z N,V Z mode,V Z base,V Z loc,V Z room] 23)
 replace hX:=hX.alloc (.cells #[V Z 6,V Z N,V Z mode,V Z base,V Z loc,V Z room] 23)
 have c_b1:=b1.cells
 go_enter Tryz.func100,Tryz.ntmps100
 go_wp2_with fail
 refine (rtwants_r 6 N _ (by omega)).mono ?_
 rintro e w2 ⟨v,rfl,hv,hx⟩
 have hf:=Hd (And.intro hv (hX.trans hx))
 clear hv hx c_b1
 go_wp2_with fail
 go_ret
 exact⟨_,rfl,hf.out.1,hf.out.2⟩
set_option maxRecDepth 100000 in
theorem lkw7 (N:Nat)(mode base loc room:Int)(w:World)(h1:1<=N)(h2:N<=8):Calls Tryz.prog 100 #[.agg #[V Z 7,V Z N,V Z mode,V Z base,V Z loc,V Z room]] w fun e w'=>∃ v,e=.returned v/\WantsAt w' v (treeWants (eachK 7) N)/\Ext w w':=by
 have hX:=Ext.refl w
 have b1:=Blk.new w (.cells #[V Z 7,V Z N,V Z mode,V Z base,V Z loc,V Z room] 23)
 replace hX:=hX.alloc (.cells #[V Z 7,V Z N,V Z mode,V Z base,V Z loc,V Z room] 23)
 have c_b1:=b1.cells
 go_enter Tryz.func100,Tryz.ntmps100
 go_wp2_with fail
 refine (rtwants_r 7 N _ (by omega)).mono ?_
 rintro e w2 ⟨v,rfl,hv,hx⟩
 have hf:=Hd (And.intro hv (hX.trans hx))
 clear hv hx c_b1
 go_wp2_with fail
 go_ret
 exact⟨_,rfl,hf.out.1,hf.out.2⟩
set_option maxRecDepth 100000 in
theorem lkw8 (N:Nat)(mode base loc room:Int)(w:World)(h1:1<=N)(h2:N<=8):Calls Tryz.prog 100 #[.agg #[V Z 8,V Z N,V Z mode,V Z base,V Z loc,V Z room]] w fun e w'=>∃ v,e=.returned v/\WantsAt w' v (adWants N)/\Ext w w':=by
 have hX:=Ext.refl w
 have b1:=Blk.new w (.cells #[V Z 8,V Z N,V Z mode,V Z base,V Z loc,V Z room] 23)
 replace hX:=hX.alloc (.cells #[V Z 8,V Z N,V Z mode,V Z base,V Z loc,V Z room] 23)
 have c_b1:=b1.cells
 go_enter Tryz.func100,Tryz.ntmps100
 go_wp2_with fail
 refine (adwants_r N _ h1 h2).mono ?_
 rintro e w2 ⟨v,rfl,hv,hx⟩
 have hf:=Hd (And.intro hv (hX.trans hx))
 clear hv hx c_b1
 go_wp2_with fail
 go_ret
 exact⟨_,rfl,hf.out.1,hf.out.2⟩
theorem lkwants_r (alg:Int)(N:Nat)(mode base loc room:Int)(w:World)(ha:3<=alg/\alg<=8)(h1:1<=N)(h2:N<=8):Calls Tryz.prog 100 #[.agg #[V Z alg,V Z N,V Z mode,V Z base,V Z loc,V Z room]] w fun e w'=>∃ v,e=.returned v/\WantsAt w' v (lkWants alg N)/\Ext w w':=by
 have:alg=3∨alg=4∨alg=5∨alg=6∨alg=7∨alg=8:=by omega
 rcases this with rfl | rfl | rfl | rfl | rfl | rfl
 · exact lkw3 N mode base loc room w h1 h2
 · exact lkw4 N mode base loc room w h1 h2
 · exact lkw5 N mode base loc room w h1 h2
 · exact lkw6 N mode base loc room w h1 h2
 · exact lkw7 N mode base loc room w h1 h2
 · exact lkw8 N mode base loc room w h1 h2
theorem lkWants_le (alg:Int){N:Nat}(h1:1<=N)(h2:N<=8):(lkWants alg N).length<=300:=by
 unfold lkWants
 split
 · rw [bwWants_len];omega
 · split
   · rw [filWants_len];omega
   · split
     · rw [fastWants_len];omega
     · split
       · unfold treeWants
         rw [List.length_replicate]
         have hE:=(each_le alg).2
         have hle:=(pow_le (lev_le (show N<=64 by omega))).2
         have:=Nat.mul_le_mul hE (show 2 ^ levels (N:Int)-1<=63 by omega)
         omega
       · rw [adWants_len]
         have:=adTree_le h1 h2
         have:=(triN_le h1 h2).2
         omega
theorem size0_r (A:Option Addr)(c:Nat)(w:World):Calls Tryz.prog 182 #[.slice A 0 c] w fun e w'=>e=.returned (.tuple #[V Z 0,V Z 0])/\Ext w w':=by
 go_enter Tryz.func182,Tryz.ntmps182
 go_wp2_with fail
 go_loopw [4,5,6] (fun u v i wr=>i=V Z 0/\u=V Z 0/\v=V Z 0/\Ext w wr) (fun _ _ _ _=>0)
 case atStart=>exact⟨rfl,rfl,rfl,Ext.refl w⟩
 case round =>
  obtain⟨rfl,rfl,rfl,hX⟩:=hrel
  go_wp2_with fail
  first | go_ret2 | go_ret
  exact⟨rfl,hX⟩
theorem sizeV_r (v:Value)(rs:List Reg)(w:World)(h:RegsV w v rs)(hok:∀ r∈rs,r.ok)(hl:rs.length<=300) :
  Calls Tryz.prog 182 #[v] w fun e w'=>e=.returned (.tuple #[V Z (sumC rs),V Z (sumL rs)])/\Ext w w':=by
 obtain⟨A,c,rfl,q1,q2,hV⟩:=h
 by_cases h0:rs=[]
 · subst h0
   exact size0_r A c w
 · obtain⟨b,rfl,hb,hc⟩:=hV (by cases rs with | nil=>exact absurd rfl h0 | cons r l=>simp [regVals])
   exact size_r b c rs w hb hc hok hl
set_option maxRecDepth 100000 in
set_option maxHeartbeats 1000000 in
theorem lksize_r (alg:Int)(N:Nat)(mode base loc room:Int)(rs:List Reg)(w:World)(ha:1<=alg/\alg<=8)(h1:1<=N)(h2:N<=8)(hl:3<=alg->layM (lkWants alg N) N mode base loc=some rs) :
  Calls Tryz.prog 101 #[.agg #[V Z alg,V Z N,V Z mode,V Z base,V Z loc,V Z room]] w fun e w'=>e=.returned (.tuple #[V Z (lkC alg N rs),V Z (lkL alg rs)])/\Ext w w':=by
 have hX:=Ext.refl w
 have b1:=Blk.new w (.cells #[V Z alg,V Z N,V Z mode,V Z base,V Z loc,V Z room] 23)
 replace hX:=hX.alloc (.cells #[V Z alg,V Z N,V Z mode,V Z base,V Z loc,V Z room] 23)
 have c_b1:=b1.cells
 by_cases a1:alg=1
 · subst a1
   have hw:=IntWalk.i64_in (2*(N:Int)) (by omega)
   have e1:lkC 1 N rs=2*(N:Int):=rfl
   have e2:lkL 1 rs=1:=rfl
   rw [e1,e2]
   clear e1 e2 hl
   go_enter Tryz.func101,Tryz.ntmps101
   go_wp2_with fail
   first | go_ret2 | go_ret
   exact⟨rfl,hX⟩
 by_cases a2:alg=2
 · subst a2
   have e1:lkC 2 N rs=(N:Int):=rfl
   have e2:lkL 2 rs=0:=rfl
   rw [e1,e2]
   clear e1 e2 hl a1
   go_enter Tryz.func101,Tryz.ntmps101
   go_wp2_with fail
   first | go_ret2 | go_ret
   exact⟨rfl,hX⟩
 have hl:=hl (by omega)
 have hok:∀ r∈rs,r.ok:=fun r hr=>(laid_all hl r hr).1
 have hlen:=layM_len hl
 have hle:=lkWants_le alg h1 h2
 have hbd:=sum_bd hok rs.length (Nat.le_refl _)
 rw [List.take_length] at hbd
 have ha3:3<=alg/\alg<=8:=by omega
 have d1:(alg==1)=false:=by rw [beq_eq_false_iff_ne];exact a1
 have d2:(alg==2)=false:=by rw [beq_eq_false_iff_ne];exact a2
 have hC:lkC alg N rs=sumC rs:=by unfold lkC;rw [if_neg a1,if_neg a2]
 have hL:lkL alg rs=if alg=3∨alg=8 then sumL rs+1 else sumL rs:=by unfold lkL;rw [if_neg a1,if_neg a2]
 have hw:=IntWalk.i64_in (sumL rs+1) (by omega)
 have hCL:=Hd (And.intro hC hL)
 have hlh:=Hd hl
 have hokh:=Hd hok
 have hlen9:rs.length<=300:=by omega
 have hlenw:(lkWants alg N).length<=1000:=by omega
 have hlenh:=Hd (And.intro hlen9 hlenw)
 clear hl hok hlen hle hbd a1 a2 hC hL hlen9 hlenw
 go_enter Tryz.func101,Tryz.ntmps101
 go_wp2_with fail
 generalize w.alloc _=W at *
 have hXW:=hX
 clear hX c_b1
 have hX:=(Ext.refl W).drew
 have hS:∀ w',Ext W w'->(∀ i,w'.cell? ⟨w.heap.size,i,none⟩=(#[V Z alg,V Z N,V Z mode,V Z base,V Z loc,V Z room]:Array Value)[i]?):=fun w' hx=>(b1.ext hx).cells
 go_region_held2 (fun w'=>∀ i,w'.cell? ⟨w.heap.size,i,none⟩=(#[V Z alg,V Z N,V Z mode,V Z base,V Z loc,V Z room]:Array Value)[i]?) (exact hS _ hX)
  (first
    | (go_at_call 100
       refine (lkwants_r alg N mode base loc room _ ha3 h1 h2).mono ?_
       rintro e w2 ⟨v2,rfl,hw2,hx⟩
       replace hX:=hX.trans hx
       clear hx)
    | (go_at_call 176
       refine (layr_some hlh.out _ (hw2.ext (Ext.refl _)) hlenh.out.2).mono ?_
       rintro e w3 ⟨v3,rfl,hr3,hx⟩
       replace hX:=hX.trans hx
       clear hx))
 rename_i hh
 clear hh
 have hS3:=hS
 clear hS
 go_wp2_with fail
 refine (sizeV_r v3 rs _ hr3.1 hokh.out hlenh.out.1).mono ?_
 rintro e w4 ⟨rfl,hx4⟩
 have c_b4:=hS3 _ (hX.trans hx4)
 have hf:=Hd (hXW.trans (hX.trans hx4))
 clear hr3 hx4 hX
 by_cases a3:alg=3
 · subst a3
   go_wp2_with fail
   first | go_ret2 | go_ret
   exact⟨by rw [hCL.out.1,hCL.out.2,if_pos (by simp)];rfl,hf.out⟩
 · have d3:(alg==3)=false:=by rw [beq_eq_false_iff_ne];exact a3
   by_cases a8:alg=8
   · subst a8
     clear a3
     go_wp2_with fail
     first | go_ret2 | go_ret
     exact⟨by rw [hCL.out.1,hCL.out.2,if_pos (by simp)];rfl,hf.out⟩
   · have d8:(alg==8)=false:=by rw [beq_eq_false_iff_ne];exact a8
     have hng:=Hd (show ¬ (alg=3∨alg=8) by omega)
     clear a3 a8
     go_wp2_with fail
     first | go_ret2 | go_ret
     exact⟨by rw [hCL.out.1,hCL.out.2,if_neg hng.out];rfl,hf.out⟩
set_option maxRecDepth 100000 in
set_option maxHeartbeats 2000000 in
theorem lkfine_r (alg N0 mode base loc room:Int)(w:World):Calls Tryz.prog 21 #[.agg #[V Z alg,V Z N0,V Z mode,V Z base,V Z loc,V Z room]] w fun e w'=>(∃ b,e=.returned (.bool b)/\(b=true->∃ (N:Nat) (rs:List Reg),N0=N/\LkOk alg N mode base loc room rs))/\Ext w w':=by
 generalize hR:(fun (e:Ending) (w':World)=>(∃ b,e=.returned (.bool b)/\(b=true->∃ (N:Nat) (rs:List Reg),N0=N/\LkOk alg N mode base loc room rs))/\Ext w w')=R
 have hno:∀ w',Ext w w'->R (.returned (.bool false)) w':=fun w' h=>hR▸⟨⟨false,rfl,fun h=>by cases h⟩,h⟩
 have hyes:∀ w',Ext w w'->(∃ (N:Nat) (rs:List Reg),N0=N/\LkOk alg N mode base loc room rs)->R (.returned (.bool true)) w':=fun w' h k=>hR▸⟨⟨true,rfl,fun _=>k⟩,h⟩
 clear hR
 have hX:=(Ext.refl w).alloc (.cells #[V Z alg,V Z N0,V Z mode,V Z base,V Z loc,V Z room] 23)
 have b1:=Blk.new w (.cells #[V Z alg,V Z N0,V Z mode,V Z base,V Z loc,V Z room] 23)
 have c_b1:=b1.cells
 by_cases g0:alg<1
 · have d0:decide (alg<1)=true:=by rw [decide_eq_true_eq];exact g0
   have hf:=hno _ hX
   clear g0 hno hyes
   go_enter Tryz.func21,Tryz.ntmps21
   go_wp2_with fail
   first | exact hf | (go_ret;exact hf)
 have d0:decide (alg<1)=false:=by rw [decide_eq_false_iff_not];exact g0
 by_cases g1:8<alg
 · have d1:decide (8<alg)=true:=by rw [decide_eq_true_eq];exact g1
   have hf:=hno _ hX
   clear g1 hno hyes
   go_enter Tryz.func21,Tryz.ntmps21
   go_wp2_with fail
   first | exact hf | (go_ret;exact hf)
 have d1:decide (8<alg)=false:=by rw [decide_eq_false_iff_not];exact g1
 by_cases g2:N0<1
 · have d2:decide (N0<1)=true:=by rw [decide_eq_true_eq];exact g2
   have hf:=hno _ hX
   clear g2 hno hyes
   go_enter Tryz.func21,Tryz.ntmps21
   go_wp2_with fail
   first | exact hf | (go_ret;exact hf)
 have d2:decide (N0<1)=false:=by rw [decide_eq_false_iff_not];exact g2
 by_cases g3:8<N0
 · have d3:decide (8<N0)=true:=by rw [decide_eq_true_eq];exact g3
   have hf:=hno _ hX
   clear g3 hno hyes
   go_enter Tryz.func21,Tryz.ntmps21
   go_wp2_with fail
   first | exact hf | (go_ret;exact hf)
 have d3:decide (8<N0)=false:=by rw [decide_eq_false_iff_not];exact g3
 by_cases g4:mode<1
 · have d4:decide (mode<1)=true:=by rw [decide_eq_true_eq];exact g4
   have hf:=hno _ hX
   clear g4 hno hyes
   go_enter Tryz.func21,Tryz.ntmps21
   go_wp2_with fail
   first | exact hf | (go_ret;exact hf)
 have d4:decide (mode<1)=false:=by rw [decide_eq_false_iff_not];exact g4
 by_cases g5:2<mode
 · have d5:decide (2<mode)=true:=by rw [decide_eq_true_eq];exact g5
   have hf:=hno _ hX
   clear g5 hno hyes
   go_enter Tryz.func21,Tryz.ntmps21
   go_wp2_with fail
   first | exact hf | (go_ret;exact hf)
 have d5:decide (2<mode)=false:=by rw [decide_eq_false_iff_not];exact g5
 by_cases g6:base<0
 · have d6:decide (base<0)=true:=by rw [decide_eq_true_eq];exact g6
   have hf:=hno _ hX
   clear g6 hno hyes
   go_enter Tryz.func21,Tryz.ntmps21
   go_wp2_with fail
   first | exact hf | (go_ret;exact hf)
 have d6:decide (base<0)=false:=by rw [decide_eq_false_iff_not];exact g6
 by_cases g7:loc<0
 · have d7:decide (loc<0)=true:=by rw [decide_eq_true_eq];exact g7
   have hf:=hno _ hX
   clear g7 hno hyes
   go_enter Tryz.func21,Tryz.ntmps21
   go_wp2_with fail
   first | exact hf | (go_ret;exact hf)
 have d7:decide (loc<0)=false:=by rw [decide_eq_false_iff_not];exact g7
 by_cases g8:room<1
 · have d8:decide (room<1)=true:=by rw [decide_eq_true_eq];exact g8
   have hf:=hno _ hX
   clear g8 hno hyes
   go_enter Tryz.func21,Tryz.ntmps21
   go_wp2_with fail
   first | exact hf | (go_ret;exact hf)
 have d8:decide (room<1)=false:=by rw [decide_eq_false_iff_not];exact g8
 by_cases g9:1048576<room
 · have d9:decide (1048576<room)=true:=by rw [decide_eq_true_eq];exact g9
   have hf:=hno _ hX
   clear g9 hno hyes
   go_enter Tryz.func21,Tryz.ntmps21
   go_wp2_with fail
   first | exact hf | (go_ret;exact hf)
 have d9:decide (1048576<room)=false:=by rw [decide_eq_false_iff_not];exact g9
 by_cases g10:32768<base
 · have d10:decide (32768<base)=true:=by rw [decide_eq_true_eq];exact g10
   have hf:=hno _ hX
   clear g10 hno hyes
   go_enter Tryz.func21,Tryz.ntmps21
   go_wp2_with fail
   first | exact hf | (go_ret;exact hf)
 have d10:decide (32768<base)=false:=by rw [decide_eq_false_iff_not];exact g10
 by_cases g11:32768<loc
 · have d11:decide (32768<loc)=true:=by rw [decide_eq_true_eq];exact g11
   have hf:=hno _ hX
   clear g11 hno hyes
   go_enter Tryz.func21,Tryz.ntmps21
   go_wp2_with fail
   first | exact hf | (go_ret;exact hf)
 have d11:decide (32768<loc)=false:=by rw [decide_eq_false_iff_not];exact g11
 obtain⟨N,rfl⟩:∃ N:Nat,N0=N:=⟨N0.toNat,by omega⟩
 have hok9:∀ rs,(3<=alg->layM (lkWants alg N) N mode base loc=some rs)->base+lkC alg N rs<=32768->loc+lkL alg rs<=32768->LkOk alg N mode base loc room rs:=fun rs hl hc hl2=>⟨by omega,by omega,by omega,by omega,by omega,by omega,hl,hc,hl2⟩
 have ha:1<=alg/\alg<=8:=by omega
 have hb0:0<=base/\base<=32768:=by omega
 have hl0:0<=loc/\loc<=32768:=by omega
 have h1:1<=N:=by omega
 have h2:N<=8:=by omega
 clear g0 g1 g2 g3 g4 g5 g6 g7 g8 g9 g10 g11
 have hkb:∀ rs,(3<=alg->layM (lkWants alg N) N mode base loc=some rs)->0<=lkC alg N rs/\lkC alg N rs<=3000000/\0<=lkL alg rs/\lkL alg rs<=3000000:=fun rs hl=>by
  by_cases a1:alg=1
  · subst a1
    have e1:lkC 1 N rs=2*(N:Int):=rfl
    have e2:lkL 1 rs=1:=rfl
    omega
  by_cases a2:alg=2
  · subst a2
    have e1:lkC 2 N rs=(N:Int):=rfl
    have e2:lkL 2 rs=0:=rfl
    omega
  have hl:=hl (by omega)
  have hok:∀ r∈rs,r.ok:=fun r hr=>(laid_all hl r hr).1
  have hlen:=layM_len hl
  have hle:=lkWants_le alg h1 h2
  have hbd:=sum_bd hok rs.length (Nat.le_refl _)
  rw [List.take_length] at hbd
  have hC:lkC alg N rs=sumC rs:=by unfold lkC;rw [if_neg a1,if_neg a2]
  have hL:lkL alg rs=if alg=3∨alg=8 then sumL rs+1 else sumL rs:=by unfold lkL;rw [if_neg a1,if_neg a2]
  rw [hC,hL]
  split <;> omega
 have hend:∀ rs,(3<=alg->layM (lkWants alg N) N mode base loc=some rs)->∀ W,Ext w W->Calls Tryz.prog 101 #[.agg #[V Z alg,V Z N,V Z mode,V Z base,V Z loc,V Z room]] W fun e w'=>e=.returned (.tuple #[V Z (lkC alg N rs),V Z (lkL alg rs)])/\Ext W w':=fun rs hl W _=>lksize_r alg N mode base loc room rs W ha h1 h2 hl
 by_cases a3:2<alg
 · have d:decide (2<alg)=true:=by rw [decide_eq_true_eq];exact a3
   have hle:=lkWants_le alg h1 h2
   have hMay:=fun (va:Value) (w:World) (h:WantsAt w va (lkWants alg N))=>may_r va (lkWants alg N) alg N mode base loc room w h (by omega)
   cases hl:layM (lkWants alg N) N mode base loc with
   | none =>
     rw [hl] at hMay
     clear hend hkb hok9
     go_enter Tryz.func21,Tryz.ntmps21
     go_wp2_with fail
     generalize w.alloc _=W at *
     have hS:∀ w',Ext W w'->(∀ i,w'.cell? ⟨w.heap.size,i,none⟩=(#[V Z alg,V Z N,V Z mode,V Z base,V Z loc,V Z room]:Array Value)[i]?):=fun w' hx=>(b1.ext hx).cells
     have hXW:=hX
     refine wp_region_held_drew (S:=fun w'=>∀ i,w'.cell? ⟨w.heap.size,i,none⟩=(#[V Z alg,V Z N,V Z mode,V Z base,V Z loc,V Z room]:Array Value)[i]?) rfl (hS _ (Ext.refl W).drew) (fun hHeld=>?_)
     refine tkb 0 ?_
     iterate 5
      refine tkn (v:=?_) rfl (by kernel_rfl) (fun _ _ _ h=>h) (by assumption) ?_ ?_
      rotate_left
      · (intro w hSw;(try dsimp only at hSw);go_simp;try with_reducible rfl)
      try simp only [put_pack]
     refine tke ?_
     refine tk 6 (v:=?_) rfl (by kernel_rfl) (fun _ _ _ h=>h) (by assumption) ?_ ?_
     rotate_left
     · (intro w hSw;(try dsimp only at hSw);go_simp;try with_reducible rfl)
     try simp only [put_pack]
     refine wpAnyH_ready (rs:=[5]) (by kernel_rfl) (by simp) ?_
     refine AllReadyH.cons rfl (fun K hKK=>?_) (AllReadyH.nil)
     go_simp
     refine (lkwants_r alg N mode base loc room _ (by omega) h1 h2).mono ?_
     rintro e w2 ⟨v2,rfl,hw2,hx⟩
     clear hX
     have hX:=(Ext.refl W).drew.trans hx
     clear hx
     refine hKK.out _ _ (hS _ hX) (fun hHeld=>?_)
     clear hKK K
     try dsimp only
     refine wpAnyH_ready (rs:=[7]) (by kernel_rfl) (by simp) ?_
     refine AllReadyH.cons rfl (fun K hKK=>?_) (AllReadyH.nil)
     go_simp
     refine (hMay v2 _ hw2).mono ?_
     rintro e w3 ⟨rfl,hx⟩
     replace hX:=hX.trans hx
     clear hx
     refine hKK.out _ _ (hS _ hX) (fun hHeld=>?_)
     clear hKK K hw2
     try dsimp only
     refine tk 8 (v:=?_) rfl (by kernel_rfl) (fun _ _ _ h=>h) (by assumption) ?_ ?_
     rotate_left
     · (intro w hSw;(try dsimp only at hSw);go_simp;try with_reducible rfl)
     try simp only [put_pack]
     refine tk 9 (v:=?_) rfl (by kernel_rfl) (fun _ _ _ h=>h) (by assumption) ?_ ?_
     rotate_left
     · (intro w hSw;(try dsimp only at hSw);go_simp;try with_reducible rfl)
     try simp only [put_pack]
     refine wpAnyH_done (by kernel_rfl) ?_ _
     go_simp
     have hf:=hno _ (hXW.trans hX)
     clear hX hS hno hyes
     go_wp2_with fail
     first | exact hf | (go_ret;exact hf)
   | some rs =>
     rw [hl] at hMay
     have hl3:3<=alg->layM (lkWants alg N) N mode base loc=some rs:=fun _=>hl
     have hend:=hend rs hl3
     have hkb:=hkb rs hl3
     have hokh:=Hd (hok9 rs hl3)
     clear hl hl3 hok9
     generalize lkC alg N rs=C at *
     generalize lkL alg rs=L at *
     go_enter Tryz.func21,Tryz.ntmps21
     go_wp2_with fail
     generalize w.alloc _=W at *
     have hS:∀ w',Ext W w'->(∀ i,w'.cell? ⟨w.heap.size,i,none⟩=(#[V Z alg,V Z N,V Z mode,V Z base,V Z loc,V Z room]:Array Value)[i]?):=fun w' hx=>(b1.ext hx).cells
     have hXW:=hX
     refine wp_region_held_drew (S:=fun w'=>∀ i,w'.cell? ⟨w.heap.size,i,none⟩=(#[V Z alg,V Z N,V Z mode,V Z base,V Z loc,V Z room]:Array Value)[i]?) rfl (hS _ (Ext.refl W).drew) (fun hHeld=>?_)
     refine tkb 0 ?_
     iterate 5
      refine tkn (v:=?_) rfl (by kernel_rfl) (fun _ _ _ h=>h) (by assumption) ?_ ?_
      rotate_left
      · (intro w hSw;(try dsimp only at hSw);go_simp;try with_reducible rfl)
      try simp only [put_pack]
     refine tke ?_
     refine tk 6 (v:=?_) rfl (by kernel_rfl) (fun _ _ _ h=>h) (by assumption) ?_ ?_
     rotate_left
     · (intro w hSw;(try dsimp only at hSw);go_simp;try with_reducible rfl)
     try simp only [put_pack]
     refine wpAnyH_ready (rs:=[5]) (by kernel_rfl) (by simp) ?_
     refine AllReadyH.cons rfl (fun K hKK=>?_) (AllReadyH.nil)
     go_simp
     refine (lkwants_r alg N mode base loc room _ (by omega) h1 h2).mono ?_
     rintro e w2 ⟨v2,rfl,hw2,hx⟩
     clear hX
     have hX:=(Ext.refl W).drew.trans hx
     clear hx
     refine hKK.out _ _ (hS _ hX) (fun hHeld=>?_)
     clear hKK K
     try dsimp only
     refine wpAnyH_ready (rs:=[7]) (by kernel_rfl) (by simp) ?_
     refine AllReadyH.cons rfl (fun K hKK=>?_) (AllReadyH.nil)
     go_simp
     refine (hMay v2 _ hw2).mono ?_
     rintro e w3 ⟨rfl,hx⟩
     replace hX:=hX.trans hx
     clear hx
     refine hKK.out _ _ (hS _ hX) (fun hHeld=>?_)
     clear hKK K hw2
     try dsimp only
     refine tk 8 (v:=?_) rfl (by kernel_rfl) (fun _ _ _ h=>h) (by assumption) ?_ ?_
     rotate_left
     · (intro w hSw;(try dsimp only at hSw);go_simp;try with_reducible rfl)
     try simp only [put_pack]
     refine tk 9 (v:=?_) rfl (by kernel_rfl) (fun _ _ _ h=>h) (by assumption) ?_ ?_
     rotate_left
     · (intro w hSw;(try dsimp only at hSw);go_simp;try with_reducible rfl)
     try simp only [put_pack]
     refine wpAnyH_done (by kernel_rfl) ?_ _
     go_simp
     have c_b1:=hS _ hX
     have hwc:=IntWalk.i64_in (base+C) (by omega)
     have hwl:=IntWalk.i64_in (loc+L) (by omega)
     go_wp2_with fail
     refine (hend _ (hXW.trans hX)).mono ?_
     rintro e w5 ⟨rfl,hx5⟩
     have c_b5:=(b1.ext (hX.trans hx5)).cells
     have hf:=Hd (hXW.trans (hX.trans hx5))
     clear c_b1 hend
     by_cases r1:base+C<=32768
     · have e1:decide (base+C<=32768)=true:=by rw [decide_eq_true_eq];exact r1
       by_cases r2:loc+L<=32768
       · have e2:decide (loc+L<=32768)=true:=by rw [decide_eq_true_eq];exact r2
         have hff:=hyes _ hf.out ⟨N,_,rfl,hokh.out r1 r2⟩
         clear r1 r2 hyes hno
         go_wp2_with fail
         first | exact hff | (go_ret;exact hff)
       · have e2:decide (loc+L<=32768)=false:=by rw [decide_eq_false_iff_not];exact r2
         have hff:=hno _ hf.out
         clear r1 r2 hyes hno
         go_wp2_with fail
         first | exact hff | (go_ret;exact hff)
     · have e1:decide (base+C<=32768)=false:=by rw [decide_eq_false_iff_not];exact r1
       have hff:=hno _ hf.out
       clear r1 hyes hno
       go_wp2_with fail
       first | exact hff | (go_ret;exact hff)
 · have d:decide (2<alg)=false:=by rw [decide_eq_false_iff_not];exact a3
   have hl3:3<=alg->layM (lkWants alg N) N mode base loc=some []:=fun h=>absurd h (by omega)
   have hend:=hend [] hl3
   have hkb:=hkb [] hl3
   have hokh:=Hd (hok9 [] hl3)
   clear hl3 hok9 a3
   generalize lkC alg N []=C at *
   generalize lkL alg []=L at *
   go_enter Tryz.func21,Tryz.ntmps21
   go_wp2_with fail
   generalize w.alloc _=W at *
   have hS:∀ w',Ext W w'->(∀ i,w'.cell? ⟨w.heap.size,i,none⟩=(#[V Z alg,V Z N,V Z mode,V Z base,V Z loc,V Z room]:Array Value)[i]?):=fun w' hx=>(b1.ext hx).cells
   have hXW:=hX
   refine wp_region_held_drew (S:=fun w'=>∀ i,w'.cell? ⟨w.heap.size,i,none⟩=(#[V Z alg,V Z N,V Z mode,V Z base,V Z loc,V Z room]:Array Value)[i]?) rfl (hS _ (Ext.refl W).drew) (fun hHeld=>?_)
   refine tkb 0 ?_
   iterate 4
    refine tkn (v:=?_) rfl (by kernel_rfl) (fun _ _ _ h=>h) (by assumption) ?_ ?_
    rotate_left
    · (intro w hSw;(try dsimp only at hSw);go_simp;try with_reducible rfl)
    try simp only [put_pack]
   refine tke ?_
   refine sk 4 rfl (by kernel_rfl) (fun _ _ _ h=>h) (by assumption) ?_
   try simp only [put_pack]
   refine sk 5 rfl (by kernel_rfl) (fun _ _ _ h=>h) (by assumption) ?_
   try simp only [put_pack]
   refine sk 6 rfl (by kernel_rfl) (fun _ _ _ h=>h) (by assumption) ?_
   try simp only [put_pack]
   refine sk 7 rfl (by kernel_rfl) (fun _ _ _ h=>h) (by assumption) ?_
   try simp only [put_pack]
   refine sk 8 rfl (by kernel_rfl) (fun _ _ _ h=>h) (by assumption) ?_
   try simp only [put_pack]
   refine tk 9 (v:=?_) rfl (by kernel_rfl) (fun _ _ _ h=>h) (by assumption) ?_ ?_
   rotate_left
   · (intro w hSw;(try dsimp only at hSw);go_simp;try with_reducible rfl)
   try simp only [put_pack]
   refine wpAnyH_done (by kernel_rfl) ?_ _
   go_simp
   have hX:=(Ext.refl W).drew
   have c_b1:=hS _ hX
   replace hX:=hXW.trans hX
   have hwc:=IntWalk.i64_in (base+C) (by omega)
   have hwl:=IntWalk.i64_in (loc+L) (by omega)
   go_wp2_with fail
   refine (hend _ hX).mono ?_
   rintro e w5 ⟨rfl,hx5⟩
   have c_b5:=(b1.ext ((Ext.refl W).drew.trans hx5)).cells
   have hf:=Hd (hX.trans hx5)
   clear c_b1 hend
   by_cases r1:base+C<=32768
   · have e1:decide (base+C<=32768)=true:=by rw [decide_eq_true_eq];exact r1
     by_cases r2:loc+L<=32768
     · have e2:decide (loc+L<=32768)=true:=by rw [decide_eq_true_eq];exact r2
       have hff:=hyes _ hf.out ⟨N,_,rfl,hokh.out r1 r2⟩
       clear r1 r2 hyes hno
       go_wp2_with fail
       first | exact hff | (go_ret;exact hff)
     · have e2:decide (loc+L<=32768)=false:=by rw [decide_eq_false_iff_not];exact r2
       have hff:=hno _ hf.out
       clear r1 r2 hyes hno
       go_wp2_with fail
       first | exact hff | (go_ret;exact hff)
   · have e1:decide (base+C<=32768)=false:=by rw [decide_eq_false_iff_not];exact r1
     have hff:=hno _ hf.out
     clear r1 hyes hno
     go_wp2_with fail
     first | exact hff | (go_ret;exact hff)
theorem results_cell1 {fn:Func}{p:Tmp}{ty:TypeId}(h:fn.results=#[.cell p ty])(tmps:Array Value)(P:Program)(w:World) :
  (results fn tmps).run P w=((asAddr (tmps.getD p undef)).run P w).andThen fun a w1=>(loadVar ty a).run P w1:=by
 simp only [results,h]
 simp [Sem.run_bind,Result.andThen]
theorem there_blk {w:World}{b:Nat}{cs:Array Value}{t:TypeId}(h:w.heap[b]?=some (.cells cs t (0,0))):w.there b 0 cs.size:=fun j hj=>by
 rw [Nat.zero_add]
 exact⟨by rw [cell_of_heap h];simp [hj],by simp [World.frozen?,h]⟩
@[go_sem] theorem build_thing4 (x:Int) (w:World):(Instr.build 65 #[(4,V Z x)]).run Tryz.prog w=.ok (.agg #[V Z 0,V Z 0,V Z 0,V Z 0,V Z x,V Z 0,V Z 0,V Z 0]) w:=run_build w 65 _ _ (by kernel_rfl)
@[go_sem] theorem build_obj35 (x a b c d e f g h:Int) (w:World):(Instr.build 69 #[(0,.agg #[V Z 0,V Z 0,V Z 0,V Z 0,V Z x,V Z 0,V Z 0,V Z 0]),(1,.agg #[V Z a,V Z b,V Z c,V Z d,V Z e,V Z f]),(3,V Z g),(4,V Z h)]).run Tryz.prog w=.ok (.agg #[V Z 0,V Z 0,V Z 0,V Z 0,V Z x,V Z 0,V Z 0,V Z 0,V Z a,V Z b,V Z c,V Z d,V Z e,V Z f,V Z 0,V Z 0,V Z 0,V Z 0,V Z 0,V Z 0,V Z 0,V Z g,V Z h]) w:=run_build w 69 _ _ (by kernel_rfl)
set_option maxRecDepth 100000 in
theorem put_r (arg alg:Int)(N:Nat)(mode base loc room:Int)(rs:List Reg)(w:World)(hk:LkOk alg N mode 0 0 room rs) :
  Calls Tryz.prog 42 #[.agg #[V Z alg,V Z N,V Z mode,V Z base,V Z loc,V Z room],V Z arg] w fun e w'=>e=.returned (.agg #[V Z 0,V Z 0,V Z 0,V Z 0,V Z arg,V Z 0,V Z 0,V Z 0,V Z alg,V Z N,V Z mode,V Z 0,V Z 0,V Z room,V Z 0,V Z 0,V Z 0,V Z 0,V Z 0,V Z 0,V Z 0,V Z (lkC alg N rs),V Z (lkL alg rs)])/\Ext w w':=by
 have hsz:=fun w=>lksize_r alg N mode 0 0 room rs w hk.halg hk.hn.1 hk.hn.2 hk.hlay
 have b1:=Blk.new w (.cells #[V Z alg,V Z N,V Z mode,V Z 0,V Z 0,V Z room] 23)
 have hX:=(Ext.refl w).alloc (.cells #[V Z alg,V Z N,V Z mode,V Z 0,V Z 0,V Z room] 23)
 replace b1:=b1.alloc (.cells #[V Z 0,V Z 0,V Z 0,V Z 0,V Z 0,V Z 0,V Z 0,V Z 0,V Z 0,V Z 0,V Z 0,V Z 0,V Z 0,V Z 0,V Z 0,V Z 0,V Z 0,V Z 0,V Z 0,V Z 0,V Z 0,V Z 0,V Z 0] 69)
 have b2:=Blk.new (w.alloc (.cells #[V Z alg,V Z N,V Z mode,V Z 0,V Z 0,V Z room] 23)) (.cells #[V Z 0,V Z 0,V Z 0,V Z 0,V Z 0,V Z 0,V Z 0,V Z 0,V Z 0,V Z 0,V Z 0,V Z 0,V Z 0,V Z 0,V Z 0,V Z 0,V Z 0,V Z 0,V Z 0,V Z 0,V Z 0,V Z 0,V Z 0] 69)
 replace hX:=hX.alloc (.cells #[V Z 0,V Z 0,V Z 0,V Z 0,V Z 0,V Z 0,V Z 0,V Z 0,V Z 0,V Z 0,V Z 0,V Z 0,V Z 0,V Z 0,V Z 0,V Z 0,V Z 0,V Z 0,V Z 0,V Z 0,V Z 0,V Z 0,V Z 0] 69)
 simp only [World.size_alloc] at b2
 clear hk
 generalize lkC alg N rs=C at *
 generalize lkL alg rs=L at *
 go_enter Tryz.func42,Tryz.ntmps42
 go_wp2_with fail
 generalize (World.alloc w (.cells #[V Z alg,V Z N,V Z mode,V Z 0,V Z 0,V Z room] 23)).alloc (.cells #[V Z 0,V Z 0,V Z 0,V Z 0,V Z 0,V Z 0,V Z 0,V Z 0,V Z 0,V Z 0,V Z 0,V Z 0,V Z 0,V Z 0,V Z 0,V Z 0,V Z 0,V Z 0,V Z 0,V Z 0,V Z 0,V Z 0,V Z 0] 69)=W at *
 refine (hsz _).mono ?_
 rintro e w1 ⟨rfl,hx⟩
 have c_b1:=(b1.ext hx).cells
 replace b2:=b2.ext hx
 replace hX:=hX.trans hx
 clear hx b1 hsz
 go_upto_region 4 with fail
 refine wp_region_lit ?_
 refine wpList_plain rfl fun K hK=>?_
 unfold Oper.wp execOp
 go_simp
 refine hK _ _ ?_
 clear hK K
 refine wpList_plain rfl fun K hK=>?_
 unfold Oper.wp execOp
 go_simp
 refine hK _ _ ?_
 clear hK K
 refine wpList_plain rfl fun K hK=>?_
 unfold Oper.wp execOp
 go_simp
 refine hK _ _ ?_
 clear hK K
 refine wpList_plain rfl fun K hK=>?_
 unfold Oper.wp execOp
 go_simp
 refine hK _ _ ?_
 clear hK K
 refine wpList_plain rfl fun K hK=>?_
 unfold Oper.wp execOp
 go_simp
 refine hK _ _ ?_
 clear hK K
 refine wpList_plain rfl fun K hK=>?_
 unfold Oper.wp execOp
 go_simp
 refine hK _ _ ?_
 clear hK K
 obtain⟨OL,hOL⟩:∃ OL:List Value,OL=[V Z 0,V Z 0,V Z 0,V Z 0,V Z arg,V Z 0,V Z 0,V Z 0,V Z alg,V Z N,V Z mode,V Z 0,V Z 0,V Z room,V Z 0,V Z 0,V Z 0,V Z 0,V Z 0,V Z 0,V Z 0,V Z C,V Z L]:=⟨_,rfl⟩
 have hst:=there_blk b2
 refine wpList_store_mid rfl _ _ _ rfl (w.heap.size+1) 0 OL.toArray rfl (by rw [hOL];rfl) (by rw [hOL];exact hst) (by rw [hOL];kernel_rfl) (by rw [hOL];kernel_rfl) ?_
 have hz:=heap_setCells_all b2 OL (by rw [hOL];rfl)
 have hXs:=hX.setCells (Nat.le_succ w.heap.size) OL 0
 clear hst b2 hX c_b1
 generalize w1.setCells _ _ _=W6 at *
 refine wpList_nil ?_
 have hld:(loadVar 69 ⟨w.heap.size+1,0,none⟩).run Tryz.prog W6=.ok (.agg OL.toArray) W6:=run_loadVar_row _ _ _ _ _ _ _ hz Tryz.underlying69 rfl (by rw [hOL];kernel_rfl)
 rename_i hKK
 refine hKK _ _ ?_
 clear hKK
 refine wp_ret ?_
 refine bodyPost_ret (v:=.agg OL.toArray) ?_ rfl ⟨by rw [hOL],hXs⟩
 rw [results_cell1 (p:=4) (ty:=69) rfl]
 simp [asAddr,Result.andThen,hld,Act.put]
set_option maxRecDepth 100000 in
theorem may35_r (alg N0 mode base loc room:Int)(w:World):Calls Tryz.prog 40 #[.agg #[V Z alg,V Z N0,V Z mode,V Z base,V Z loc,V Z room]] w fun e w'=>(∃ b,e=.returned (.bool b)/\(b=true->∃ (N:Nat) (rs:List Reg),N0=N/\LkOk alg N mode 0 0 room rs/\N<=4/\¬ (N=1/\mode=2)/\(mode=1∨N<=2)))/\Ext w w':=by
 generalize hR:(fun (e:Ending) (w':World)=>(∃ b,e=.returned (.bool b)/\(b=true->∃ (N:Nat) (rs:List Reg),N0=N/\LkOk alg N mode 0 0 room rs/\N<=4/\¬ (N=1/\mode=2)/\(mode=1∨N<=2)))/\Ext w w')=R
 have hno:∀ w',Ext w w'->R (.returned (.bool false)) w':=fun w' h=>hR▸⟨⟨false,rfl,fun h=>by cases h⟩,h⟩
 have hyes:∀ w',Ext w w'->(∃ (N:Nat) (rs:List Reg),N0=N/\LkOk alg N mode 0 0 room rs/\N<=4/\¬ (N=1/\mode=2)/\(mode=1∨N<=2))->R (.returned (.bool true)) w':=fun w' h k=>hR▸⟨⟨true,rfl,fun _=>k⟩,h⟩
 clear hR
 have hf:=fun w=>lkfine_r alg N0 mode 0 0 room w
 have b1:=Blk.new w (.cells #[V Z alg,V Z N0,V Z mode,V Z 0,V Z 0,V Z room] 23)
 have hX:=(Ext.refl w).alloc (.cells #[V Z alg,V Z N0,V Z mode,V Z 0,V Z 0,V Z room] 23)
 go_enter Tryz.func40,Tryz.ntmps40
 go_wp2_with fail
 generalize World.alloc w _=W at *
 refine (hf _).mono ?_
 rintro e w1 ⟨⟨b,rfl,hb⟩,hx⟩
 have c_b1:=(b1.ext hx).cells
 replace hX:=hX.trans hx
 clear hx b1 hf
 cases b with
 | false =>
   have hf:=hno _ hX
   clear hno hyes hb
   go_wp2_with fail
   first | exact hf | (go_ret;exact hf)
 | true =>
   obtain⟨N,rs,rfl,hk⟩:=hb rfl
   clear hb
   by_cases n4:N<=4
   rotate_left
   · have d4:decide ((N:Int)<=4)=false:=by rw [decide_eq_false_iff_not];omega
     have hf:=hno _ hX
     clear hno hyes hk n4
     go_wp2_with fail
     first | exact hf | (go_ret;exact hf)
   have d4:decide ((N:Int)<=4)=true:=by rw [decide_eq_true_eq];omega
   have hm:=hk.hmode
   by_cases m1:mode=1
   · have dm:(mode==1)=true:=by rw [beq_iff_eq];exact m1
     have hf:=hyes _ hX ⟨N,rs,rfl,hk,n4,fun h=>by omega,.inl m1⟩
     clear hno hyes n4 m1 hm
     have hn:=hk.hn.1
     clear hk
     have d1:decide ((1:Int)<(N:Int))=true∨decide ((1:Int)<(N:Int))=false:=by cases decide ((1:Int)<(N:Int)) <;> simp
     have d3:decide ((N:Int)<3)=true∨decide ((N:Int)<3)=false:=by cases decide ((N:Int)<3) <;> simp
     rcases d1 with d1 | d1 <;> rcases d3 with d3 | d3
     all_goals
      go_wp2_with fail
      first | exact hf | (go_ret;exact hf)
   · have dm:(mode==1)=false:=by rw [beq_eq_false_iff_ne];exact m1
     by_cases n1:1<N
     rotate_left
     · have d1:decide ((1:Int)<(N:Int))=false:=by rw [decide_eq_false_iff_not];omega
       have hf:=hno _ hX
       clear hno hyes hk n4 m1 hm n1
       go_wp2_with fail
       first | exact hf | (go_ret;exact hf)
     have d1:decide ((1:Int)<(N:Int))=true:=by rw [decide_eq_true_eq];omega
     by_cases n3:N<3
     · have d3:decide ((N:Int)<3)=true:=by rw [decide_eq_true_eq];omega
       have hf:=hyes _ hX ⟨N,rs,rfl,hk,n4,fun h=>by omega,.inr (by omega)⟩
       clear hno hyes hk n4 m1 hm n1 n3
       go_wp2_with fail
       first | exact hf | (go_ret;exact hf)
     · have d3:decide ((N:Int)<3)=false:=by rw [decide_eq_false_iff_not];omega
       have hf:=hno _ hX
       clear hno hyes hk n4 m1 hm n1 n3
       go_wp2_with fail
       first | exact hf | (go_ret;exact hf)
theorem told35 (B p:Nat)(o:Bool)(S:TS)(e:Int)(w:World)(h:RAt B w p o S):Calls Tryz.prog 58 #[.pointer (some ⟨p,0,none⟩),V Z e] w fun r w'=>r=.returned (V Z (if o=true then 0 else e))/\Ext w w':=by
 obtain⟨_,_,_,_,_,hcc⟩:=h.cell
 cases o with
 | true =>
   go_enter Tryz.func58,Tryz.ntmps58
   go_wp2_with fail
   go_ret
   exact⟨rfl,Ext.refl _⟩
 | false =>
   go_enter Tryz.func58,Tryz.ntmps58
   go_wp2_with fail
   go_ret
   exact⟨rfl,Ext.refl _⟩
end Go.Proofs.YtbaajjkopdjbgaaGreat
namespace Kv
def zeros (n:Nat):List Int:=List.replicate n 0
end Kv
namespace Go.Proofs.YtbaajjkopdjbgaaGreat
open Go.RowKit Kv
theorem make_ints (l:Int)(k:Nat)(hl:l=k)(hk:k<=100000)(w:World) :
  (Instr.makeSlice 25 (V Z l) (V Z l)).run Tryz.prog w=.ok (.slice (some ⟨w.heap.size,0,none⟩) k k) (w.alloc (.cells ((zeros k).map (V Z)).toArray 3)):=by
 subst hl
 obtain⟨i0,hi,hz0,hz1,hz2⟩:=info_parts info_int
 have hr:=run_makeSlice (P:=Tryz.prog) w 25 3 i0 (V Z 0) Tryz.underlying25 hi hz0 .i64 .i64 k k (by omega) (by omega) (by rw [hz1];simp;omega) (by rw [hz2];omega) (by omega)
 rw [Int.toNat_natCast,hz1,Nat.mul_one] at hr
 have he:madeCells (V Z 0).cells k=((zeros k).map (V Z)).toArray:=by
  unfold zeros madeCells
  apply Array.ext'
  rw [List.map_replicate]
  apply List.ext_getElem?
  intro j
  by_cases hj:j<k
  · simp [hj,Nat.mod_one,Value.cells]
  · simp [hj]
 rw [hr,he]
theorem use35:LkUse 2 1 1 0 0 1 [] 0:=⟨⟨by decide,by decide,by decide,by decide,by decide,by decide,fun h=>absurd h (by decide),by decide,by decide⟩,by decide,by decide⟩
def tailA (c:Int):Prog Int:=(rd (c+2)).bind fun t=>(wr (c+2) (wrap64 (t+1))).bind fun _=>.ret t
theorem tailA_bind {β:Type}(c:Int)(f:Int->Prog β):(tailA c).bind f=(rd (c+2)).bind fun t=>(wr (c+2) (wrap64 (t+1))).bind fun _=>f t:=by
 unfold tailA
 simp only [Prog.bind_assoc]
 rfl
theorem tailA_pays (c:Int):(tailA c).Pays (-10):=(show (tailA c).Asks from (asks_rd _).bind _).pays (n:=0) ((notes_rd _).bind0 fun _=>(notes_wr _ _).bind0 fun _=>.ret _ _)
def enterA (c t P:Int):Prog Bool:=(rd (c+1)).bind fun h=>if h=t then (rd c).bind fun x=>if x<P then (wr c (wrap64 (x+1))).bind fun _=>(wr (c+1) (wrap64 (t+1))).bind fun _=>.ret true else .ret false else .ret false
theorem enterA_bind {β:Type}(c t P:Int)(f:Bool->Prog β):(enterA c t P).bind f=(rd (c+1)).bind fun h=>if h=t then (rd c).bind fun x=>if x<P then (wr c (wrap64 (x+1))).bind fun _=>(wr (c+1) (wrap64 (t+1))).bind fun _=>f true else f false else f false:=by
 unfold enterA
 rw [Prog.bind_assoc]
 congr 1
 funext h
 split
 · rw [Prog.bind_assoc]
   congr 1
   funext x
   split
   · simp only [Prog.bind_assoc]
     rfl
   · rfl
 · rfl
theorem enterA_notes (c t P:Int):(enterA c t P).Notes 0:=by
 refine (notes_rd _).bind0 fun h=>?_
 split
 · refine (notes_rd _).bind0 fun x=>?_
   split
   · exact (notes_wr _ _).bind0 fun _=>(notes_wr _ _).bind0 fun _=>.ret _ _
   · exact .ret _ _
 · exact .ret _ _
theorem enterA_asks (c t P:Int):(enterA c t P).Asks:=(asks_rd _).bind _
def enterW (I U:Prog Unit) (c t P:Int):Nat->Prog Unit
 | 0=>.ret ()
 | n+1=>(insideA I U (enterA c t P)).bind fun g=>if g=true then .ret () else enterW I U c t P n
def takeA (I U:Prog Unit) (c l P:Int) (n:Nat):Prog Int:=(insideA I U (tailA c)).bind fun t=>(enterW I U c t P n).bind fun _=>(gt l).bind fun x=>(st l (wrap64 (x+1))).bind fun _=>.ret 0
def lowerA (c:Int):Prog Unit:=(rd c).bind fun x=>wr c (max (x-1) 0)
theorem lowerA_sets (lo hi c:Int):(lowerA c).Sets lo hi:=(sets_rd _ _ _).bind fun _=>sets_wr _ _ _ _
def giveA (I U:Prog Unit) (c l:Int):Prog Int:=(gt l).bind fun g=>if g=0 then .ret 9 else (insideA I U (lowerA c)).bind fun _=>(st l (wrap64 (g-1))).bind fun _=>.ret 0
def giveL (I U:Prog Unit) (c l:Int):Prog Int:=(gt l).bind fun g=>if g=0 then .ret 9 else (insideA I U (lowerA c)).bind fun _=>(gt l).bind fun g=>(st l (wrap64 (g-1))).bind fun _=>.ret 0
theorem giveA_run {I U:Prog Unit}{c l lo hi:Int}(hI:I.Sets lo hi)(hU:U.Sets lo hi)(hl:l<lo∨hi<=l)(S:TS):(giveA I U c l).run S=(giveL I U c l).run S:=by
 unfold giveA giveL
 rw [run_gt,run_gt]
 by_cases hg:S.got l=0
 · rw [if_pos hg,if_pos hg]
 · rw [if_neg hg,if_neg hg,Prog.run_bind,Prog.run_bind]
   have hs:=(insideA_sets hI hU (lowerA_sets lo hi c)).got hl S
   generalize (insideA I U (lowerA c)).run S=r at hs
   obtain⟨o,S1⟩:=r
   cases o with
   | none=>rfl
   | some x =>
     simp only [thenR]
     rw [run_gt,show S1.got l=S.got l from hs]
def permM (arg:Int):Int:=min (max arg 1) 8
set_option maxRecDepth 100000 in
theorem perm_p (arg alg:Int)(N:Nat)(mode base loc room c l:Int)(w:World):Calls Tryz.prog 70 #[.agg #[V Z 0,V Z 0,V Z 0,V Z 0,V Z arg,V Z 0,V Z 0,V Z 0,V Z alg,V Z N,V Z mode,V Z base,V Z loc,V Z room,V Z 0,V Z 0,V Z 0,V Z 0,V Z 0,V Z 0,V Z 0,V Z c,V Z l]] w fun e w'=>e=.returned (V Z (permM arg))/\Ext w w':=by
 have hX:=Ext.refl w
 have b1:=Blk.new w (.cells #[V Z 0,V Z 0,V Z 0,V Z 0,V Z arg,V Z 0,V Z 0,V Z 0,V Z alg,V Z N,V Z mode,V Z base,V Z loc,V Z room,V Z 0,V Z 0,V Z 0,V Z 0,V Z 0,V Z 0,V Z 0,V Z c,V Z l] 69)
 replace hX:=hX.alloc (.cells #[V Z 0,V Z 0,V Z 0,V Z 0,V Z arg,V Z 0,V Z 0,V Z 0,V Z alg,V Z N,V Z mode,V Z base,V Z loc,V Z room,V Z 0,V Z 0,V Z 0,V Z 0,V Z 0,V Z 0,V Z 0,V Z c,V Z l] 69)
 have c_b1:=b1.cells
 unfold permM
 go_enter Tryz.func70,Tryz.ntmps70
 go_wp2_with fail
 first | go_ret2 | go_ret
 exact⟨rfl,hX⟩
set_option maxRecDepth 100000 in
theorem senter_p (B p N D:Nat)(S:TS)(t:Int)(arg alg mode base loc room c l:Int)(m:Nat)(rs:List Reg)(w:World)(h:Plays B w p S)(hk:LkUse alg N mode base loc room rs m)(hta:TameA S)(hD:S.left<D)(hn0:S.nts.length+10*S.left<=90000)(hc:0<=c/\c<=40000) :
  Calls Tryz.prog 147 #[.pointer (some ⟨p,0,none⟩),.agg #[V Z 0,V Z 0,V Z 0,V Z 0,V Z arg,V Z 0,V Z 0,V Z 0,V Z alg,V Z N,V Z mode,V Z base,V Z loc,V Z room,V Z 0,V Z 0,V Z 0,V Z 0,V Z 0,V Z 0,V Z 0,V Z c,V Z l],V Z m,V Z t] w (Post encB B p w ((insideA (inA (lkA D alg N base loc room rs m) D) (lkR alg N base loc rs m) (enterA c t (permM arg))).run S)):=by
 generalize hR:Post encB B p w ((insideA (inA (lkA D alg N base loc room rs m) D) (lkR alg N base loc rs m) (enterA c t (permM arg))).run S)=R
 have hO:Owes R encB B p w ((insideA (inA (lkA D alg N base loc room rs m) D) (lkR alg N base loc rs m) (enterA c t (permM arg))).run S):=hR▸owes _ _ _ _ _
 clear hR
 obtain⟨b1,hK,hP⟩:=h.entry (.cells #[V Z 0,V Z 0,V Z 0,V Z 0,V Z arg,V Z 0,V Z 0,V Z 0,V Z alg,V Z N,V Z mode,V Z base,V Z loc,V Z room,V Z 0,V Z 0,V Z 0,V Z 0,V Z 0,V Z 0,V Z 0,V Z c,V Z l] 69)
 have c_b1:=b1.cells
 clear h
 have hpm:=fun w=>perm_p arg alg N mode base loc room c l w
 have hin:=Hd fun S w hP hta hD hn0=>in_p B p N D S alg mode base loc room m rs w hP hk hta hD hn0
 have hout:=Hd fun S w hP hn0=>out_p B p N S alg mode base loc room m rs w hP hk hn0
 have hpay:=Hd (lkA_pays D alg N base loc room rs m D)
 have hUn:=Hd (notes_lkR alg N base loc rs m)
 generalize inA (lkA D alg N base loc room rs m) D=I at *
 generalize lkR alg N base loc rs m=U at *
 have hw0:=IntWalk.i64_in (c+0) (by omega)
 have hw1:=IntWalk.i64_in (c+1) (by omega)
 have hw2:=IntWalk.i64_in (c+2) (by omega)
 clear hk
 generalize permM arg=P at *
 unfold insideA at hO
 obtain⟨t1,ht1⟩:∃ x,wrap64 (t+1)=x:=⟨_,rfl⟩
 have hwt:IntKind.i64.wrap (t+1)=t1:=by rw [<- ht1,IntKind.wrap_i64];unfold wrap64;omega
 have hOh:=Hd hO
 clear hO
 go_enter Tryz.func147,Tryz.ntmps147
 go_wp2_with fail
 refine tstep hOh.out hK (hin.out S _ hP hta hD hn0) (fun _ h=>⟨rfl,h⟩) ?_
 clear hOh hK hP
 intro u0 S1 wS1 hrun hP hk1 hK hO
 have hpy:=hpay.out S _ S1 hrun hP.1
 have hnS:S1.nts.length<=90004:=by omega
 replace hta:=hta.run hrun
 replace b1:=b1.keep hk1
 clear hk1 c_b1 hrun hpy
 have c_b1:=b1.cells
 rw [enterA_bind,ht1] at hO
 clear ht1
 have hOh:=Hd hO
 clear hO
 go_wp2_with fail
 refine tstepA (notes_rd _) hOh.out hK (read_p B p S1 _ _ hP) (fun _ h=>⟨rfl,h⟩) ?_
 clear hOh hK hP
 intro hd S2 wS2 hrun hlf hla hnn hP hk1 hK hO
 replace b1:=b1.keep hk1
 clear hk1 c_b1
 have c_b1:=b1.cells
 by_cases he:hd=t
 · have de:(hd==t)=true:=by rw [beq_iff_eq];exact he
   rw [if_pos he] at hO
   clear he
   have hOh:=Hd hO
   clear hO
   go_wp2_with fail
   refine tstepA (notes_rd _) hOh.out hK (read_p B p S2 _ _ hP) (fun _ h=>⟨rfl,h⟩) ?_
   clear hOh hK hP
   intro x S3 wS3 hrun hlf hla hnn hP hk1 hK hO
   replace b1:=b1.keep hk1
   clear hk1 c_b1
   have c_b1:=b1.cells
   obtain⟨x1,hx1⟩:∃ y,wrap64 (x+1)=y:=⟨_,rfl⟩
   have hwx:IntKind.i64.wrap (x+1)=x1:=by rw [<- hx1,IntKind.wrap_i64];unfold wrap64;omega
   rw [hx1] at hO
   clear hx1
   have hOh:=Hd hO
   clear hO
   go_upto_region 5 with fail
   refine wp_region_lit ?_
   refine load_obj rfl _ rfl rfl _ rfl _ rfl b1.1 rfl ?_
   try simp only [put_pack]
   go_wp2_with fail
   refine (hpm _).mono ?_
   rintro e w' ⟨rfl,hx⟩
   replace hK:=hK.trans (Keep.of_ext hx hP.lt hP.le)
   replace b1:=b1.ext hx hP.lt
   replace hP:=hP.ext hx
   clear hx c_b1
   have c_b1:=b1.cells
   by_cases hlt:x<P
   · have dl:decide (x<P)=true:=by rw [decide_eq_true_eq];exact hlt
     replace hO:=hOh.out
     rw [if_pos hlt] at hO
     clear hOh hlt
     have hOh:=Hd hO
     clear hO
     go_wp2_with fail
     refine tstepA (notes_wr _ _) hOh.out hK (write_p B p S3 _ _ _ hP) (fun _ h=>⟨rfl,h⟩) ?_
     clear hOh hK hP
     intro u S4 wS4 hrun hlf hla hnn hP hk1 hK hO
     replace b1:=b1.keep hk1
     clear hk1 c_b1
     have c_b1:=b1.cells
     have hOh:=Hd hO
     clear hO
     go_wp2_with fail
     refine tstepA (notes_wr _ _) hOh.out hK (write_p B p S4 _ _ _ hP) (fun _ h=>⟨rfl,h⟩) ?_
     clear hOh hK hP
     intro u S5 wS5 hrun hlf hla hnn hP hk1 hK hO
     replace b1:=b1.keep hk1
     clear hk1 c_b1
     have c_b1:=b1.cells
     have hOh:=Hd hO
     clear hO
     go_wp2_with fail
     refine tstep hOh.out hK (hout.out S5 _ hP (by omega)) (fun _ h=>⟨rfl,h⟩) ?_
     clear hOh hK hP
     intro u9 S9 w9 hrun hP hk1 hK hO
     replace b1:=b1.keep hk1
     clear hk1 c_b1
     have c_b1:=b1.cells
     have hf:=hO.done hP hK
     clear hO hP hK
     go_wp2_with fail
     first | exact hf | (go_ret;exact hf)
   · have dl:decide (x<P)=false:=by rw [decide_eq_false_iff_not];exact hlt
     replace hO:=hOh.out
     rw [if_neg hlt] at hO
     clear hOh hlt
     have hOh:=Hd hO
     clear hO
     go_wp2_with fail
     refine tstep hOh.out hK (hout.out S3 _ hP (by omega)) (fun _ h=>⟨rfl,h⟩) ?_
     clear hOh hK hP
     intro u9 S9 w9 hrun hP hk1 hK hO
     replace b1:=b1.keep hk1
     clear hk1 c_b1
     have c_b1:=b1.cells
     have hf:=hO.done hP hK
     clear hO hP hK
     go_wp2_with fail
     first | exact hf | (go_ret;exact hf)
 · have de:(hd==t)=false:=by rw [beq_eq_false_iff_ne];exact he
   rw [if_neg he] at hO
   clear he
   have hOh:=Hd hO
   clear hO
   go_wp2_with fail
   refine tstep hOh.out hK (hout.out S2 _ hP (by omega)) (fun _ h=>⟨rfl,h⟩) ?_
   clear hOh hK hP
   intro u9 S9 w9 hrun hP hk1 hK hO
   replace b1:=b1.keep hk1
   clear hk1 c_b1
   have c_b1:=b1.cells
   have hf:=hO.done hP hK
   clear hO hP hK
   go_wp2_with fail
   first | exact hf | (go_ret;exact hf)
set_option maxRecDepth 100000 in
theorem take_p (B p N D:Nat)(S:TS)(arg alg mode base loc room c l:Int)(m:Nat)(rs:List Reg)(w:World)(h:Plays B w p S)(hk:LkUse alg N mode base loc room rs m)(hta:TameA S)(hD:S.left<D)(hn0:S.nts.length+10*S.left<=90000)(hc:0<=c/\c<=40000) :
  Calls Tryz.prog 65 #[.pointer (some ⟨p,0,none⟩),.agg #[V Z 0,V Z 0,V Z 0,V Z 0,V Z arg,V Z 0,V Z 0,V Z 0,V Z alg,V Z N,V Z mode,V Z base,V Z loc,V Z room,V Z 0,V Z 0,V Z 0,V Z 0,V Z 0,V Z 0,V Z 0,V Z c,V Z l],V Z m] w (Post encI B p w ((takeA (inA (lkA D alg N base loc room rs m) D) (lkR alg N base loc rs m) c l (permM arg) D).run S)):=by
 generalize hR:Post encI B p w ((takeA (inA (lkA D alg N base loc room rs m) D) (lkR alg N base loc rs m) c l (permM arg) D).run S)=R
 have hO:Owes R encI B p w ((takeA (inA (lkA D alg N base loc room rs m) D) (lkR alg N base loc rs m) c l (permM arg) D).run S):=hR▸owes _ _ _ _ _
 clear hR
 obtain⟨b1,hK,hP⟩:=h.entry (.cells #[V Z 0,V Z 0,V Z 0,V Z 0,V Z arg,V Z 0,V Z 0,V Z 0,V Z alg,V Z N,V Z mode,V Z base,V Z loc,V Z room,V Z 0,V Z 0,V Z 0,V Z 0,V Z 0,V Z 0,V Z 0,V Z c,V Z l] 69)
 have c_b1:=b1.cells
 clear h
 have hse:=Hd fun S t w hP hta hD hn0=>senter_p B p N D S t arg alg mode base loc room c l m rs w hP hk hta hD hn0 hc
 have hin:=Hd fun S w hP hta hD hn0=>in_p B p N D S alg mode base loc room m rs w hP hk hta hD hn0
 have hout:=Hd fun S w hP hn0=>out_p B p N S alg mode base loc room m rs w hP hk hn0
 have hpay:=Hd (lkA_pays D alg N base loc room rs m D)
 have hUn:=Hd (notes_lkR alg N base loc rs m)
 generalize inA (lkA D alg N base loc room rs m) D=I at *
 generalize lkR alg N base loc rs m=U at *
 have hw0:=IntWalk.i64_in (c+0) (by omega)
 have hw1:=IntWalk.i64_in (c+1) (by omega)
 have hw2:=IntWalk.i64_in (c+2) (by omega)
 clear hk
 generalize permM arg=P at *
 have hpI:=Hd (insideA_pays hpay.out hUn.out (tailA_pays c))
 unfold takeA at hO
 rw [insideA_bind] at hO
 have hOh:=Hd hO
 clear hO
 go_enter Tryz.func65,Tryz.ntmps65
 go_wp2_with fail
 refine tstep hOh.out hK (hin.out S _ hP hta hD hn0) (fun _ h=>⟨rfl,h⟩) ?_
 clear hOh hK hP
 intro u0 S1 w1 hrun hP hk1 hK hO
 have hpy:=hpay.out S _ S1 hrun hP.1
 have hlf1:=Prog.run_left I S
 rw [hrun] at hlf1
 simp only at hlf1
 replace hta:=hta.run hrun
 replace b1:=b1.keep hk1
 clear hk1 c_b1 hrun
 have c_b1:=b1.cells
 rw [tailA_bind] at hO
 have hOh:=Hd hO
 clear hO
 go_wp2_with fail
 refine tstepA (notes_rd _) hOh.out hK (read_p B p S1 _ _ hP) (fun _ h=>⟨rfl,h⟩) ?_
 clear hOh hK hP
 intro t S2 wS2 hrun hlf hla hnn hP hk1 hK hO
 replace b1:=b1.keep hk1
 clear hk1 c_b1
 have c_b1:=b1.cells
 have hl2:=hla (asks_rd _)
 have hn2:=hnn
 replace hta:=hta.run hrun
 clear hlf hla hnn hrun
 obtain⟨t1,ht1⟩:∃ x,wrap64 (t+1)=x:=⟨_,rfl⟩
 have hwt:IntKind.i64.wrap (t+1)=t1:=by rw [<- ht1,IntKind.wrap_i64];unfold wrap64;omega
 rw [ht1] at hO
 clear ht1
 have hOh:=Hd hO
 clear hO
 go_wp2_with fail
 refine tstepA (notes_wr _ _) hOh.out hK (write_p B p S2 _ _ _ hP) (fun _ h=>⟨rfl,h⟩) ?_
 clear hOh hK hP
 intro u S3 wS3 hrun hlf hla hnn hP hk1 hK hO
 replace b1:=b1.keep hk1
 clear hk1 c_b1
 have c_b1:=b1.cells
 replace hta:=hta.run hrun
 clear hla hrun hwt
 have hOh:=Hd hO
 clear hO
 go_wp2_with fail
 refine tstep hOh.out hK (hout.out S3 _ hP (by omega)) (fun _ h=>⟨rfl,h⟩) ?_
 clear hOh hK hP
 intro u9 S4 w4 hrun hP hk1 hK hO
 have hn4:=hUn.out.run S3
 have hlf4:=Prog.run_left U S3
 rw [hrun] at hn4 hlf4
 simp only at hn4 hlf4
 replace hta:=hta.run hrun
 replace b1:=b1.keep hk1
 replace hD:S4.left<D:=by omega
 replace hn0:S4.nts.length+10*S4.left<=90000:=by omega
 clear hk1 c_b1 hrun hn4 hlf4 hlf hnn hn2 hl2 hpy hlf1 hin hout
 have hOh:=Hd hO
 clear hO
 generalize w.heap.size=z at *
 have c_b1:=b1.cells
 go_wp2_with fail
 clear c_b1
 obtain⟨F,hF⟩:∃ F:Unit->Prog Int,F=fun _=>(gt l).bind fun x=>(st l (wrap64 (x+1))).bind fun _=>.ret 0:=⟨_,rfl⟩
 have hFh:=Hd hF
 replace hOh:Hid (Owes R encI B p w (((enterW I U c t P D).bind F).run S4)):=by rw [hF];exact hOh
 clear hF
 go_loopw [] (fun wr'=>∃ (n:Nat) (S2:TS),Plays B wr' p S2/\KeepP B p w wr'/\HeldP wr' p z (.cells #[V Z 0,V Z 0,V Z 0,V Z 0,V Z arg,V Z 0,V Z 0,V Z 0,V Z alg,V Z N,V Z mode,V Z base,V Z loc,V Z room,V Z 0,V Z 0,V Z 0,V Z 0,V Z 0,V Z 0,V Z 0,V Z c,V Z l] 69)/\TameA S2/\S2.left<D/\S2.nts.length+10*S2.left<=90000/\S2.left<n/\Hid (Owes R encI B p w (((enterW I U c t P n).bind F).run S2))) (fun wr'=>leftW 1 3 wr' p)
 case atStart=>exact⟨D,S4,hP,hK,b1,hta,hD,hn0,hD,hOh⟩
 case round =>
  clear hP hK b1 hta hD hn0 hOh
  obtain⟨n,S2,hP,hK,b1,hta,hD,hn0,hn,hO⟩:=hrel
  replace hO:=hO.out
  have hlw:=Hd hP.left
  cases n with
  | zero=>omega
  | succ n =>
    rw [show enterW I U c t P (n+1)=(insideA I U (enterA c t P)).bind fun g=>if g=true then .ret () else enterW I U c t P n from rfl,Prog.bind_assoc] at hO
    have hOh:=Hd hO
    clear hO
    go_upto_region 5 with fail
    refine wp_region_lit ?_
    refine load_obj rfl _ rfl rfl _ rfl z rfl b1.1 rfl ?_
    try simp only [put_pack]
    go_wp2_with fail
    refine tstep hOh.out hK (hse.out S2 t _ hP hta hD hn0) (fun _ h=>⟨rfl,h⟩) ?_
    clear hOh hK hP
    intro x S3 w3 hrun hP hk hK hO
    have hlw2:=Hd hP.left
    have hdec:=(insideA_asks I U (enterA_asks c t P)).left hrun hP.1
    have hpy:=(insideA_pays hpay.out hUn.out ((enterA_asks c t P).pays (enterA_notes c t P))) S2 x S3 hrun hP.1
    replace b1:=b1.keep hk
    replace hta:=hta.run hrun
    clear hk hrun
    have c_b1:=b1.cells
    cases x with
    | true =>
      replace hO:Owes R encI B p w ((F ()).run S3):=hO
      rw [hFh.out] at hO
      clear hlw hlw2 hFh
      go_wp2_with fail
      replace hP:=hP.drew
      replace hK:=hK.drew
      replace b1:=b1.drew
      go_region_held2 (fun w'=>w'.cell? ⟨z,22,none⟩=some (V Z l)) (first | go_keep | exact c_b1 22)
       (first
         | (go_at_call 95
            refine (get_p B p S3 l _ hP).mono ?_
            rintro e w' ⟨rfl,rfl⟩
            rw [run_gt] at hO
            generalize S3.got l=g at hO ⊢
            obtain⟨g1,hg1⟩:∃ y,wrap64 (g+1)=y:=⟨_,rfl⟩
            have hwg:IntKind.i64.wrap (g+1)=g1:=by rw [<- hg1,IntKind.wrap_i64];unfold wrap64;omega
            rw [hg1] at hO
            clear hg1)
         | (go_at_call 132
            refine tstep hO hK (setO hP) (fun _ h=>⟨rfl,h⟩) ?_
            clear hO hK hP c_b1
            intro u S4 w4 hr hP hk1 hK hO
            replace b1:=b1.keep hk1
            have c_b1:=b1.cells
            clear hr hk1))
      have hf:=hO.done hP hK
      clear hO hP hK b1 c_b1
      go_wp2_with fail
      first | exact hf | (go_ret;exact hf)
    | false =>
      replace hO:Owes R encI B p w (((enterW I U c t P n).bind F).run S3):=hO
      have hOh:=Hd hO
      clear hO c_b1
      go_wp2_with fail
      refine⟨⟨n,S3,hP,hK,b1,hta,by omega,by omega,by omega,hOh⟩,?_⟩
      rw [hlw.out,hlw2.out]
      omega
set_option maxRecDepth 100000 in
set_option maxHeartbeats 1000000 in
theorem give_p (B p N D:Nat)(S:TS)(arg alg mode base loc room c l:Int)(m:Nat)(rs:List Reg)(w:World)(h:Plays B w p S)(hk:LkUse alg N mode base loc room rs m)(hta:TameA S)(hD:S.left<D)(hn0:S.nts.length+10*S.left<=90000)(hc:0<=c/\c<=40000) :
  Calls Tryz.prog 68 #[.pointer (some ⟨p,0,none⟩),.agg #[V Z 0,V Z 0,V Z 0,V Z 0,V Z arg,V Z 0,V Z 0,V Z 0,V Z alg,V Z N,V Z mode,V Z base,V Z loc,V Z room,V Z 0,V Z 0,V Z 0,V Z 0,V Z 0,V Z 0,V Z 0,V Z c,V Z l],V Z m] w (Post encI B p w ((giveA (inA (lkA D alg N base loc room rs m) D) (lkR alg N base loc rs m) c l).run S)):=by
 generalize hR:Post encI B p w ((giveA (inA (lkA D alg N base loc room rs m) D) (lkR alg N base loc rs m) c l).run S)=R
 have hO:Owes R encI B p w ((giveA (inA (lkA D alg N base loc room rs m) D) (lkR alg N base loc rs m) c l).run S):=hR▸owes _ _ _ _ _
 clear hR
 obtain⟨b1,hK,hP⟩:=h.entry (.cells #[V Z 0,V Z 0,V Z 0,V Z 0,V Z arg,V Z 0,V Z 0,V Z 0,V Z alg,V Z N,V Z mode,V Z base,V Z loc,V Z room,V Z 0,V Z 0,V Z 0,V Z 0,V Z 0,V Z 0,V Z 0,V Z c,V Z l] 69)
 have c_b1:=b1.cells
 clear h
 have hin:=Hd fun S w hP hta hD hn0=>in_p B p N D S alg mode base loc room m rs w hP hk hta hD hn0
 have hout:=Hd fun S w hP hn0=>out_p B p N S alg mode base loc room m rs w hP hk hn0
 have hpay:=Hd (lkA_pays D alg N base loc room rs m D)
 have hUn:=Hd (notes_lkR alg N base loc rs m)
 generalize inA (lkA D alg N base loc room rs m) D=I at *
 generalize lkR alg N base loc rs m=U at *
 have hw0:=IntWalk.i64_in (c+0) (by omega)
 have hwc:=IntWalk.i64_in c (by omega)
 have hw1:=IntWalk.i64_in (c+1) (by omega)
 have hw2:=IntWalk.i64_in (c+2) (by omega)
 clear hk
 unfold giveA at hO
 rw [run_gt] at hO
 have hOh:=Hd hO
 clear hO
 go_enter Tryz.func68,Tryz.ntmps68
 go_wp2_with fail
 refine (get_p B p S l _ hP).mono ?_
 rintro e w' ⟨rfl,rfl⟩
 have hO:=hOh.out
 clear hOh
 generalize S.got l=g at hO ⊢
 by_cases hg:g=0
 · have dg:(g==0)=true:=by rw [beq_iff_eq];exact hg
   rw [if_pos hg] at hO
   clear hg
   have hf:=hO.done hP hK
   clear hO hP hK
   go_wp2_with fail
   first | exact hf | (go_ret;exact hf)
 have dg:(g==0)=false:=by rw [beq_eq_false_iff_ne];exact hg
 obtain⟨g1,hg1⟩:∃ y,wrap64 (g-1)=y:=⟨_,rfl⟩
 have hwg:IntKind.i64.wrap (g-1)=g1:=by rw [<- hg1,IntKind.wrap_i64];unfold wrap64;omega
 rw [if_neg hg,hg1,insideA_bind] at hO
 clear hg hg1
 have hOh:=Hd hO
 clear hO
 go_wp2_with fail
 refine tstep hOh.out hK (hin.out S _ hP hta hD hn0) (fun _ h=>⟨rfl,h⟩) ?_
 clear hOh hK hP
 intro u0 S1 wS1 hrun hP hk1 hK hO
 have hpy:=hpay.out S _ S1 hrun hP.1
 have hnS:S1.nts.length<=90004:=by omega
 replace hta:=hta.run hrun
 replace b1:=b1.keep hk1
 clear hk1 c_b1 hrun hpy
 have c_b1:=b1.cells
 unfold lowerA at hO
 rw [Prog.bind_assoc] at hO
 have hOh:=Hd hO
 clear hO
 go_wp2_with fail
 replace hP:=hP.drew
 replace hK:=hK.drew
 replace b1:=b1.drew
 have hO:=hOh.out
 clear hOh c_b1
 have c_c:(_:World).cell? ⟨w.heap.size,21,none⟩=some (V Z c):=b1.cells 21
 refine wp_region_held_drew (S:=fun w'=>w'.cell? ⟨w.heap.size,21,none⟩=some (V Z c)) rfl c_c (fun hHeld=>?_)
 refine tkb 0 ?_
 iterate 8
  refine tkn (v:=?_) rfl (by kernel_rfl) (fun _ _ _ h=>h) (by assumption) ?_ ?_
  rotate_left
  · (intro w hSw;(try dsimp only at hSw);go_simp;try with_reducible rfl)
  try simp only [put_pack]
 refine tke ?_
 refine wpAnyH_ready (rs:=[8]) (by kernel_rfl) (by simp) ?_
 refine AllReadyH.cons rfl (fun K hKK=>?_) (AllReadyH.nil)
 go_simp
 refine tstepA (notes_rd _) hO hK (read_p B p S1 _ _ hP) (fun _ h=>⟨rfl,h⟩) ?_
 clear hO hK hP c_c
 intro x S2 wS2 hrun hlf hla hnn hP hk1 hK hO
 replace b1:=b1.keep hk1
 have c_c:(_:World).cell? ⟨w.heap.size,21,none⟩=some (V Z c):=b1.cells 21
 have hxb:=rd_bd hta hrun
 have hwx:=IntWalk.i64_in (x-1) (by omega)
 clear hk1 hrun hla
 refine hKK.out _ _ c_c (fun hHeld=>?_)
 clear hKK K
 try dsimp only
 refine tk 9 (v:=?_) rfl (by kernel_rfl) (fun _ _ _ h=>h) (by assumption) ?_ ?_
 rotate_left
 · (intro w hSw;(try dsimp only at hSw);go_simp;try with_reducible rfl)
 try simp only [put_pack]
 refine tk 10 (v:=?_) rfl (by kernel_rfl) (fun _ _ _ h=>h) (by assumption) ?_ ?_
 rotate_left
 · (intro w hSw;(try dsimp only at hSw);go_simp;try with_reducible rfl)
 try simp only [put_pack]
 refine wpAnyH_ready (rs:=[11]) (by kernel_rfl) (by simp) ?_
 refine AllReadyH.cons rfl (fun K hKK=>?_) (AllReadyH.nil)
 go_simp
 refine tstepA (notes_wr _ _) hO hK (write_p B p S2 _ _ _ hP) (fun _ h=>⟨rfl,h⟩) ?_
 clear hO hK hP c_c
 intro u S3 wS3 hrun hlf hla hnn hP hk1 hK hO
 replace b1:=b1.keep hk1
 have c_c:(_:World).cell? ⟨w.heap.size,21,none⟩=some (V Z c):=b1.cells 21
 clear hk1 hrun hla
 refine hKK.out _ _ c_c (fun hHeld=>?_)
 clear hKK K
 try dsimp only
 refine wpAnyH_done (by kernel_rfl) ?_ _
 go_simp
 clear c_c
 have c_b1:=b1.cells
 have hOh:=Hd hO
 clear hO
 go_wp2_with fail
 refine tstep hOh.out hK (hout.out S3 _ hP (by omega)) (fun _ h=>⟨rfl,h⟩) ?_
 clear hOh hK hP
 intro u9 S9 w9 hrun hP hk1 hK hO
 replace b1:=b1.keep hk1
 clear hk1 c_b1
 have c_b1:=b1.cells
 clear hrun
 have hOh:=Hd hO
 clear hO
 go_wp2_with fail
 refine tstep hOh.out hK (setO hP) (fun _ h=>⟨rfl,h⟩) ?_
 clear hOh hK hP
 intro u S4 w4 hr hP hk1 hK hO
 clear hr hk1 b1 c_b1
 have hf:=hO.done hP hK
 clear hO hP hK
 go_wp2_with fail
 first | exact hf | (go_ret;exact hf)
end Go.Proofs.YtbaajjkopdjbgaaGreat
