/-
  LockPlaysSaid: part 12 of its proof.
-/
import Derived.Test.YtbaajjkopdjbgaaGreatJLockPlaysSaid11
import Derived.Deep.CutBlock
import Derived.Deep.DeepCutAuto
import Derived.Laws.MakeOwn
import Derived.Deep.RegionHeld2
import Derived.BigQuiet
import Derived.Deep.QuietTactic
namespace Go.Proofs.YtbaajjkopdjbgaaGreat
open Go.RowKit Kv
theorem n23_r (alg mode base loc room:Int)(N:Nat)(w:World)(h1:1≤N)(h2:N≤8) :
  Calls Tryz.prog 106 #[.agg #[.int .i64 alg,.int .i64 N,.int .i64 mode,.int .i64 base,.int .i64 loc,.int .i64 room]] w fun e w'=>e=.returned (.int .i64 N)∧Ext w w':=by
 have hn:nM (N:Int)=N:=nM_id (by omega) (by omega)
 have hX:=Ext.refl w
 have b1:=Blk.new w (.cells #[.int .i64 alg,.int .i64 N,.int .i64 mode,.int .i64 base,.int .i64 loc,.int .i64 room] 23)
 replace hX:=hX.alloc (.cells #[.int .i64 alg,.int .i64 N,.int .i64 mode,.int .i64 base,.int .i64 loc,.int .i64 room] 23)
 have c_b1:=b1.cells
 go_enter Tryz.func106,Tryz.ntmps106
 go_wp2_with fail
 refine (rn_any ⟨0,0,0,N,0,0,0⟩ _).mono ?_
 rintro e w1 ⟨rfl,hx⟩
 simp only
 rw [hn]
 have hf:=Lib.hid (hX.trans hx)
 clear hx hn
 go_wp2_with fail
 go_ret
 exact⟨rfl,hf.out⟩
theorem room23_r (alg N mode base loc room:Int)(w:World)(h1:1≤room)(h2:room≤1048576) :
  Calls Tryz.prog 198 #[.agg #[.int .i64 alg,.int .i64 N,.int .i64 mode,.int .i64 base,.int .i64 loc,.int .i64 room]] w fun e w'=>e=.returned (.int .i64 room)∧Ext w w':=by
 have hc:clamp room 1048576=room:=by unfold clamp within;omega
 have d1:decide (room<1)=false:=by rw [decide_eq_false_iff_not];omega
 have hX:=Ext.refl w
 have b1:=Blk.new w (.cells #[.int .i64 alg,.int .i64 N,.int .i64 mode,.int .i64 base,.int .i64 loc,.int .i64 room] 23)
 replace hX:=hX.alloc (.cells #[.int .i64 alg,.int .i64 N,.int .i64 mode,.int .i64 base,.int .i64 loc,.int .i64 room] 23)
 have c_b1:=b1.cells
 have hf:=Lib.hid hX
 clear hX
 go_enter Tryz.func198,Tryz.ntmps198
 go_wp2_with fail
 refine (clamp_r _ _ _).mono ?_
 rintro e w' ⟨rfl,rfl⟩
 rw [hc]
 go_wp2_with fail
 go_ret
 exact⟨rfl,hf.out⟩
set_option maxRecDepth 100000 in
set_option maxHeartbeats 4000000 in
theorem bakwait_r (B p N D m j:Nat)(o:Bool)(S:TS)(alg mode base loc room T:Int)(w:World)(h:RAt B w p o S)(h1:1≤N)(h2:N≤8)(hj1:j<N)(hba:0≤base∧base≤32768)(hD:S.left<D) :
  Calls Tryz.prog 199 #[.pointer (some ⟨p,0,none⟩),.agg #[.int .i64 alg,.int .i64 N,.int .i64 mode,.int .i64 base,.int .i64 loc,.int .i64 room],.int .i64 m,.int .i64 j,.int .i64 T] w (RPost encU B p w (bakFor D base N m T j) o S):=by
 generalize hR:RPost encU B p w (bakFor D base N m T j) o S=R
 have hO:ROwes R encU B p w (bakFor D base N m T j) o S:=hR▸rowes _ _ _ _ _ _ _
 clear hR
 obtain⟨b1,hK,hP⟩:=h.entry (.cells #[.int .i64 alg,.int .i64 N,.int .i64 mode,.int .i64 base,.int .i64 loc,.int .i64 room] 23)
 have c_b1:=b1.cells
 clear h
 have hw1:=IntWalk.i64_in (base+(j:Int)) (by omega)
 have hw2:=IntWalk.i64_in (base+(N:Int)) (by omega)
 have hw3:=IntWalk.i64_in (base+(N:Int)+(j:Int)) (by omega)
 unfold bakFor at hO
 obtain⟨J,hJ⟩:∃ J:Int→Nat→Prog Unit,∀ xv n,J xv n=if xv=0 then bakWait (base+N+j) T m j D else (zeroC (base+j) n).bind fun _=>bakWait (base+N+j) T m j D:=⟨_,fun _ _=>rfl⟩
 rw [show ((zeroC (base+(j:Int)) D).bind fun _=>bakWait (base+N+j) T m j D)=J 1 D from (hJ 1 D).symm] at hO
 have hJh:=Lib.hid hJ
 have hOh:=Lib.hid hO
 clear hO hJ
 go_enter Tryz.func199,Tryz.ntmps199
 go_upto_block 0 with fail
 clear c_b1
 generalize hbb:w.heap.size=z at *
 generalize World.alloc w _=W0 at *
 clear hbb
 go_cut [] (fun wx=>∃ (o2:Bool) (S2:TS),RAt B wx p o2 S2∧KeepR B p w wx∧HeldR wx p z (.cells #[.int .i64 alg,.int .i64 N,.int .i64 mode,.int .i64 base,.int .i64 loc,.int .i64 room] 23)∧S2.left<D∧Hid (ROwes R encU B p w (bakWait (base+N+j) T m j D) o2 S2))
 case first =>
  go_wp2_with fail
  go_loopw [10] (fun u wr=>∃ (xv:Int) (n:Nat) (o2:Bool) (S2:TS),u=.int .i64 xv∧RAt B wr p o2 S2∧KeepR B p w wr∧HeldR wr p z (.cells #[.int .i64 alg,.int .i64 N,.int .i64 mode,.int .i64 base,.int .i64 loc,.int .i64 room] 23)∧S2.left<D∧Hid (ROwes R encU B p w (J xv n) o2 S2)∧(o2=false→xv≠0→S2.left<n)) (fun _ wr=>leftR wr p)
  case atStart=>exact⟨1,D,o,S,rfl,hP,hK,b1,hD,hOh,fun _ _=>hD⟩
  case round =>
   clear hP hK b1 hD hOh
   obtain⟨xv,n,o2,S2,rfl,hP,hK,b1,hD,hOh,hn⟩:=hrel
   have hlw:=Lib.hid hP.leftR
   obtain⟨_,_,_,_,_,hcc⟩:=hP.cell
   by_cases hx:xv=0
   · have dx:(xv != 0)=false:=by simpa using hx
     replace hO:=hOh.out
     rw [hJh.out,if_pos hx] at hO
     have hf:=Lib.hid hO
     clear hO hOh hx hn hcc
     go_wp2_with fail
     go_meet
     exact⟨o2,S2,hP,hK,b1,hD,hf⟩
   · have dx:(xv != 0)=true:=by simpa using hx
     cases o2 with
     | true =>
       have hf:=Lib.hid (hOh.out.any (bakWait (base+N+j) T m j D))
       clear hOh hx hn
       go_wp2_with fail
       go_meet
       exact⟨true,S2,hP,hK,b1,hD,hf⟩
     | false =>
       have hn:=hn rfl hx
       cases n with
       | zero=>omega
       | succ n =>
         replace hO:=hOh.out
         rw [hJh.out,if_neg hx,zeroC_bind] at hO
         clear hOh hx
         have hOh:=Lib.hid hO
         clear hO
         have c_b1:=b1.cells
         go_wp2_with fail
         clear hcc c_b1
         refine rstepA (notes_rd _) hOh.out hK (read_r B p false S2 _ _ hP) ?_
         clear hOh hK hP
         intro x o3 S3 w3 htm hlf hdn _ hP hk hK hO
         replace b1:=b1.keep hk
         clear hk htm
         have hn3:o3=false→x≠0→S3.left<n:=fun ho _=>by have:=(hdn ho).2.2 (asks_rd _);omega
         have hlw2:=Lib.hid hP.leftR
         have hdec:o3=false→S3.left<S2.left:=fun ho=>(hdn ho).2.2 (asks_rd _)
         replace hD:=Nat.lt_of_le_of_lt hlf hD
         clear hdn
         have hf:Hid (ROwes R encU B p w (J x n) o3 S3):=by
          refine Lib.hid ?_
          rw [hJh.out]
          exact hO
         clear hO
         go_wp2_with fail
         refine⟨⟨x,n,o3,S3,rfl,hP,hK,b1,hD,hf,hn3⟩,?_⟩
         rw [hlw.out,hlw2.out]
         cases o3 with
         | true=>simp;omega
         | false=>have:=hdec rfl;simp;omega
 case rest =>
  clear hP hK b1 hD hOh
  obtain⟨o2,S2,hP,hK,b1,hD,hOh⟩:=hcut
  obtain⟨J2,hJ2⟩:∃ J:Bool→Nat→Prog Unit,∀ bv n,J bv n=if bv=true then bakWait (base+N+j) T m j n else .ret ():=⟨_,fun _ _=>rfl⟩
  have hOh2:Hid (ROwes R encU B p w (J2 true D) o2 S2):=by
   refine Lib.hid ?_
   rw [hJ2]
   exact hOh.out
  have hJ2h:=Lib.hid hJ2
  clear hOh hJ2
  go_wp2_with fail
  go_loopw [11] (fun u wr=>∃ (bv:Bool) (n:Nat) (o2:Bool) (S2:TS),u=.bool bv∧RAt B wr p o2 S2∧KeepR B p w wr∧HeldR wr p z (.cells #[.int .i64 alg,.int .i64 N,.int .i64 mode,.int .i64 base,.int .i64 loc,.int .i64 room] 23)∧Hid (ROwes R encU B p w (J2 bv n) o2 S2)∧(o2=false→bv=true→S2.left<n)) (fun _ wr=>leftR wr p)
  case atStart=>exact⟨true,D,o2,S2,rfl,hP,hK,b1,hOh2,fun _ _=>hD⟩
  case round =>
   clear hP hK b1 hD hOh2
   obtain⟨bv,n,o2,S2,rfl,hP,hK,b1,hOh,hn⟩:=hrel
   have hlw:=Lib.hid hP.leftR
   obtain⟨_,_,_,_,_,hcc⟩:=hP.cell
   cases bv with
   | false =>
     replace hO:=hOh.out
     rw [hJ2h.out,if_neg (by decide)] at hO
     have hf:R (.returned (encU ())) wr:=hO.ret hP hK
     clear hO hOh hn hP hK hcc b1 hlw
     go_wp2_with fail
     first | exact hf | (refine bodyPost_ret (results_none rfl _ _ _) rfl ?_;exact hf)
   | true =>
     cases o2 with
     | true =>
       have hf:R (.returned (encU ())) wr:=hOh.out.over () hP hK
       clear hOh hn hK b1 hlw
       go_wp2_with fail
       first | exact hf | (refine bodyPost_ret (results_none rfl _ _ _) rfl ?_;exact hf)
     | false =>
       have hn1:=hn rfl rfl
       clear hn
       cases n with
       | zero=>omega
       | succ n =>
         replace hO:=hOh.out
         rw [hJ2h.out,if_pos rfl,← Prog.bind_id (bakWait _ _ _ _ _),bakWait_bind] at hO
         clear hOh
         go_wp2_with fail
         clear hcc
         replace hP:=hP.drew
         replace hK:=hK.drew
         replace b1:=b1.drew
         have c_b1:=b1.cells
         go_region_held2 (fun w'=>∀ i:Nat,w'.cell? ⟨z,i,none⟩=(#[.int .i64 alg,.int .i64 N,.int .i64 mode,.int .i64 base,.int .i64 loc,.int .i64 room]:Array Value)[i]?) (first | with_reducible exact c_b1 | go_keep)
          (first
            | (go_at_call 106
               refine (n23_r alg mode base loc room N _ h1 h2).mono ?_
               rintro e w2 ⟨rfl,hx⟩
               clear c_b1
               replace hK:=hK.trans (Keep.of_ext hx hP.lt hP.le)
               replace b1:=b1.ext hx hP.lt
               have c_b1:=b1.cells
               replace hP:=hP.ext hx
               clear hx)
            | (go_at_call 134
               refine rstepA (notes_rd _) hO hK (read_r B p false S2 _ _ hP) ?_
               clear hO hK hP c_b1
               intro x o3 S3 w3 htm hlf hdn _ hP hk hK hO
               replace b1:=b1.keep hk
               have c_b1:=b1.cells
               clear hk htm))
         have hn3:o3=false→S3.left<n:=fun ho=>by have:=(hdn ho).2.2 (asks_rd _);omega
         have hlw2:=Lib.hid hP.leftR
         have hdec:o3=false→S3.left<S2.left:=fun ho=>(hdn ho).2.2 (asks_rd _)
         clear hdn c_b1 hn1
         rw [Prog.bind_id] at hO
         by_cases hq0:x=0
         · have d0:(x != 0)=false:=by simpa using hq0
           have hf:Hid (ROwes R encU B p w (J2 false n) o3 S3):=by
            refine Lib.hid ?_
            rw [hJ2h.out,if_neg (by decide)]
            rw [if_neg (by omega)] at hO
            exact hO
           clear hO hq0
           go_wp2_with fail
           refine⟨⟨false,n,o3,S3,rfl,hP,hK,b1,hf,fun _ h=>by cases h⟩,?_⟩
           rw [hlw.out,hlw2.out]
           cases o3 with
           | true=>simp;omega
           | false=>have:=hdec rfl;simp;omega
         · have d0:(x != 0)=true:=by simpa using hq0
           by_cases hq1:x<T
           · have d1:decide (x<T)=true:=by rw [decide_eq_true_eq];exact hq1
             have hf:Hid (ROwes R encU B p w (J2 true n) o3 S3):=by
              refine Lib.hid ?_
              rw [hJ2h.out,if_pos rfl]
              rw [if_pos (⟨hq0,.inl hq1⟩)] at hO
              exact hO
             clear hO hq0 hq1
             go_wp2_with fail
             refine⟨⟨true,n,o3,S3,rfl,hP,hK,b1,hf,fun ho _=>hn3 ho⟩,?_⟩
             rw [hlw.out,hlw2.out]
             cases o3 with
             | true=>simp;omega
             | false=>have:=hdec rfl;simp;omega
           · have d1:decide (x<T)=false:=by rw [decide_eq_false_iff_not];exact hq1
             by_cases hq2:x=T
             · have d2:(x==T)=true:=by simpa using hq2
               by_cases hq3:(j:Int)<(m:Int)
               · have d3:decide (j<m)=true:=by rw [decide_eq_true_eq];omega
                 have hf:Hid (ROwes R encU B p w (J2 true n) o3 S3):=by
                  refine Lib.hid ?_
                  rw [hJ2h.out,if_pos rfl]
                  rw [if_pos (⟨hq0,.inr ⟨hq2,hq3⟩⟩)] at hO
                  exact hO
                 clear hO hq0 hq1 hq2 hq3
                 go_wp2_with fail
                 refine⟨⟨true,n,o3,S3,rfl,hP,hK,b1,hf,fun ho _=>hn3 ho⟩,?_⟩
                 rw [hlw.out,hlw2.out]
                 cases o3 with
                 | true=>simp;omega
                 | false=>have:=hdec rfl;simp;omega
               · have d3:decide (j<m)=false:=by rw [decide_eq_false_iff_not];omega
                 have hf:Hid (ROwes R encU B p w (J2 false n) o3 S3):=by
                  refine Lib.hid ?_
                  rw [hJ2h.out,if_neg (by decide)]
                  rw [if_neg (by omega)] at hO
                  exact hO
                 clear hO hq0 hq1 hq2 hq3
                 go_wp2_with fail
                 refine⟨⟨false,n,o3,S3,rfl,hP,hK,b1,hf,fun _ h=>by cases h⟩,?_⟩
                 rw [hlw.out,hlw2.out]
                 cases o3 with
                 | true=>simp;omega
                 | false=>have:=hdec rfl;simp;omega
             · have d2:(x==T)=false:=by simpa using hq2
               have hf:Hid (ROwes R encU B p w (J2 false n) o3 S3):=by
                refine Lib.hid ?_
                rw [hJ2h.out,if_neg (by decide)]
                rw [if_neg (by omega)] at hO
                exact hO
               clear hO hq0 hq1 hq2
               go_wp2_with fail
               refine⟨⟨false,n,o3,S3,rfl,hP,hK,b1,hf,fun _ h=>by cases h⟩,?_⟩
               rw [hlw.out,hlw2.out]
               cases o3 with
               | true=>simp;omega
               | false=>have:=hdec rfl;simp;omega
set_option maxRecDepth 100000 in
set_option maxHeartbeats 4000000 in
theorem bakacq_r (B p N D:Nat)(o:Bool)(S:TS)(alg mode base loc room:Int)(m:Nat)(w:World)(h:RAt B w p o S)(h1:1≤N)(h2:N≤8)(hm1:m<N)(hba:0≤base∧base≤32768)(hro:1≤room∧room≤1048576)
  (hta:TameA S)(hD:S.left<D)(hn0:S.nts.length≤100000) :
  Calls Tryz.prog 108 #[.pointer (some ⟨p,0,none⟩),.agg #[.int .i64 alg,.int .i64 N,.int .i64 mode,.int .i64 base,.int .i64 loc,.int .i64 room],.int .i64 m] w (RPost encI B p w (bakA D base N room loc m) o S):=by
 generalize hR:RPost encI B p w (bakA D base N room loc m) o S=R
 have hO:ROwes R encI B p w (bakA D base N room loc m) o S:=hR▸rowes _ _ _ _ _ _ _
 clear hR
 obtain⟨b1,hK,hP⟩:=h.entry (.cells #[.int .i64 alg,.int .i64 N,.int .i64 mode,.int .i64 base,.int .i64 loc,.int .i64 room] 23)
 have c_b1:=b1.cells
 clear h
 unfold bakA at hO
 have hw1:=IntWalk.i64_in (base+(N:Int)) (by omega)
 have hw2:=IntWalk.i64_in (base+(m:Int)) (by omega)
 have hw3:=IntWalk.i64_in (base+(N:Int)+(m:Int)) (by omega)
 have hOh:=Lib.hid hO
 clear hO
 go_enter Tryz.func108,Tryz.ntmps108
 go_wp2_with fail
 refine (n23_r alg mode base loc room N _ h1 h2).mono ?_
 rintro e w1 ⟨rfl,hx⟩
 replace hK:=hK.trans (Keep.of_ext hx hP.lt hP.le)
 replace b1:=b1.ext hx hP.lt
 replace hP:=hP.ext hx
 clear hx c_b1
 generalize w.heap.size=z at *
 go_wp2_with fail
 refine rstepA (notes_nt 1) hOh.out hK (note_r B p o S 1 _ hP (by unfold maxAns;omega)) ?_
 clear hOh hK hP
 intro u o1 S1 wn htm hlf hdn hnn hP hk hK hO
 replace hta:=htm hta
 replace hD:=Nat.lt_of_le_of_lt hlf hD
 replace hn0:S1.nts.length≤100001:=by omega
 replace b1:=b1.keep hk
 clear hk htm hnn hlf
 clear hdn
 have hOh:=Lib.hid hO
 have c_b1:=b1.cells
 clear hO
 go_wp2_with fail
 clear c_b1
 refine rstepA (notes_wr _ _) hOh.out hK (write_r B p o1 S1 _ _ _ hP) ?_
 clear hOh hK hP
 intro u o2 S2 wn htm hlf hdn hnn hP hk hK hO
 replace hta:=htm hta
 replace hD:=Nat.lt_of_le_of_lt hlf hD
 replace hn0:S2.nts.length≤100001:=by omega
 replace b1:=b1.keep hk
 clear hk htm hnn hlf
 clear hdn
 obtain⟨F,hF⟩:∃ F:Int→Prog Int,F=bakIn D base N room loc m:=⟨_,rfl⟩
 rw [← hF,Int.toNat_natCast] at hO
 have hOh:=Lib.hid hO
 have hFh:=Lib.hid hF
 clear hO hF
 go_upto_block 0 with fail
 go_cut [8] (fun s8 wx=>∃ (tv:Int) (o2:Bool) (S2:TS),s8=.int .i64 tv∧RAt B wx p o2 S2∧KeepR B p w wx∧HeldR wx p z (.cells #[.int .i64 alg,.int .i64 N,.int .i64 mode,.int .i64 base,.int .i64 loc,.int .i64 room] 23)∧S2.left<D∧TameA S2∧S2.nts.length≤100001∧Hid (ROwes R encI B p w (F (tv-1)) o2 S2))
 case first =>
  go_wp2_with fail
  go_loopw [8,9,10] (fun u i v wr=>∃ (j:Nat) (tv:Int) (o2:Bool) (S2:TS),i=.int .i64 j∧u=.int .i64 tv∧j≤N∧(o2=false→1≤tv∧tv≤1048577)∧RAt B wr p o2 S2∧KeepR B p w wr∧HeldR wr p z (.cells #[.int .i64 alg,.int .i64 N,.int .i64 mode,.int .i64 base,.int .i64 loc,.int .i64 room] 23)∧S2.left<D∧TameA S2∧S2.nts.length≤100001∧Hid (ROwes R encI B p w ((forP (fun j t=>(rd (base+N+j)).bind fun x=>.ret (max t x)) (ranksFrom m (N-j) j) (tv-1)).bind F) o2 S2)) (fun _ i _ _=>N-(intOf i).toNat)
  case atStart=>exact⟨0,1,o2,S2,rfl,rfl,by omega,fun _=>by omega,hP,hK,b1,hD,hta,hn0,hOh⟩
  case round =>
   clear hP hK b1 hD hta hn0 hOh
   obtain⟨j,tv,o2,S2,rfl,rfl,hj,htv,hP,hK,b1,hD,hta,hn0,hOh⟩:=hrel
   by_cases hjN:j<N
   · have dj:decide ((j:Int)<(N:Int))=true:=by rw [decide_eq_true_eq];omega
     obtain⟨g,hg⟩:∃ g,N-j=g+1:=⟨N-j-1,by omega⟩
     by_cases hjm:j=m
     · subst hjm
       have djm:((j:Int) != (j:Int))=false:=by simp
       replace hO:=hOh.out
       rw [hg,ranks_skip,show g=N-(j+1) from by omega] at hO
       have hf:=Lib.hid hO
       clear hO hOh hg
       go_wp2_with fail
       refine⟨⟨j+1,tv,o2,S2,by go_num,rfl,by omega,htv,hP,hK,b1,hD,hta,hn0,hf⟩,?_⟩
       simp [intOf];omega
     · have djm:((j:Int) != (m:Int))=true:=by rw [bne_iff_ne];omega
       have hw4:=IntWalk.i64_in (base+(N:Int)+(j:Int)) (by omega)
       replace hO:=hOh.out
       rw [hg,ranks_cons _ _ _ (by omega),bakMost_cons,show g=N-(j+1) from by omega] at hO
       clear hOh hg
       have hOh:=Lib.hid hO
       have c_b1:=b1.cells
       clear hO
       go_wp2_with fail
       clear c_b1
       refine rstepA (notes_rd _) hOh.out hK (read_r B p o2 S2 _ _ hP) ?_
       clear hOh hK hP
       intro x o5 S5 wn htm hlf hdn hnn hP hk hK hO
       have hxb:o5=false→(1≤tv∧tv≤1048577)∧0≤x∧x≤1048576:=fun ho=>⟨htv (hdn ho).1,rd_bd hta (hdn ho).2.1⟩
       replace hta:=htm hta
       replace hD:=Nat.lt_of_le_of_lt hlf hD
       replace hn0:S5.nts.length≤100001:=by omega
       replace b1:=b1.keep hk
       clear hk htm hnn hlf hdn htv
       by_cases hc:tv≤x
       · have d2:decide (tv≤x)=true:=by rw [decide_eq_true_eq];exact hc
         have hf:Hid (ROwes R encI B p w ((forP (fun j t=>(rd (base+N+j)).bind fun x=>.ret (max t x)) (ranksFrom m (N-(j+1)) ((j:Int)+1)) (IntKind.i64.wrap (x+1)-1)).bind F) o5 S5):=by
          refine Lib.hid ?_
          cases o5 with
          | true=>exact hO.any _
          | false =>
            obtain⟨_,hxb⟩:=hxb rfl
            rw [IntWalk.i64_in (x+1) (by omega),show x+1-1=x from by omega]
            rw [show max (tv-1) x=x from by omega] at hO
            exact hO
         have hb5:o5=false→1≤IntKind.i64.wrap (x+1)∧IntKind.i64.wrap (x+1)≤1048577:=fun ho=>by
          obtain⟨_,hxb⟩:=hxb ho
          rw [IntWalk.i64_in (x+1) (by omega)]
          omega
         clear hxb hc hO
         obtain⟨v,hv⟩:∃ v,IntKind.i64.wrap (x+1)=v:=⟨_,rfl⟩
         rw [hv] at hf hb5
         go_wp2_with fail
         refine⟨⟨j+1,v,o5,S5,by go_num,rfl,by omega,hb5,hP,hK,b1,hD,hta,hn0,hf⟩,?_⟩
         simp [intOf];omega
       · have d2:decide (tv≤x)=false:=by rw [decide_eq_false_iff_not];exact hc
         have hf:Hid (ROwes R encI B p w ((forP (fun j t=>(rd (base+N+j)).bind fun x=>.ret (max t x)) (ranksFrom m (N-(j+1)) ((j:Int)+1)) (tv-1)).bind F) o5 S5):=by
          refine Lib.hid ?_
          cases o5 with
          | true=>exact hO.any _
          | false =>
            rw [show max (tv-1) x=tv-1 from by omega] at hO
            exact hO
         have hb5:o5=false→1≤tv∧tv≤1048577:=fun ho=>(hxb ho).1
         clear hxb hc hO
         go_wp2_with fail
         refine⟨⟨j+1,tv,o5,S5,by go_num,rfl,by omega,hb5,hP,hK,b1,hD,hta,hn0,hf⟩,?_⟩
         simp [intOf];omega
   · obtain rfl:N=j:=by omega
     have dj:decide ((N:Int)<(N:Int))=false:=by simp
     replace hO:=hOh.out
     rw [Nat.sub_self,ranks_zero,forP_nilB] at hO
     have hOh2:=Lib.hid hO
     clear hO hOh htv
     go_wp2_with fail
     go_meet
     exact⟨tv,o2,S2,rfl,hP,hK,b1,hD,hta,hn0,hOh2⟩
 case rest =>
  clear hP hK b1 hD hta hn0 hOh
  obtain⟨tv,o2,S2,rfl,hP,hK,b1,hD,hta,hn0,hOh⟩:=hcut
  replace hO:=hOh.out
  rw [hFh.out] at hO
  unfold bakIn at hO
  rw [show tv-1+1=tv from by omega] at hO
  clear hOh
  have c_b1:=b1.cells
  by_cases hfull:room<tv
  · have df:decide (room<tv)=true:=by rw [decide_eq_true_eq];exact hfull
    rw [if_pos hfull] at hO
    have hOh:=Lib.hid hO
    clear hO hfull
    go_wp2_with fail
    refine (room23_r alg N mode base loc room _ hro.1 hro.2).mono ?_
    rintro e w1 ⟨rfl,hx⟩
    clear c_b1
    replace hK:=hK.trans (Keep.of_ext hx hP.lt hP.le)
    replace b1:=b1.ext hx hP.lt
    replace hP:=hP.ext hx
    have c_b1:=b1.cells
    clear hx
    go_wp2_with fail
    clear c_b1
    refine rstepA (notes_wr _ _) hOh.out hK (write_r B p o2 S2 _ _ _ hP) ?_
    clear hOh hK hP
    intro u o3 S3 wn htm hlf hdn hnn hP hk hK hO
    replace hta:=htm hta
    replace hD:=Nat.lt_of_le_of_lt hlf hD
    replace hn0:S3.nts.length≤100001:=by omega
    replace b1:=b1.keep hk
    clear hk htm hnn hlf
    clear hdn
    have hOh:=Lib.hid hO
    clear hO
    go_wp2_with fail
    refine rstepN (notes_nt 4) hOh.out hK (note_r B p o3 S3 4 _ hP (by unfold maxAns;omega)) ?_
    clear hOh hK hP
    intro u o7 S7 w7 _ _ _ hP _ hK hO
    have hf:R (.returned (encI 11)) w7:=hO.ret hP hK
    clear hO hP hK
    go_wp2_with fail
    first | exact hf | (go_ret;exact hf)
  · have df:decide (room<tv)=false:=by rw [decide_eq_false_iff_not];exact hfull
    rw [if_neg hfull] at hO
    have hOh:=Lib.hid hO
    clear hO hfull
    go_wp2_with fail
    refine (room23_r alg N mode base loc room _ hro.1 hro.2).mono ?_
    rintro e w1 ⟨rfl,hx⟩
    clear c_b1
    replace hK:=hK.trans (Keep.of_ext hx hP.lt hP.le)
    replace b1:=b1.ext hx hP.lt
    replace hP:=hP.ext hx
    have c_b1:=b1.cells
    clear hx
    go_wp2_with fail
    clear c_b1
    refine rstepA (notes_wr _ _) hOh.out hK (write_r B p o2 S2 _ _ _ hP) ?_
    clear hOh hK hP
    intro u o3 S3 wn htm hlf hdn hnn hP hk hK hO
    replace hta:=htm hta
    replace hD:=Nat.lt_of_le_of_lt hlf hD
    replace hn0:S3.nts.length≤100001:=by omega
    replace b1:=b1.keep hk
    clear hk htm hnn hlf
    clear hdn
    have hOh:=Lib.hid hO
    have c_b1:=b1.cells
    clear hO
    go_wp2_with fail
    clear c_b1
    refine rstepA (notes_st _ _) hOh.out hK (set_r B p o3 S3 _ _ _ hP) ?_
    clear hOh hK hP
    intro u o4 S4 wn htm hlf hdn hnn hP hk hK hO
    replace hta:=htm hta
    replace hD:=Nat.lt_of_le_of_lt hlf hD
    replace hn0:S4.nts.length≤100001:=by omega
    replace b1:=b1.keep hk
    clear hk htm hnn hlf
    clear hdn
    have hOh:=Lib.hid hO
    have c_b1:=b1.cells
    clear hO
    go_wp2_with fail
    clear c_b1
    refine rstepA (notes_wr _ _) hOh.out hK (write_r B p o4 S4 _ _ _ hP) ?_
    clear hOh hK hP
    intro u o5 S5 wn htm hlf hdn hnn hP hk hK hO
    replace hta:=htm hta
    replace hD:=Nat.lt_of_le_of_lt hlf hD
    replace hn0:S5.nts.length≤100001:=by omega
    replace b1:=b1.keep hk
    clear hk htm hnn hlf
    clear hdn
    have hOh:=Lib.hid hO
    have c_b1:=b1.cells
    clear hO
    go_wp2_with fail
    clear c_b1
    refine rstepA (notes_nt 2) hOh.out hK (note_r B p o5 S5 2 _ hP (by unfold maxAns;omega)) ?_
    clear hOh hK hP
    intro u o6 S6 wn htm hlf hdn hnn hP hk hK hO
    replace hta:=htm hta
    replace hD:=Nat.lt_of_le_of_lt hlf hD
    replace hn0:S6.nts.length≤100002:=by omega
    replace b1:=b1.keep hk
    clear hk htm hnn hlf
    clear hdn
    obtain⟨G,hG⟩:∃ G:Unit→Prog Int,G=fun _=>(nt 3).bind fun _=>.ret 0:=⟨_,rfl⟩
    rw [← hG,Int.toNat_natCast] at hO
    have hOh:=Lib.hid hO
    have hGh:=Lib.hid hG
    clear hO hG
    go_wp2_with fail
    go_loopw [11] (fun i wr=>∃ (j:Nat) (o6:Bool) (S6:TS),i=.int .i64 j∧j≤N∧RAt B wr p o6 S6∧KeepR B p w wr∧HeldR wr p z (.cells #[.int .i64 alg,.int .i64 N,.int .i64 mode,.int .i64 base,.int .i64 loc,.int .i64 room] 23)∧S6.left<D∧TameA S6∧S6.nts.length≤100002∧Hid (ROwes R encI B p w ((forP (fun j _=>bakFor D base N m tv j) (ranksFrom m (N-j) j) ()).bind G) o6 S6)) (fun i _=>N-(intOf i).toNat)
    case atStart=>exact⟨0,o6,S6,rfl,by omega,hP,hK,b1,hD,hta,hn0,hOh⟩
    case round =>
     clear hP hK b1 hD hta hn0 hOh
     obtain⟨j,o6,S6,rfl,hj,hP,hK,b1,hD,hta,hn0,hOh⟩:=hrel
     by_cases hjN:j<N
     · have dj:decide ((j:Int)<(N:Int))=true:=by rw [decide_eq_true_eq];omega
       obtain⟨g,hg⟩:∃ g,N-j=g+1:=⟨N-j-1,by omega⟩
       by_cases hjm:j=m
       · subst hjm
         have djm:((j:Int) != (j:Int))=false:=by simp
         replace hO:=hOh.out
         rw [hg,ranks_skip,show g=N-(j+1) from by omega] at hO
         have hf:=Lib.hid hO
         clear hO hOh hg
         go_wp2_with fail
         refine⟨⟨j+1,o6,S6,by go_num,by omega,hP,hK,b1,hD,hta,hn0,hf⟩,?_⟩
         simp [intOf];omega
       · have djm:((j:Int) != (m:Int))=true:=by rw [bne_iff_ne];omega
         replace hO:=hOh.out
         rw [hg,ranks_cons _ _ _ (by omega),forP_consB,show g=N-(j+1) from by omega] at hO
         have hOh2:=Lib.hid hO
         have c_b1:=b1.cells
         clear hO hOh hg
         go_wp2_with fail
         clear c_b1
         refine rstepA (notes_bakFor _ _ _ _ _ _) hOh2.out hK (bakwait_r B p N D m j o6 S6 alg mode base loc room tv _ hP h1 h2 hjN hba hD) ?_
         clear hOh2 hK hP
         intro u o7 S7 wn htm hlf hdn hnn hP hk hK hO
         replace hta:=htm hta
         replace hD:=Nat.lt_of_le_of_lt hlf hD
         replace hn0:S7.nts.length≤100002:=by omega
         replace b1:=b1.keep hk
         clear hk htm hnn hdn hlf
         have hf:=Lib.hid hO
         clear hO
         go_wp2_with fail
         refine⟨⟨j+1,o7,S7,by go_num,by omega,hP,hK,b1,hD,hta,hn0,hf⟩,?_⟩
         simp [intOf];omega
     · obtain rfl:N=j:=by omega
       have dj:decide ((N:Int)<(N:Int))=false:=by simp
       replace hO:=hOh.out
       rw [Nat.sub_self,ranks_zero,forP_nilB,hGh.out] at hO
       have hOh2:=Lib.hid hO
       clear hO hOh
       go_wp2_with fail
       refine rstepN (notes_nt 3) hOh2.out hK (note_r B p o6 S6 3 _ hP (by unfold maxAns;omega)) ?_
       clear hOh2 hK hP
       intro u o7 S7 w7 _ _ _ hP _ hK hO
       have hf:R (.returned (encI 0)) w7:=hO.ret hP hK
       clear hO hP hK
       go_wp2_with fail
       first | exact hf | (go_ret;exact hf)
set_option maxRecDepth 100000 in
theorem bakrel_r (B p N:Nat)(o:Bool)(S:TS)(alg mode base loc room:Int)(m:Nat)(w:World)(h:RAt B w p o S)(h1:1≤N)(h2:N≤8)(hm1:m<N)(hba:0≤base∧base≤32768)(hn0:S.nts.length≤100000) :
  Calls Tryz.prog 115 #[.pointer (some ⟨p,0,none⟩),.agg #[.int .i64 alg,.int .i64 N,.int .i64 mode,.int .i64 base,.int .i64 loc,.int .i64 room],.int .i64 m] w (RPost encU B p w (bakR base N loc m) o S):=by
 generalize hR:RPost encU B p w (bakR base N loc m) o S=R
 have hO:ROwes R encU B p w (bakR base N loc m) o S:=hR▸rowes _ _ _ _ _ _ _
 clear hR
 obtain⟨b1,hK,hP⟩:=h.entry (.cells #[.int .i64 alg,.int .i64 N,.int .i64 mode,.int .i64 base,.int .i64 loc,.int .i64 room] 23)
 have c_b1:=b1.cells
 clear h
 unfold bakR at hO
 have hw1:=IntWalk.i64_in (base+(N:Int)) (by omega)
 have hw3:=IntWalk.i64_in (base+(N:Int)+(m:Int)) (by omega)
 have hOh:=Lib.hid hO
 clear hO
 go_enter Tryz.func115,Tryz.ntmps115
 go_wp2_with fail
 clear c_b1
 generalize w.heap.size=z at *
 refine rstepN (notes_nt 5) hOh.out hK (note_r B p o S 5 _ hP (by unfold maxAns;omega)) ?_
 clear hOh hK hP
 intro u o1 S1 w1 _ _ _ hP hk hK hO
 replace b1:=b1.keep hk
 clear hk
 go_wp2_with fail
 replace hP:=hP.drew
 replace hK:=hK.drew
 replace b1:=b1.drew
 have c_b1:=b1.cells
 go_region_held2 (fun w'=>∀ i:Nat,w'.cell? ⟨z,i,none⟩=(#[.int .i64 alg,.int .i64 N,.int .i64 mode,.int .i64 base,.int .i64 loc,.int .i64 room]:Array Value)[i]?) (first | with_reducible exact c_b1 | go_keep)
  (first
    | (go_at_call 106
       refine (n23_r alg mode base loc room N _ h1 h2).mono ?_
       rintro e w2 ⟨rfl,hx⟩
       clear c_b1
       replace hK:=hK.trans (Keep.of_ext hx hP.lt hP.le)
       replace b1:=b1.ext hx hP.lt
       have c_b1:=b1.cells
       replace hP:=hP.ext hx
       clear hx)
    | (go_at_call 135
       refine rstepN (notes_wr _ _) hO hK (write_r B p o1 S1 _ _ _ hP) ?_
       clear hO hK hP c_b1
       intro u o2 S2 w2 _ _ _ hP hk hK hO
       replace b1:=b1.keep hk
       have c_b1:=b1.cells
       clear hk))
 have hOh:=Lib.hid hO
 clear hO
 go_wp2_with fail
 clear c_b1
 refine rlast hOh.out hK (set_r B p o2 S2 _ _ _ hP) ?_
 clear hOh hK hP
 intro u o3 S3 w3 hP hk hK hO
 have hf:R (.returned (encU ())) w3:=hO.ret hP hK
 clear hO hP hK hk b1
 go_wp2_with fail
 first | exact hf | (refine bodyPost_ret (results_none rfl _ _ _) rfl ?_;exact hf)
end Go.Proofs.YtbaajjkopdjbgaaGreat
namespace Go.Proofs.YtbaajjkopdjbgaaGreat
open Go.RowKit Kv
set_option maxRecDepth 100000 in
set_option maxHeartbeats 1000000 in
theorem zero24_r (B p D:Nat)(o:Bool)(S:TS)(c:Int)(w:World)(h:RAt B w p o S)(hD:S.left<D) :
  Calls Tryz.prog 200 #[.pointer (some ⟨p,0,none⟩),.int .i64 c] w (RPost encU B p w (zeroC c D) o S):=by
 generalize hR:RPost encU B p w (zeroC c D) o S=R
 have hO:ROwes R encU B p w (zeroC c D) o S:=hR▸rowes _ _ _ _ _ _ _
 clear hR
 have hK:=Keep.refl [3,4,5] B p w
 have hP:=h
 clear h
 have hOh:=Lib.hid hO
 clear hO
 go_enter Tryz.func200,Tryz.ntmps200
 go_wp2_with fail
 go_loopw [] (fun wr=>∃ (n:Nat) (o2:Bool) (S2:TS),RAt B wr p o2 S2∧KeepR B p w wr∧Hid (ROwes R encU B p w (zeroC c n) o2 S2)∧(o2=false→S2.left<n)) (fun wr=>leftR wr p)
 case atStart=>exact⟨D,o,S,hP,hK,hOh,fun _=>hD⟩
 case round =>
  clear hP hK hOh hD
  obtain⟨n,o2,S2,hP,hK,hOh,hn⟩:=hrel
  have hlw:=Lib.hid hP.leftR
  obtain⟨_,_,_,_,_,hcc⟩:=hP.cell
  cases o2 with
  | true =>
    have hf:R (.returned (encU ())) wr:=hOh.out.over () hP hK
    clear hOh hK hn hlw
    go_wp2_with fail
    first | exact hf | (refine bodyPost_ret (results_none rfl _ _ _) rfl ?_;exact hf)
  | false =>
    have hn1:=hn rfl
    clear hn
    cases n with
    | zero=>omega
    | succ n =>
      replace hO:=hOh.out
      rw [← Prog.bind_id (zeroC _ _),zeroC_bind] at hO
      clear hOh
      have hOh:=Lib.hid hO
      clear hO
      go_wp2_with fail
      clear hcc
      refine rstepA (notes_rd _) hOh.out hK (read_r B p false S2 _ _ hP) ?_
      clear hOh hK hP
      intro x o3 S3 w3 _ hlf hdn _ hP hk hK hO
      clear hk
      have hn3:o3=false→S3.left<n:=fun ho=>by have:=(hdn ho).2.2 (asks_rd _);omega
      have hlw2:=Lib.hid hP.leftR
      have hdec:o3=false→S3.left<S2.left:=fun ho=>(hdn ho).2.2 (asks_rd _)
      clear hdn
      rw [Prog.bind_id] at hO
      by_cases hx:x=0
      · have dx:(x==0)=true:=by simpa using hx
        rw [if_pos hx] at hO
        have hf:R (.returned (encU ())) w3:=hO.ret hP hK
        clear hO hP hK hx hlw hlw2
        go_wp2_with fail
        first | exact hf | (refine bodyPost_ret (results_none rfl _ _ _) rfl ?_;exact hf)
      · have dx:(x==0)=false:=by simpa using hx
        rw [if_neg hx] at hO
        have hOh:=Lib.hid hO
        clear hO hx
        go_wp2_with fail
        refine⟨⟨n,o3,S3,hP,hK,hOh,hn3⟩,?_⟩
        rw [hlw.out,hlw2.out]
        cases o3 with
        | true=>simp;omega
        | false=>have:=hdec rfl;simp;omega
set_option maxRecDepth 100000 in
set_option maxHeartbeats 4000000 in
theorem oneacq_r (B p N D:Nat)(o:Bool)(S:TS)(alg mode base loc room:Int)(m:Nat)(w:World)(h:RAt B w p o S)(h1:1≤N)(h2:N≤8)(hm1:m<N)(hba:0≤base∧base≤32768)
  (hD:S.left<D)(hn0:S.nts.length≤100000) :
  Calls Tryz.prog 109 #[.pointer (some ⟨p,0,none⟩),.agg #[.int .i64 alg,.int .i64 N,.int .i64 mode,.int .i64 base,.int .i64 loc,.int .i64 room],.int .i64 m] w (RPost encI B p w (oneA D base N m) o S):=by
 generalize hR:RPost encI B p w (oneA D base N m) o S=R
 have hO:ROwes R encI B p w (oneA D base N m) o S:=hR▸rowes _ _ _ _ _ _ _
 clear hR
 obtain⟨b1,hK,hP⟩:=h.entry (.cells #[.int .i64 alg,.int .i64 N,.int .i64 mode,.int .i64 base,.int .i64 loc,.int .i64 room] 23)
 have c_b1:=b1.cells
 clear h
 unfold oneA at hO
 have hw2:=IntWalk.i64_in (base+(m:Int)) (by omega)
 obtain⟨F,hF⟩:∃ F:Unit→Prog Int,F=fun _=>(nt 2).bind fun _=>(forP (fun j _=>zeroC (base+j) D) (ranksFrom (-1) (N-1-m) ((m:Int)+1)) ()).bind fun _=>(nt 3).bind fun _=>.ret 0:=⟨_,rfl⟩
 rw [← hF] at hO
 have hFh:=Lib.hid hF
 have hOh:=Lib.hid hO
 clear hO hF
 go_enter Tryz.func109,Tryz.ntmps109
 go_wp2_with fail
 clear c_b1
 generalize w.heap.size=z at *
 refine rstepA (notes_nt 1) hOh.out hK (note_r B p o S 1 _ hP (by unfold maxAns;omega)) ?_
 clear hOh hK hP
 intro u o1 S1 wn htm hlf hdn hnn hP hk hK hO
 replace hD:=Nat.lt_of_le_of_lt hlf hD
 replace hn0:S1.nts.length≤100001:=by omega
 replace b1:=b1.keep hk
 clear hk htm hnn
 clear hdn hlf
 have hOh:=Lib.hid hO
 clear hO
 have c_b1:=b1.cells
 go_wp2_with fail
 clear c_b1
 refine rstepA (notes_wr _ _) hOh.out hK (write_r B p o1 S1 _ _ _ hP) ?_
 clear hOh hK hP
 intro u o2 S2 wn htm hlf hdn hnn hP hk hK hO
 replace hD:=Nat.lt_of_le_of_lt hlf hD
 replace hn0:S2.nts.length≤100001:=by omega
 replace b1:=b1.keep hk
 clear hk htm hnn
 clear hdn hlf
 have hOh:=Lib.hid hO
 clear hO
 go_upto_block 0 with fail
 go_cut [] (fun wx=>∃ (o2:Bool) (S2:TS),RAt B wx p o2 S2∧KeepR B p w wx∧HeldR wx p z (.cells #[.int .i64 alg,.int .i64 N,.int .i64 mode,.int .i64 base,.int .i64 loc,.int .i64 room] 23)∧S2.left<D∧S2.nts.length≤100001∧Hid (ROwes R encI B p w (F ()) o2 S2))
 case first =>
  go_wp2_with fail
  go_loopw [7] (fun i wr=>∃ (j k:Nat) (o2:Bool) (S2:TS),i=.int .i64 j∧j≤m∧RAt B wr p o2 S2∧KeepR B p w wr∧HeldR wr p z (.cells #[.int .i64 alg,.int .i64 N,.int .i64 mode,.int .i64 base,.int .i64 loc,.int .i64 room] 23)∧S2.left<D∧S2.nts.length≤100001∧(o2=false→S2.left<k)∧Hid (ROwes R encI B p w ((oneUp D base m k j).bind F) o2 S2)) (fun _ wr=>leftR wr p)
  case atStart=>exact⟨0,D,o2,S2,rfl,by omega,hP,hK,b1,hD,hn0,fun _=>hD,hOh⟩
  case round =>
   clear hP hK b1 hD hn0 hOh
   obtain⟨j,k,o2,S2,rfl,hj,hP,hK,b1,hD,hn0,hkk,hOh⟩:=hrel
   have hlw:=Lib.hid hP.leftR
   obtain⟨_,_,_,_,_,hcc⟩:=hP.cell
   by_cases hjm:j<m
   · have dj:decide (j<m)=true:=by rw [decide_eq_true_eq];exact hjm
     have hw4:=IntWalk.i64_in (base+(j:Int)) (by omega)
     cases o2 with
     | true =>
       have hf:=Lib.hid (hOh.out.any (F ()))
       clear hOh hkk
       go_wp2_with fail
       go_meet
       exact⟨true,S2,hP,hK,b1,hD,hn0,hf⟩
     | false =>
       have hk1:=hkk rfl
       clear hkk
       cases k with
       | zero=>omega
       | succ k =>
         replace hO:=hOh.out
         rw [oneUp_lt D base m k j hjm] at hO
         clear hOh
         have hOh:=Lib.hid hO
         clear hO
         have c_b1:=b1.cells
         go_wp2_with fail
         clear c_b1 hcc
         refine rstepA (notes_rd _) hOh.out hK (read_r B p false S2 _ _ hP) ?_
         clear hOh hK hP
         intro x o3 S3 wn htm hlf hdn hnn hP hk hK hO
         replace hD:=Nat.lt_of_le_of_lt hlf hD
         replace hn0:S3.nts.length≤100001:=by omega
         replace b1:=b1.keep hk
         clear hk htm hnn
         have hk3:o3=false→S3.left<k:=fun ho=>by have:=(hdn ho).2.2 (asks_rd _);omega
         have hdec:o3=false→S3.left<S2.left:=fun ho=>(hdn ho).2.2 (asks_rd _)
         clear hdn
         by_cases hx:x=0
         · have dx:(x==0)=true:=by simpa using hx
           rw [if_pos hx] at hO
           have hOh:=Lib.hid hO
           have hlw2:=Lib.hid hP.leftR
           clear hO hx
           go_wp2_with fail
           refine⟨⟨j+1,k,o3,S3,by go_num,by omega,hP,hK,b1,hD,hn0,hk3,hOh⟩,?_⟩
           rw [hlw.out,hlw2.out]
           cases o3 with
           | true=>simp;omega
           | false=>have:=hdec rfl;simp;omega
         · have dx:(x==0)=false:=by simpa using hx
           rw [if_neg hx] at hO
           have hOh:=Lib.hid hO
           have c_b1:=b1.cells
           clear hO hx
           go_wp2_with fail
           clear c_b1
           have hlf3:=hlf
           clear hlf
           refine rstepA (notes_wr _ _) hOh.out hK (write_r B p o3 S3 _ _ _ hP) ?_
           clear hOh hK hP
           intro u o4 S4 wn htm hlf hdn hnn hP hk hK hO
           replace hD:=Nat.lt_of_le_of_lt hlf hD
           replace hn0:S4.nts.length≤100001:=by omega
           replace b1:=b1.keep hk
           clear hk htm hnn
           have ho43:o4=false→o3=false:=fun ho=>(hdn ho).1
           have hlf4:=hlf
           clear hdn hlf
           have hOh:=Lib.hid hO
           have c_b1:=b1.cells
           clear hO
           go_wp2_with fail
           clear c_b1
           refine rstepA (notes_zeroC _ _) hOh.out hK (zero24_r B p D o4 S4 _ _ hP hD) ?_
           clear hOh hK hP
           intro u o5 S5 wn htm hlf hdn hnn hP hk hK hO
           replace hD:=Nat.lt_of_le_of_lt hlf hD
           replace hn0:S5.nts.length≤100001:=by omega
           replace b1:=b1.keep hk
           clear hk htm hnn
           have ho54:o5=false→o4=false:=fun ho=>(hdn ho).1
           have hlf5:=hlf
           clear hdn hlf
           have hOh:=Lib.hid hO
           have c_b1:=b1.cells
           clear hO
           go_wp2_with fail
           clear c_b1
           refine rstepA (notes_wr _ _) hOh.out hK (write_r B p o5 S5 _ _ _ hP) ?_
           clear hOh hK hP
           intro u o6 S6 wn htm hlf hdn hnn hP hk hK hO
           replace hD:=Nat.lt_of_le_of_lt hlf hD
           replace hn0:S6.nts.length≤100001:=by omega
           replace b1:=b1.keep hk
           clear hk htm hnn
           have ho65:o6=false→o5=false:=fun ho=>(hdn ho).1
           have hk6:o6=false→S6.left<k∧S6.left<S2.left:=fun ho=>by
            have q1:=hk3 (ho43 (ho54 (ho65 ho)))
            have q2:=hdec (ho43 (ho54 (ho65 ho)))
            omega
           have hl6:S6.left≤S2.left:=by omega
           clear hdn hlf hk3 hdec ho43 ho54 ho65 hlf3 hlf4 hlf5
           have hlw2:=Lib.hid hP.leftR
           have hOh:=Lib.hid hO
           clear hO
           go_wp2_with fail
           refine⟨⟨0,k,o6,S6,rfl,by omega,hP,hK,b1,hD,hn0,fun ho=>(hk6 ho).1,hOh⟩,?_⟩
           rw [hlw.out,hlw2.out]
           cases o6 with
           | true=>simp;omega
           | false=>have:=hk6 rfl;simp;omega
   · obtain rfl:m=j:=by omega
     have dj:decide (m<m)=false:=by simp
     replace hO:=hOh.out
     rw [oneUp_ge D base m k] at hO
     have hf:=Lib.hid hO
     clear hO hOh hkk hcc
     go_wp2_with fail
     go_meet
     exact⟨o2,S2,hP,hK,b1,hD,hn0,hf⟩
 case rest =>
  clear hP hK b1 hD hn0 hOh
  obtain⟨o2,S2,hP,hK,b1,hD,hn0,hOh⟩:=hcut
  replace hO:=hOh.out
  rw [hFh.out] at hO
  clear hOh
  have hOh:=Lib.hid hO
  clear hO
  go_wp2_with fail
  refine rstepA (notes_nt 2) hOh.out hK (note_r B p o2 S2 2 _ hP (by unfold maxAns;omega)) ?_
  clear hOh hK hP
  intro u o3 S3 wn htm hlf hdn hnn hP hk hK hO
  replace hD:=Nat.lt_of_le_of_lt hlf hD
  replace hn0:S3.nts.length≤100002:=by omega
  replace b1:=b1.keep hk
  clear hk htm hnn
  clear hdn hlf
  obtain⟨G,hG⟩:∃ G:Unit→Prog Int,G=fun _=>(nt 3).bind fun _=>.ret 0:=⟨_,rfl⟩
  rw [← hG] at hO
  have hOh:=Lib.hid hO
  have hGh:=Lib.hid hG
  clear hO hG
  have hl0:Hid (∀ L:Nat,L=N-1-m→m+1+L=N):=Lib.hid (fun L h=>by omega)
  obtain⟨L,hL⟩:∃ L,L=N-1-m:=⟨_,rfl⟩
  have hLN:=hl0.out L hL
  rw [← hL] at hOh
  clear hl0 hL
  have hLh:=Lib.hid hLN
  clear hLN
  have hw3:=IntWalk.i64_in ((m:Int)+1) (by omega)
  go_wp2_with fail
  go_loopw [8] (fun i wr=>∃ (q:Nat) (o2:Bool) (S2:TS),i=.int .i64 ((m:Int)+1+q)∧q≤L∧RAt B wr p o2 S2∧KeepR B p w wr∧HeldR wr p z (.cells #[.int .i64 alg,.int .i64 N,.int .i64 mode,.int .i64 base,.int .i64 loc,.int .i64 room] 23)∧S2.left<D∧S2.nts.length≤100002∧Hid (ROwes R encI B p w ((forP (fun j _=>zeroC (base+j) D) (ranksFrom (-1) (L-q) ((m:Int)+1+q)) ()).bind G) o2 S2)) (fun i _=>N-(intOf i).toNat)
  case atStart=>exact⟨0,o3,S3,by simp,by omega,hP,hK,b1,hD,hn0,by simpa using hOh⟩
  case round =>
   clear hP hK b1 hD hn0 hOh
   obtain⟨q,o2,S2,rfl,hq,hP,hK,b1,hD,hn0,hOh⟩:=hrel
   have c_b1:=b1.cells
   go_wp2_with fail
   refine (n23_r alg mode base loc room N _ h1 h2).mono ?_
   rintro e w1 ⟨rfl,hx⟩
   clear c_b1
   replace hK:=hK.trans (Keep.of_ext hx hP.lt hP.le)
   replace b1:=b1.ext hx hP.lt
   replace hP:=hP.ext hx
   clear hx
   have c_b1:=b1.cells
   by_cases hqL:q<L
   · have dq:decide ((m:Int)+1+(q:Int)<(N:Int))=true:=by rw [decide_eq_true_eq];have:=hLh.out;omega
     have hw5:=IntWalk.i64_in (base+((m:Int)+1+(q:Int))) (by have:=hLh.out;omega)
     have hw6:=IntWalk.i64_in ((m:Int)+1+(q:Int)+1) (by have:=hLh.out;omega)
     obtain⟨g,hg⟩:∃ g,L-q=g+1:=⟨L-q-1,by omega⟩
     replace hO:=hOh.out
     rw [hg,ranks_cons _ _ _ (by omega),forP_consB,show g=L-(q+1) from by omega] at hO
     clear hOh
     have hOh:=Lib.hid hO
     clear hO hg
     go_wp2_with fail
     clear c_b1
     refine rstepA (notes_zeroC _ _) hOh.out hK (zero24_r B p D o2 S2 _ _ hP hD) ?_
     clear hOh hK hP
     intro u o5 S5 wn htm hlf hdn hnn hP hk hK hO
     replace hD:=Nat.lt_of_le_of_lt hlf hD
     replace hn0:S5.nts.length≤100002:=by omega
     replace b1:=b1.keep hk
     clear hk htm hnn
     clear hdn hlf
     have hf:=Lib.hid hO
     clear hO
     go_wp2_with fail
     refine⟨⟨q+1,o5,S5,by go_num,by omega,hP,hK,b1,hD,hn0,?_⟩,?_⟩
     · rw [show (m:Int)+1+((q+1:Nat):Int)=(m:Int)+1+q+1 from by omega]
       exact hf
     · simp [intOf];have:=hLh.out;omega
   · obtain rfl:q=L:=by omega
     have dq:decide ((m:Int)+1+(q:Int)<(N:Int))=false:=by rw [decide_eq_false_iff_not];have:=hLh.out;omega
     replace hO:=hOh.out
     rw [Nat.sub_self,ranks_zero,forP_nilB,hGh.out] at hO
     have hOh2:=Lib.hid hO
     clear hO hOh c_b1
     go_wp2_with fail
     refine rstepN (notes_nt 3) hOh2.out hK (note_r B p o2 S2 3 _ hP (by unfold maxAns;omega)) ?_
     clear hOh2 hK hP
     intro u o7 S7 w7 _ _ _ hP _ hK hO
     have hf:R (.returned (encI 0)) w7:=hO.ret hP hK
     clear hO hP hK
     go_wp2_with fail
     first | exact hf | (go_ret;exact hf)
theorem onerel_r (B p N:Nat)(o:Bool)(S:TS)(alg mode base loc room:Int)(m:Nat)(w:World)(h:RAt B w p o S)(h2:N≤8)(hm1:m<N)(hba:0≤base∧base≤32768)(hn0:S.nts.length≤100000) :
  Calls Tryz.prog 116 #[.pointer (some ⟨p,0,none⟩),.agg #[.int .i64 alg,.int .i64 N,.int .i64 mode,.int .i64 base,.int .i64 loc,.int .i64 room],.int .i64 m] w (RPost encU B p w (oneR base m) o S):=by
 generalize hR:RPost encU B p w (oneR base m) o S=R
 have hO:ROwes R encU B p w (oneR base m) o S:=hR▸rowes _ _ _ _ _ _ _
 clear hR
 obtain⟨b1,hK,hP⟩:=h.entry (.cells #[.int .i64 alg,.int .i64 N,.int .i64 mode,.int .i64 base,.int .i64 loc,.int .i64 room] 23)
 have c_b1:=b1.cells
 clear h
 unfold oneR at hO
 have hw2:=IntWalk.i64_in (base+(m:Int)) (by omega)
 have hOh:=Lib.hid hO
 clear hO
 go_enter Tryz.func116,Tryz.ntmps116
 go_wp2_with fail
 clear c_b1
 generalize w.heap.size=z at *
 refine rstepN (notes_nt 5) hOh.out hK (note_r B p o S 5 _ hP (by unfold maxAns;omega)) ?_
 clear hOh hK hP
 intro u o1 S1 w1 _ _ _ hP hk hK hO
 replace b1:=b1.keep hk
 clear hk
 have c_b1:=b1.cells
 have hOh:=Lib.hid hO
 clear hO
 go_wp2_with fail
 clear c_b1
 refine rlast hOh.out hK (write_r B p o1 S1 _ _ _ hP) ?_
 clear hOh hK hP
 intro u o3 S3 w3 hP hk hK hO
 have hf:R (.returned (encU ())) w3:=hO.ret hP hK
 clear hO hP hK hk b1
 go_wp2_with fail
 first | exact hf | (refine bodyPost_ret (results_none rfl _ _ _) rfl ?_;exact hf)
end Go.Proofs.YtbaajjkopdjbgaaGreat
namespace Go.Proofs.YtbaajjkopdjbgaaGreat
open Go.RowKit Kv
theorem alg_casesR {alg:Int}(h:1≤alg∧alg≤8):alg=1∨alg=2∨alg=3∨alg=4∨alg=5∨alg=6∨alg=7∨alg=8:=by omega
set_option maxRecDepth 100000 in
theorem lkacq_r (B p N D:Nat)(o:Bool)(S:TS)(alg mode base loc room:Int)(m:Nat)(rs:List Reg)(w:World)(h:RAt B w p o S)(hk:LkOk alg N mode base loc room rs)(hm:m<N)(hN:¬ (N=1∧mode=2))(hta:TameA S)(hD:S.left<D)(hn0:S.nts.length≤100000) :
  Calls Tryz.prog 28 #[.pointer (some ⟨p,0,none⟩),.agg #[.int .i64 alg,.int .i64 N,.int .i64 mode,.int .i64 base,.int .i64 loc,.int .i64 room],.int .i64 m] w (RPost encI B p w (lkA D alg N base loc room rs m) o S):=by
 have hal:=hk.halg
 generalize hR:RPost encI B p w (lkA D alg N base loc room rs m) o S=R
 have hO:ROwes R encI B p w (lkA D alg N base loc room rs m) o S:=hR▸rowes _ _ _ _ _ _ _
 clear hR
 obtain⟨b1,hK,hP⟩:=h.entry (.cells #[.int .i64 alg,.int .i64 N,.int .i64 mode,.int .i64 base,.int .i64 loc,.int .i64 room] 23)
 have c_b1:=b1.cells
 clear h
 rcases alg_casesR hal with rfl | rfl | rfl | rfl | rfl | rfl | rfl | rfl
 have hq:=fun W hP=>bakacq_r B p N D o S 1 mode base loc room m W hP hk.hn.1 hk.hn.2 hm hk.hbase hk.hroom hta hD hn0
 replace hq:=Lib.hid hq
 clear hk hal
 rotate_left
 have hq:=fun W hP=>oneacq_r B p N D o S 2 mode base loc room m W hP hk.hn.1 hk.hn.2 hm hk.hbase hD hn0
 replace hq:=Lib.hid hq
 clear hk hal
 rotate_left
 have hl:layM (bwWants N) N mode base loc=some rs:=hk.hlay (by decide)
 have hq:=fun W hP=>bwacq_r B p N D o S 3 mode base loc room m rs W hP hk.hn.1 hk.hn.2 hm hl hk.hloc (laid_all hl) (bw_told hl) hta hD hn0
 replace hq:=Lib.hid hq
 clear hk hl hal
 rotate_left
 have hl:layM (filWants N) N mode base loc=some rs:=hk.hlay (by decide)
 have hq:=fun W hP=>filacq_r B p N D o S 4 mode base loc room m rs W hP hk.hn.1 hk.hn.2 hm hl (laid_all hl) (fil_told hl) hD hn0
 replace hq:=Lib.hid hq
 clear hk hl hal
 rotate_left
 have hl:layM (fastWants N) N mode base loc=some rs:=hk.hlay (by decide)
 obtain⟨Z,z1,z2,z3⟩:=fast_hz (m:=m) (D:=D) hl hm
 have hq:=fun W hP=>fastacq_r B p N D o S 5 mode base loc room m rs W hP hk.hn.1 hk.hn.2 hm hl (laid_all hl) (fast_told hl hN) hD hn0 Z z1 z2 z3
 replace hq:=Lib.hid hq
 clear hk hl z1 z2 z3 hal
 rotate_left
 have hl:layM (treeWants (eachK 6) N) N mode base loc=some rs:=hk.hlay (by decide)
 have hq:=fun W hP=>treeacq_r B p N D o S 6 mode base loc room m rs W hP hk.hn.1 (by have:=hk.hn.2;omega) hm hl (tree_all hl hm) hD hn0
 replace hq:=Lib.hid hq
 clear hk hl hal
 rotate_left
 have hl:layM (treeWants (eachK 7) N) N mode base loc=some rs:=hk.hlay (by decide)
 have hq:=fun W hP=>treeacq_r B p N D o S 7 mode base loc room m rs W hP hk.hn.1 (by have:=hk.hn.2;omega) hm hl (tree_all hl hm) hD hn0
 replace hq:=Lib.hid hq
 clear hk hl hal
 rotate_left
 have hl:layM (adWants N) N mode base loc=some rs:=hk.hlay (by decide)
 have hq:=fun W hP=>adacq_r B p N D o S 8 mode base loc room m rs W hP hk.hn.1 hk.hn.2 hm hl hk.hloc (laid_all hl) (ad_told hl hk.hn.1) hD hn0
 replace hq:=Lib.hid hq
 clear hk hl hal
 rotate_left
 all_goals
  go_enter Tryz.func28,Tryz.ntmps28
  go_wp2_with fail
  refine rlast hO hK (hq.out _ hP) ?_
  clear hO hK hP hq c_b1
  intro u o9 S9 w9 hP hk9 hK hO
  have hf:R (.returned (encI u)) w9:=hO.ret hP hK
  clear hO hP hK hk9
  go_wp2_with fail
  first | exact hf | (refine bodyPost_ret (results_none rfl _ _ _) rfl ?_;exact hf) | (go_ret;exact hf)
set_option maxRecDepth 100000 in
theorem lkrel_r (B p N:Nat)(o:Bool)(S:TS)(alg mode base loc room:Int)(m:Nat)(rs:List Reg)(w:World)(h:RAt B w p o S)(hk:LkOk alg N mode base loc room rs)(hm:m<N)(hn0:S.nts.length≤100000) :
  Calls Tryz.prog 32 #[.pointer (some ⟨p,0,none⟩),.agg #[.int .i64 alg,.int .i64 N,.int .i64 mode,.int .i64 base,.int .i64 loc,.int .i64 room],.int .i64 m] w (RPost encU B p w (lkR alg N base loc rs m) o S):=by
 have hal:=hk.halg
 generalize hR:RPost encU B p w (lkR alg N base loc rs m) o S=R
 have hO:ROwes R encU B p w (lkR alg N base loc rs m) o S:=hR▸rowes _ _ _ _ _ _ _
 clear hR
 obtain⟨b1,hK,hP⟩:=h.entry (.cells #[.int .i64 alg,.int .i64 N,.int .i64 mode,.int .i64 base,.int .i64 loc,.int .i64 room] 23)
 have c_b1:=b1.cells
 clear h
 rcases alg_casesR hal with rfl | rfl | rfl | rfl | rfl | rfl | rfl | rfl
 have hq:=fun W hP=>bakrel_r B p N o S 1 mode base loc room m W hP hk.hn.1 hk.hn.2 hm hk.hbase hn0
 replace hq:=Lib.hid hq
 clear hk hal
 rotate_left
 have hq:=fun W hP=>onerel_r B p N o S 2 mode base loc room m W hP hk.hn.2 hm hk.hbase hn0
 replace hq:=Lib.hid hq
 clear hk hal
 rotate_left
 have hl:layM (bwWants N) N mode base loc=some rs:=hk.hlay (by decide)
 have hq:=fun W hP=>bwrel_r B p N o S 3 mode base loc room m rs W hP hk.hn.1 hk.hn.2 hm hl hk.hloc (laid_all hl) hn0
 replace hq:=Lib.hid hq
 clear hk hl hal
 rotate_left
 have hl:layM (filWants N) N mode base loc=some rs:=hk.hlay (by decide)
 have hq:=fun W hP=>filrel_r B p N o S 4 mode base loc room m rs W hP hk.hn.1 hk.hn.2 hm hl (laid_all hl) hn0
 replace hq:=Lib.hid hq
 clear hk hl hal
 rotate_left
 have hl:layM (fastWants N) N mode base loc=some rs:=hk.hlay (by decide)
 have hq:=fun W hP=>fastrel_r B p N o S 5 mode base loc room m rs W hP hk.hn.1 hk.hn.2 hm hl (laid_all hl) hn0
 replace hq:=Lib.hid hq
 clear hk hl hal
 rotate_left
 have hl:layM (treeWants (eachK 6) N) N mode base loc=some rs:=hk.hlay (by decide)
 have hq:=fun W hP=>treerel_r B p N o S 6 mode base loc room m rs W hP hk.hn.1 (by have:=hk.hn.2;omega) hm hl (tree_all hl hm) hn0
 replace hq:=Lib.hid hq
 clear hk hl hal
 rotate_left
 have hl:layM (treeWants (eachK 7) N) N mode base loc=some rs:=hk.hlay (by decide)
 have hq:=fun W hP=>treerel_r B p N o S 7 mode base loc room m rs W hP hk.hn.1 (by have:=hk.hn.2;omega) hm hl (tree_all hl hm) hn0
 replace hq:=Lib.hid hq
 clear hk hl hal
 rotate_left
 have hl:layM (adWants N) N mode base loc=some rs:=hk.hlay (by decide)
 have hq:=fun W hP=>adrel_r B p N o S 8 mode base loc room m rs W hP hk.hn.1 hk.hn.2 hm hl hk.hloc (laid_all hl) (ad_told hl hk.hn.1) hn0
 replace hq:=Lib.hid hq
 clear hk hl hal
 rotate_left
 all_goals
  go_enter Tryz.func32,Tryz.ntmps32
  go_wp2_with fail
  refine rlast hO hK (hq.out _ hP) ?_
  clear hO hK hP hq c_b1
  intro u o9 S9 w9 hP hk9 hK hO
  have hf:R (.returned (encU u)) w9:=hO.ret hP hK
  clear hO hP hK hk9
  go_wp2_with fail
  first | exact hf | (refine bodyPost_ret (results_none rfl _ _ _) rfl ?_;exact hf) | (go_ret;exact hf)
set_option maxRecDepth 100000 in
theorem lkw3 (N:Nat)(mode base loc room:Int)(w:World)(h1:1≤N)(h2:N≤8):Calls Tryz.prog 100 #[.agg #[.int .i64 3,.int .i64 N,.int .i64 mode,.int .i64 base,.int .i64 loc,.int .i64 room]] w fun e w'=>∃ v,e=.returned v∧WantsAt w' v (bwWants N)∧Ext w w':=by
 have hX:=Ext.refl w
 have b1:=Blk.new w (.cells #[.int .i64 3,.int .i64 N,.int .i64 mode,.int .i64 base,.int .i64 loc,.int .i64 room] 23)
 replace hX:=hX.alloc (.cells #[.int .i64 3,.int .i64 N,.int .i64 mode,.int .i64 base,.int .i64 loc,.int .i64 room] 23)
 have c_b1:=b1.cells
 go_enter Tryz.func100,Tryz.ntmps100
 go_wp2_with fail
 refine (bwwants_r N _ h1 h2).mono ?_
 rintro e w2 ⟨v,rfl,hv,hx⟩
 have hf:=Lib.hid (And.intro hv (hX.trans hx))
 clear hv hx c_b1
 go_wp2_with fail
 go_ret
 exact⟨_,rfl,hf.out.1,hf.out.2⟩
set_option maxRecDepth 100000 in
theorem lkw4 (N:Nat)(mode base loc room:Int)(w:World)(h1:1≤N)(h2:N≤8):Calls Tryz.prog 100 #[.agg #[.int .i64 4,.int .i64 N,.int .i64 mode,.int .i64 base,.int .i64 loc,.int .i64 room]] w fun e w'=>∃ v,e=.returned v∧WantsAt w' v (filWants N)∧Ext w w':=by
 have hX:=Ext.refl w
 have b1:=Blk.new w (.cells #[.int .i64 4,.int .i64 N,.int .i64 mode,.int .i64 base,.int .i64 loc,.int .i64 room] 23)
 replace hX:=hX.alloc (.cells #[.int .i64 4,.int .i64 N,.int .i64 mode,.int .i64 base,.int .i64 loc,.int .i64 room] 23)
 have c_b1:=b1.cells
 go_enter Tryz.func100,Tryz.ntmps100
 go_wp2_with fail
 refine (filwants_r N _ h1 h2).mono ?_
 rintro e w2 ⟨v,rfl,hv,hx⟩
 have hf:=Lib.hid (And.intro hv (hX.trans hx))
 clear hv hx c_b1
 go_wp2_with fail
 go_ret
 exact⟨_,rfl,hf.out.1,hf.out.2⟩
set_option maxRecDepth 100000 in
theorem lkw5 (N:Nat)(mode base loc room:Int)(w:World)(h1:1≤N)(h2:N≤8):Calls Tryz.prog 100 #[.agg #[.int .i64 5,.int .i64 N,.int .i64 mode,.int .i64 base,.int .i64 loc,.int .i64 room]] w fun e w'=>∃ v,e=.returned v∧WantsAt w' v (fastWants N)∧Ext w w':=by
 have hX:=Ext.refl w
 have b1:=Blk.new w (.cells #[.int .i64 5,.int .i64 N,.int .i64 mode,.int .i64 base,.int .i64 loc,.int .i64 room] 23)
 replace hX:=hX.alloc (.cells #[.int .i64 5,.int .i64 N,.int .i64 mode,.int .i64 base,.int .i64 loc,.int .i64 room] 23)
 have c_b1:=b1.cells
 go_enter Tryz.func100,Tryz.ntmps100
 go_wp2_with fail
 refine (fastwants_r N _ h1 h2).mono ?_
 rintro e w2 ⟨v,rfl,hv,hx⟩
 have hf:=Lib.hid (And.intro hv (hX.trans hx))
 clear hv hx c_b1
 go_wp2_with fail
 go_ret
 exact⟨_,rfl,hf.out.1,hf.out.2⟩
set_option maxRecDepth 100000 in
theorem lkw6 (N:Nat)(mode base loc room:Int)(w:World)(h1:1≤N)(h2:N≤8):Calls Tryz.prog 100 #[.agg #[.int .i64 6,.int .i64 N,.int .i64 mode,.int .i64 base,.int .i64 loc,.int .i64 room]] w fun e w'=>∃ v,e=.returned v∧WantsAt w' v (treeWants (eachK 6) N)∧Ext w w':=by
 have hX:=Ext.refl w
 have b1:=Blk.new w (.cells #[.int .i64 6,.int .i64 N,.int .i64 mode,.int .i64 base,.int .i64 loc,.int .i64 room] 23)
 replace hX:=hX.alloc (.cells #[.int .i64 6,.int .i64 N,.int .i64 mode,.int .i64 base,.int .i64 loc,.int .i64 room] 23)
 have c_b1:=b1.cells
 go_enter Tryz.func100,Tryz.ntmps100
 go_wp2_with fail
 refine (rtwants_r 6 N _ (by omega)).mono ?_
 rintro e w2 ⟨v,rfl,hv,hx⟩
 have hf:=Lib.hid (And.intro hv (hX.trans hx))
 clear hv hx c_b1
 go_wp2_with fail
 go_ret
 exact⟨_,rfl,hf.out.1,hf.out.2⟩
set_option maxRecDepth 100000 in
theorem lkw7 (N:Nat)(mode base loc room:Int)(w:World)(h1:1≤N)(h2:N≤8):Calls Tryz.prog 100 #[.agg #[.int .i64 7,.int .i64 N,.int .i64 mode,.int .i64 base,.int .i64 loc,.int .i64 room]] w fun e w'=>∃ v,e=.returned v∧WantsAt w' v (treeWants (eachK 7) N)∧Ext w w':=by
 have hX:=Ext.refl w
 have b1:=Blk.new w (.cells #[.int .i64 7,.int .i64 N,.int .i64 mode,.int .i64 base,.int .i64 loc,.int .i64 room] 23)
 replace hX:=hX.alloc (.cells #[.int .i64 7,.int .i64 N,.int .i64 mode,.int .i64 base,.int .i64 loc,.int .i64 room] 23)
 have c_b1:=b1.cells
 go_enter Tryz.func100,Tryz.ntmps100
 go_wp2_with fail
 refine (rtwants_r 7 N _ (by omega)).mono ?_
 rintro e w2 ⟨v,rfl,hv,hx⟩
 have hf:=Lib.hid (And.intro hv (hX.trans hx))
 clear hv hx c_b1
 go_wp2_with fail
 go_ret
 exact⟨_,rfl,hf.out.1,hf.out.2⟩
set_option maxRecDepth 100000 in
theorem lkw8 (N:Nat)(mode base loc room:Int)(w:World)(h1:1≤N)(h2:N≤8):Calls Tryz.prog 100 #[.agg #[.int .i64 8,.int .i64 N,.int .i64 mode,.int .i64 base,.int .i64 loc,.int .i64 room]] w fun e w'=>∃ v,e=.returned v∧WantsAt w' v (adWants N)∧Ext w w':=by
 have hX:=Ext.refl w
 have b1:=Blk.new w (.cells #[.int .i64 8,.int .i64 N,.int .i64 mode,.int .i64 base,.int .i64 loc,.int .i64 room] 23)
 replace hX:=hX.alloc (.cells #[.int .i64 8,.int .i64 N,.int .i64 mode,.int .i64 base,.int .i64 loc,.int .i64 room] 23)
 have c_b1:=b1.cells
 go_enter Tryz.func100,Tryz.ntmps100
 go_wp2_with fail
 refine (adwants_r N _ h1 h2).mono ?_
 rintro e w2 ⟨v,rfl,hv,hx⟩
 have hf:=Lib.hid (And.intro hv (hX.trans hx))
 clear hv hx c_b1
 go_wp2_with fail
 go_ret
 exact⟨_,rfl,hf.out.1,hf.out.2⟩
theorem lkwants_r (alg:Int)(N:Nat)(mode base loc room:Int)(w:World)(ha:3≤alg∧alg≤8)(h1:1≤N)(h2:N≤8):Calls Tryz.prog 100 #[.agg #[.int .i64 alg,.int .i64 N,.int .i64 mode,.int .i64 base,.int .i64 loc,.int .i64 room]] w fun e w'=>∃ v,e=.returned v∧WantsAt w' v (lkWants alg N)∧Ext w w':=by
 have:alg=3∨alg=4∨alg=5∨alg=6∨alg=7∨alg=8:=by omega
 rcases this with rfl | rfl | rfl | rfl | rfl | rfl
 · exact lkw3 N mode base loc room w h1 h2
 · exact lkw4 N mode base loc room w h1 h2
 · exact lkw5 N mode base loc room w h1 h2
 · exact lkw6 N mode base loc room w h1 h2
 · exact lkw7 N mode base loc room w h1 h2
 · exact lkw8 N mode base loc room w h1 h2
end Go.Proofs.YtbaajjkopdjbgaaGreat
namespace Go.Proofs.YtbaajjkopdjbgaaGreat
open Go.RowKit Kv
theorem lkWants_le (alg:Int){N:Nat}(h1:1≤N)(h2:N≤8):(lkWants alg N).length≤300:=by
 unfold lkWants
 split
 · rw [bwWants_len];omega
 · split
   · rw [filWants_len];omega
   · split
     · rw [fastWants_len];omega
     · split
       · unfold treeWants
         rw [List.length_replicate]
         have hE:=(each_le alg).2
         have hle:=(pow_le (lev_le (show N≤64 by omega))).2
         have:=Nat.mul_le_mul hE (show 2 ^ levels (N:Int)-1≤63 by omega)
         omega
       · rw [adWants_len]
         have:=adTree_le h1 h2
         have:=(triN_le h1 h2).2
         omega
theorem size0_r (A:Option Addr)(c:Nat)(w:World):Calls Tryz.prog 182 #[.slice A 0 c] w fun e w'=>e=.returned (.tuple #[.int .i64 0,.int .i64 0])∧Ext w w':=by
 go_enter Tryz.func182,Tryz.ntmps182
 go_wp2_with fail
 go_loopw [4,5,6] (fun u v i wr=>i=.int .i64 0∧u=.int .i64 0∧v=.int .i64 0∧Ext w wr) (fun _ _ _ _=>0)
 case atStart=>exact⟨rfl,rfl,rfl,Ext.refl w⟩
 case round =>
  obtain⟨rfl,rfl,rfl,hX⟩:=hrel
  go_wp2_with fail
  first | go_ret2 | go_ret
  exact⟨rfl,hX⟩
theorem sizeV_r (v:Value)(rs:List Reg)(w:World)(h:RegsV w v rs)(hok:∀ r∈rs,r.ok)(hl:rs.length≤300) :
  Calls Tryz.prog 182 #[v] w fun e w'=>e=.returned (.tuple #[.int .i64 (sumC rs),.int .i64 (sumL rs)])∧Ext w w':=by
 obtain⟨A,c,rfl,q1,q2,hV⟩:=h
 by_cases h0:rs=[]
 · subst h0
   exact size0_r A c w
 · obtain⟨b,rfl,hb,hc⟩:=hV (by cases rs with | nil=>exact absurd rfl h0 | cons r l=>simp [regVals])
   exact size_r b c rs w hb hc hok hl
set_option maxRecDepth 100000 in
set_option maxHeartbeats 1000000 in
theorem lksize_r (alg:Int)(N:Nat)(mode base loc room:Int)(rs:List Reg)(w:World)(ha:1≤alg∧alg≤8)(h1:1≤N)(h2:N≤8)(hl:3≤alg→layM (lkWants alg N) N mode base loc=some rs) :
  Calls Tryz.prog 101 #[.agg #[.int .i64 alg,.int .i64 N,.int .i64 mode,.int .i64 base,.int .i64 loc,.int .i64 room]] w fun e w'=>e=.returned (.tuple #[.int .i64 (lkC alg N rs),.int .i64 (lkL alg rs)])∧Ext w w':=by
 have hX:=Ext.refl w
 have b1:=Blk.new w (.cells #[.int .i64 alg,.int .i64 N,.int .i64 mode,.int .i64 base,.int .i64 loc,.int .i64 room] 23)
 replace hX:=hX.alloc (.cells #[.int .i64 alg,.int .i64 N,.int .i64 mode,.int .i64 base,.int .i64 loc,.int .i64 room] 23)
 have c_b1:=b1.cells
 by_cases a1:alg=1
 · subst a1
   have hw:=IntWalk.i64_in (2*(N:Int)) (by omega)
   have e1:lkC 1 N rs=2*(N:Int):=rfl
   have e2:lkL 1 rs=1:=rfl
   rw [e1,e2]
   clear e1 e2 hl
   go_enter Tryz.func101,Tryz.ntmps101
   go_wp2_with fail
   first | go_ret2 | go_ret
   exact⟨rfl,hX⟩
 by_cases a2:alg=2
 · subst a2
   have e1:lkC 2 N rs=(N:Int):=rfl
   have e2:lkL 2 rs=0:=rfl
   rw [e1,e2]
   clear e1 e2 hl a1
   go_enter Tryz.func101,Tryz.ntmps101
   go_wp2_with fail
   first | go_ret2 | go_ret
   exact⟨rfl,hX⟩
 have hl:=hl (by omega)
 have hok:∀ r∈rs,r.ok:=fun r hr=>(laid_all hl r hr).1
 have hlen:=layM_len hl
 have hle:=lkWants_le alg h1 h2
 have hbd:=sum_bd hok rs.length (Nat.le_refl _)
 rw [List.take_length] at hbd
 have ha3:3≤alg∧alg≤8:=by omega
 have d1:(alg==1)=false:=by rw [beq_eq_false_iff_ne];exact a1
 have d2:(alg==2)=false:=by rw [beq_eq_false_iff_ne];exact a2
 have hC:lkC alg N rs=sumC rs:=by unfold lkC;rw [if_neg a1,if_neg a2]
 have hL:lkL alg rs=if alg=3∨alg=8 then sumL rs+1 else sumL rs:=by unfold lkL;rw [if_neg a1,if_neg a2]
 have hw:=IntWalk.i64_in (sumL rs+1) (by omega)
 have hCL:=Lib.hid (And.intro hC hL)
 have hlh:=Lib.hid hl
 have hokh:=Lib.hid hok
 have hlen9:rs.length≤300:=by omega
 have hlenw:(lkWants alg N).length≤1000:=by omega
 have hlenh:=Lib.hid (And.intro hlen9 hlenw)
 clear hl hok hlen hle hbd a1 a2 hC hL hlen9 hlenw
 go_enter Tryz.func101,Tryz.ntmps101
 go_wp2_with fail
 generalize w.alloc _=W at *
 have hXW:=hX
 clear hX c_b1
 have hX:=(Ext.refl W).drew
 have hS:∀ w',Ext W w'→(∀ i,w'.cell? ⟨w.heap.size,i,none⟩=(#[.int .i64 alg,.int .i64 N,.int .i64 mode,.int .i64 base,.int .i64 loc,.int .i64 room]:Array Value)[i]?):=fun w' hx=>(b1.ext hx).cells
 go_region_held2 (fun w'=>∀ i,w'.cell? ⟨w.heap.size,i,none⟩=(#[.int .i64 alg,.int .i64 N,.int .i64 mode,.int .i64 base,.int .i64 loc,.int .i64 room]:Array Value)[i]?) (exact hS _ hX)
  (first
    | (go_at_call 100
       refine (lkwants_r alg N mode base loc room _ ha3 h1 h2).mono ?_
       rintro e w2 ⟨v2,rfl,hw2,hx⟩
       replace hX:=hX.trans hx
       clear hx)
    | (go_at_call 176
       refine (layr_some hlh.out _ (hw2.ext (Ext.refl _)) hlenh.out.2).mono ?_
       rintro e w3 ⟨v3,rfl,hr3,hx⟩
       replace hX:=hX.trans hx
       clear hx))
 rename_i hh
 clear hh
 have hS3:=hS
 clear hS
 go_wp2_with fail
 refine (sizeV_r v3 rs _ hr3.1 hokh.out hlenh.out.1).mono ?_
 rintro e w4 ⟨rfl,hx4⟩
 have c_b4:=hS3 _ (hX.trans hx4)
 have hf:=Lib.hid (hXW.trans (hX.trans hx4))
 clear hr3 hx4 hX
 by_cases a3:alg=3
 · subst a3
   go_wp2_with fail
   first | go_ret2 | go_ret
   exact⟨by rw [hCL.out.1,hCL.out.2,if_pos (by simp)];rfl,hf.out⟩
 · have d3:(alg==3)=false:=by rw [beq_eq_false_iff_ne];exact a3
   by_cases a8:alg=8
   · subst a8
     clear a3
     go_wp2_with fail
     first | go_ret2 | go_ret
     exact⟨by rw [hCL.out.1,hCL.out.2,if_pos (by simp)];rfl,hf.out⟩
   · have d8:(alg==8)=false:=by rw [beq_eq_false_iff_ne];exact a8
     have hng:=Lib.hid (show ¬ (alg=3∨alg=8) by omega)
     clear a3 a8
     go_wp2_with fail
     first | go_ret2 | go_ret
     exact⟨by rw [hCL.out.1,hCL.out.2,if_neg hng.out];rfl,hf.out⟩
set_option maxRecDepth 100000 in
set_option maxHeartbeats 2000000 in
theorem lkfine_r (alg N0 mode base loc room:Int)(w:World):Calls Tryz.prog 21 #[.agg #[.int .i64 alg,.int .i64 N0,.int .i64 mode,.int .i64 base,.int .i64 loc,.int .i64 room]] w fun e w'=>(∃ b,e=.returned (.bool b)∧(b=true→∃ (N:Nat) (rs:List Reg),N0=N∧LkOk alg N mode base loc room rs))∧Ext w w':=by
 generalize hR:(fun (e:Ending) (w':World)=>(∃ b,e=.returned (.bool b)∧(b=true→∃ (N:Nat) (rs:List Reg),N0=N∧LkOk alg N mode base loc room rs))∧Ext w w')=R
 have hno:∀ w',Ext w w'→R (.returned (.bool false)) w':=fun w' h=>hR▸⟨⟨false,rfl,fun h=>by cases h⟩,h⟩
 have hyes:∀ w',Ext w w'→(∃ (N:Nat) (rs:List Reg),N0=N∧LkOk alg N mode base loc room rs)→R (.returned (.bool true)) w':=fun w' h k=>hR▸⟨⟨true,rfl,fun _=>k⟩,h⟩
 clear hR
 have hX:=(Ext.refl w).alloc (.cells #[.int .i64 alg,.int .i64 N0,.int .i64 mode,.int .i64 base,.int .i64 loc,.int .i64 room] 23)
 have b1:=Blk.new w (.cells #[.int .i64 alg,.int .i64 N0,.int .i64 mode,.int .i64 base,.int .i64 loc,.int .i64 room] 23)
 have c_b1:=b1.cells
 by_cases g0:alg<1
 · have d0:decide (alg<1)=true:=by rw [decide_eq_true_eq];exact g0
   have hf:=hno _ hX
   clear g0 hno hyes
   go_enter Tryz.func21,Tryz.ntmps21
   go_wp2_with fail
   first | exact hf | (go_ret;exact hf)
 have d0:decide (alg<1)=false:=by rw [decide_eq_false_iff_not];exact g0
 by_cases g1:8<alg
 · have d1:decide (8<alg)=true:=by rw [decide_eq_true_eq];exact g1
   have hf:=hno _ hX
   clear g1 hno hyes
   go_enter Tryz.func21,Tryz.ntmps21
   go_wp2_with fail
   first | exact hf | (go_ret;exact hf)
 have d1:decide (8<alg)=false:=by rw [decide_eq_false_iff_not];exact g1
 by_cases g2:N0<1
 · have d2:decide (N0<1)=true:=by rw [decide_eq_true_eq];exact g2
   have hf:=hno _ hX
   clear g2 hno hyes
   go_enter Tryz.func21,Tryz.ntmps21
   go_wp2_with fail
   first | exact hf | (go_ret;exact hf)
 have d2:decide (N0<1)=false:=by rw [decide_eq_false_iff_not];exact g2
 by_cases g3:8<N0
 · have d3:decide (8<N0)=true:=by rw [decide_eq_true_eq];exact g3
   have hf:=hno _ hX
   clear g3 hno hyes
   go_enter Tryz.func21,Tryz.ntmps21
   go_wp2_with fail
   first | exact hf | (go_ret;exact hf)
 have d3:decide (8<N0)=false:=by rw [decide_eq_false_iff_not];exact g3
 by_cases g4:mode<1
 · have d4:decide (mode<1)=true:=by rw [decide_eq_true_eq];exact g4
   have hf:=hno _ hX
   clear g4 hno hyes
   go_enter Tryz.func21,Tryz.ntmps21
   go_wp2_with fail
   first | exact hf | (go_ret;exact hf)
 have d4:decide (mode<1)=false:=by rw [decide_eq_false_iff_not];exact g4
 by_cases g5:2<mode
 · have d5:decide (2<mode)=true:=by rw [decide_eq_true_eq];exact g5
   have hf:=hno _ hX
   clear g5 hno hyes
   go_enter Tryz.func21,Tryz.ntmps21
   go_wp2_with fail
   first | exact hf | (go_ret;exact hf)
 have d5:decide (2<mode)=false:=by rw [decide_eq_false_iff_not];exact g5
 by_cases g6:base<0
 · have d6:decide (base<0)=true:=by rw [decide_eq_true_eq];exact g6
   have hf:=hno _ hX
   clear g6 hno hyes
   go_enter Tryz.func21,Tryz.ntmps21
   go_wp2_with fail
   first | exact hf | (go_ret;exact hf)
 have d6:decide (base<0)=false:=by rw [decide_eq_false_iff_not];exact g6
 by_cases g7:loc<0
 · have d7:decide (loc<0)=true:=by rw [decide_eq_true_eq];exact g7
   have hf:=hno _ hX
   clear g7 hno hyes
   go_enter Tryz.func21,Tryz.ntmps21
   go_wp2_with fail
   first | exact hf | (go_ret;exact hf)
 have d7:decide (loc<0)=false:=by rw [decide_eq_false_iff_not];exact g7
 by_cases g8:room<1
 · have d8:decide (room<1)=true:=by rw [decide_eq_true_eq];exact g8
   have hf:=hno _ hX
   clear g8 hno hyes
   go_enter Tryz.func21,Tryz.ntmps21
   go_wp2_with fail
   first | exact hf | (go_ret;exact hf)
 have d8:decide (room<1)=false:=by rw [decide_eq_false_iff_not];exact g8
 by_cases g9:1048576<room
 · have d9:decide (1048576<room)=true:=by rw [decide_eq_true_eq];exact g9
   have hf:=hno _ hX
   clear g9 hno hyes
   go_enter Tryz.func21,Tryz.ntmps21
   go_wp2_with fail
   first | exact hf | (go_ret;exact hf)
 have d9:decide (1048576<room)=false:=by rw [decide_eq_false_iff_not];exact g9
 by_cases g10:32768<base
 · have d10:decide (32768<base)=true:=by rw [decide_eq_true_eq];exact g10
   have hf:=hno _ hX
   clear g10 hno hyes
   go_enter Tryz.func21,Tryz.ntmps21
   go_wp2_with fail
   first | exact hf | (go_ret;exact hf)
 have d10:decide (32768<base)=false:=by rw [decide_eq_false_iff_not];exact g10
 by_cases g11:32768<loc
 · have d11:decide (32768<loc)=true:=by rw [decide_eq_true_eq];exact g11
   have hf:=hno _ hX
   clear g11 hno hyes
   go_enter Tryz.func21,Tryz.ntmps21
   go_wp2_with fail
   first | exact hf | (go_ret;exact hf)
 have d11:decide (32768<loc)=false:=by rw [decide_eq_false_iff_not];exact g11
 obtain⟨N,rfl⟩:∃ N:Nat,N0=N:=⟨N0.toNat,by omega⟩
 have hok9:∀ rs,(3≤alg→layM (lkWants alg N) N mode base loc=some rs)→base+lkC alg N rs≤32768→loc+lkL alg rs≤32768→LkOk alg N mode base loc room rs:=fun rs hl hc hl2=>⟨by omega,by omega,by omega,by omega,by omega,by omega,hl,hc,hl2⟩
 have ha:1≤alg∧alg≤8:=by omega
 have hb0:0≤base∧base≤32768:=by omega
 have hl0:0≤loc∧loc≤32768:=by omega
 have h1:1≤N:=by omega
 have h2:N≤8:=by omega
 clear g0 g1 g2 g3 g4 g5 g6 g7 g8 g9 g10 g11
 have hkb:∀ rs,(3≤alg→layM (lkWants alg N) N mode base loc=some rs)→0≤lkC alg N rs∧lkC alg N rs≤3000000∧0≤lkL alg rs∧lkL alg rs≤3000000:=fun rs hl=>by
  by_cases a1:alg=1
  · subst a1
    have e1:lkC 1 N rs=2*(N:Int):=rfl
    have e2:lkL 1 rs=1:=rfl
    omega
  by_cases a2:alg=2
  · subst a2
    have e1:lkC 2 N rs=(N:Int):=rfl
    have e2:lkL 2 rs=0:=rfl
    omega
  have hl:=hl (by omega)
  have hok:∀ r∈rs,r.ok:=fun r hr=>(laid_all hl r hr).1
  have hlen:=layM_len hl
  have hle:=lkWants_le alg h1 h2
  have hbd:=sum_bd hok rs.length (Nat.le_refl _)
  rw [List.take_length] at hbd
  have hC:lkC alg N rs=sumC rs:=by unfold lkC;rw [if_neg a1,if_neg a2]
  have hL:lkL alg rs=if alg=3∨alg=8 then sumL rs+1 else sumL rs:=by unfold lkL;rw [if_neg a1,if_neg a2]
  rw [hC,hL]
  split <;> omega
 have hend:∀ rs,(3≤alg→layM (lkWants alg N) N mode base loc=some rs)→∀ W,Ext w W→Calls Tryz.prog 101 #[.agg #[.int .i64 alg,.int .i64 N,.int .i64 mode,.int .i64 base,.int .i64 loc,.int .i64 room]] W fun e w'=>e=.returned (.tuple #[.int .i64 (lkC alg N rs),.int .i64 (lkL alg rs)])∧Ext W w':=fun rs hl W _=>lksize_r alg N mode base loc room rs W ha h1 h2 hl
 by_cases a3:2<alg
 · have d:decide (2<alg)=true:=by rw [decide_eq_true_eq];exact a3
   have hle:=lkWants_le alg h1 h2
   have hMay:=fun (va:Value) (w:World) (h:WantsAt w va (lkWants alg N))=>may_r va (lkWants alg N) alg N mode base loc room w h (by omega)
   cases hl:layM (lkWants alg N) N mode base loc with
   | none =>
     rw [hl] at hMay
     clear hend hkb hok9
     go_enter Tryz.func21,Tryz.ntmps21
     go_wp2_with fail
     generalize w.alloc _=W at *
     have hS:∀ w',Ext W w'→(∀ i,w'.cell? ⟨w.heap.size,i,none⟩=(#[.int .i64 alg,.int .i64 N,.int .i64 mode,.int .i64 base,.int .i64 loc,.int .i64 room]:Array Value)[i]?):=fun w' hx=>(b1.ext hx).cells
     have hXW:=hX
     refine wp_region_held_drew (S:=fun w'=>∀ i,w'.cell? ⟨w.heap.size,i,none⟩=(#[.int .i64 alg,.int .i64 N,.int .i64 mode,.int .i64 base,.int .i64 loc,.int .i64 room]:Array Value)[i]?) rfl (hS _ (Ext.refl W).drew) (fun hHeld=>?_)
     refine tk 0 (v:=?_) rfl (by kernel_rfl) (fun _ _ _ h=>h) (by assumption) ?_ ?_
     rotate_left
     · (intro w hSw;(try dsimp only at hSw);go_simp;try with_reducible rfl)
     try simp only [put_pack]
     refine tk 1 (v:=?_) rfl (by kernel_rfl) (fun _ _ _ h=>h) (by assumption) ?_ ?_
     rotate_left
     · (intro w hSw;(try dsimp only at hSw);go_simp;try with_reducible rfl)
     try simp only [put_pack]
     refine tk 2 (v:=?_) rfl (by kernel_rfl) (fun _ _ _ h=>h) (by assumption) ?_ ?_
     rotate_left
     · (intro w hSw;(try dsimp only at hSw);go_simp;try with_reducible rfl)
     try simp only [put_pack]
     refine tk 3 (v:=?_) rfl (by kernel_rfl) (fun _ _ _ h=>h) (by assumption) ?_ ?_
     rotate_left
     · (intro w hSw;(try dsimp only at hSw);go_simp;try with_reducible rfl)
     try simp only [put_pack]
     refine tk 4 (v:=?_) rfl (by kernel_rfl) (fun _ _ _ h=>h) (by assumption) ?_ ?_
     rotate_left
     · (intro w hSw;(try dsimp only at hSw);go_simp;try with_reducible rfl)
     try simp only [put_pack]
     refine tk 6 (v:=?_) rfl (by kernel_rfl) (fun _ _ _ h=>h) (by assumption) ?_ ?_
     rotate_left
     · (intro w hSw;(try dsimp only at hSw);go_simp;try with_reducible rfl)
     try simp only [put_pack]
     refine wpAnyH_ready (rs:=[5]) (by kernel_rfl) (by simp) ?_
     refine AllReadyH.cons rfl (fun K hKK=>?_) (AllReadyH.nil)
     go_simp
     refine (lkwants_r alg N mode base loc room _ (by omega) h1 h2).mono ?_
     rintro e w2 ⟨v2,rfl,hw2,hx⟩
     clear hX
     have hX:=(Ext.refl W).drew.trans hx
     clear hx
     refine hKK.out _ _ (hS _ hX) (fun hHeld=>?_)
     clear hKK K
     try dsimp only
     refine wpAnyH_ready (rs:=[7]) (by kernel_rfl) (by simp) ?_
     refine AllReadyH.cons rfl (fun K hKK=>?_) (AllReadyH.nil)
     go_simp
     refine (hMay v2 _ hw2).mono ?_
     rintro e w3 ⟨rfl,hx⟩
     replace hX:=hX.trans hx
     clear hx
     refine hKK.out _ _ (hS _ hX) (fun hHeld=>?_)
     clear hKK K hw2
     try dsimp only
     refine tk 8 (v:=?_) rfl (by kernel_rfl) (fun _ _ _ h=>h) (by assumption) ?_ ?_
     rotate_left
     · (intro w hSw;(try dsimp only at hSw);go_simp;try with_reducible rfl)
     try simp only [put_pack]
     refine tk 9 (v:=?_) rfl (by kernel_rfl) (fun _ _ _ h=>h) (by assumption) ?_ ?_
     rotate_left
     · (intro w hSw;(try dsimp only at hSw);go_simp;try with_reducible rfl)
     try simp only [put_pack]
     refine wpAnyH_done (by kernel_rfl) ?_ _
     go_simp
     have hf:=hno _ (hXW.trans hX)
     clear hX hS hno hyes
     go_wp2_with fail
     first | exact hf | (go_ret;exact hf)
   | some rs =>
     rw [hl] at hMay
     have hl3:3≤alg→layM (lkWants alg N) N mode base loc=some rs:=fun _=>hl
     have hend:=hend rs hl3
     have hkb:=hkb rs hl3
     have hokh:=Lib.hid (hok9 rs hl3)
     clear hl hl3 hok9
     generalize lkC alg N rs=C at *
     generalize lkL alg rs=L at *
     go_enter Tryz.func21,Tryz.ntmps21
     go_wp2_with fail
     generalize w.alloc _=W at *
     have hS:∀ w',Ext W w'→(∀ i,w'.cell? ⟨w.heap.size,i,none⟩=(#[.int .i64 alg,.int .i64 N,.int .i64 mode,.int .i64 base,.int .i64 loc,.int .i64 room]:Array Value)[i]?):=fun w' hx=>(b1.ext hx).cells
     have hXW:=hX
     refine wp_region_held_drew (S:=fun w'=>∀ i,w'.cell? ⟨w.heap.size,i,none⟩=(#[.int .i64 alg,.int .i64 N,.int .i64 mode,.int .i64 base,.int .i64 loc,.int .i64 room]:Array Value)[i]?) rfl (hS _ (Ext.refl W).drew) (fun hHeld=>?_)
     refine tk 0 (v:=?_) rfl (by kernel_rfl) (fun _ _ _ h=>h) (by assumption) ?_ ?_
     rotate_left
     · (intro w hSw;(try dsimp only at hSw);go_simp;try with_reducible rfl)
     try simp only [put_pack]
     refine tk 1 (v:=?_) rfl (by kernel_rfl) (fun _ _ _ h=>h) (by assumption) ?_ ?_
     rotate_left
     · (intro w hSw;(try dsimp only at hSw);go_simp;try with_reducible rfl)
     try simp only [put_pack]
     refine tk 2 (v:=?_) rfl (by kernel_rfl) (fun _ _ _ h=>h) (by assumption) ?_ ?_
     rotate_left
     · (intro w hSw;(try dsimp only at hSw);go_simp;try with_reducible rfl)
     try simp only [put_pack]
     refine tk 3 (v:=?_) rfl (by kernel_rfl) (fun _ _ _ h=>h) (by assumption) ?_ ?_
     rotate_left
     · (intro w hSw;(try dsimp only at hSw);go_simp;try with_reducible rfl)
     try simp only [put_pack]
     refine tk 4 (v:=?_) rfl (by kernel_rfl) (fun _ _ _ h=>h) (by assumption) ?_ ?_
     rotate_left
     · (intro w hSw;(try dsimp only at hSw);go_simp;try with_reducible rfl)
     try simp only [put_pack]
     refine tk 6 (v:=?_) rfl (by kernel_rfl) (fun _ _ _ h=>h) (by assumption) ?_ ?_
     rotate_left
     · (intro w hSw;(try dsimp only at hSw);go_simp;try with_reducible rfl)
     try simp only [put_pack]
     refine wpAnyH_ready (rs:=[5]) (by kernel_rfl) (by simp) ?_
     refine AllReadyH.cons rfl (fun K hKK=>?_) (AllReadyH.nil)
     go_simp
     refine (lkwants_r alg N mode base loc room _ (by omega) h1 h2).mono ?_
     rintro e w2 ⟨v2,rfl,hw2,hx⟩
     clear hX
     have hX:=(Ext.refl W).drew.trans hx
     clear hx
     refine hKK.out _ _ (hS _ hX) (fun hHeld=>?_)
     clear hKK K
     try dsimp only
     refine wpAnyH_ready (rs:=[7]) (by kernel_rfl) (by simp) ?_
     refine AllReadyH.cons rfl (fun K hKK=>?_) (AllReadyH.nil)
     go_simp
     refine (hMay v2 _ hw2).mono ?_
     rintro e w3 ⟨rfl,hx⟩
     replace hX:=hX.trans hx
     clear hx
     refine hKK.out _ _ (hS _ hX) (fun hHeld=>?_)
     clear hKK K hw2
     try dsimp only
     refine tk 8 (v:=?_) rfl (by kernel_rfl) (fun _ _ _ h=>h) (by assumption) ?_ ?_
     rotate_left
     · (intro w hSw;(try dsimp only at hSw);go_simp;try with_reducible rfl)
     try simp only [put_pack]
     refine tk 9 (v:=?_) rfl (by kernel_rfl) (fun _ _ _ h=>h) (by assumption) ?_ ?_
     rotate_left
     · (intro w hSw;(try dsimp only at hSw);go_simp;try with_reducible rfl)
     try simp only [put_pack]
     refine wpAnyH_done (by kernel_rfl) ?_ _
     go_simp
     have c_b1:=hS _ hX
     have hwc:=IntWalk.i64_in (base+C) (by omega)
     have hwl:=IntWalk.i64_in (loc+L) (by omega)
     go_wp2_with fail
     refine (hend _ (hXW.trans hX)).mono ?_
     rintro e w5 ⟨rfl,hx5⟩
     have c_b5:=(b1.ext (hX.trans hx5)).cells
     have hf:=Lib.hid (hXW.trans (hX.trans hx5))
     clear c_b1 hend
     by_cases r1:base+C≤32768
     · have e1:decide (base+C≤32768)=true:=by rw [decide_eq_true_eq];exact r1
       by_cases r2:loc+L≤32768
       · have e2:decide (loc+L≤32768)=true:=by rw [decide_eq_true_eq];exact r2
         have hff:=hyes _ hf.out ⟨N,_,rfl,hokh.out r1 r2⟩
         clear r1 r2 hyes hno
         go_wp2_with fail
         first | exact hff | (go_ret;exact hff)
       · have e2:decide (loc+L≤32768)=false:=by rw [decide_eq_false_iff_not];exact r2
         have hff:=hno _ hf.out
         clear r1 r2 hyes hno
         go_wp2_with fail
         first | exact hff | (go_ret;exact hff)
     · have e1:decide (base+C≤32768)=false:=by rw [decide_eq_false_iff_not];exact r1
       have hff:=hno _ hf.out
       clear r1 hyes hno
       go_wp2_with fail
       first | exact hff | (go_ret;exact hff)
 · have d:decide (2<alg)=false:=by rw [decide_eq_false_iff_not];exact a3
   have hl3:3≤alg→layM (lkWants alg N) N mode base loc=some []:=fun h=>absurd h (by omega)
   have hend:=hend [] hl3
   have hkb:=hkb [] hl3
   have hokh:=Lib.hid (hok9 [] hl3)
   clear hl3 hok9 a3
   generalize lkC alg N []=C at *
   generalize lkL alg []=L at *
   go_enter Tryz.func21,Tryz.ntmps21
   go_wp2_with fail
   generalize w.alloc _=W at *
   have hS:∀ w',Ext W w'→(∀ i,w'.cell? ⟨w.heap.size,i,none⟩=(#[.int .i64 alg,.int .i64 N,.int .i64 mode,.int .i64 base,.int .i64 loc,.int .i64 room]:Array Value)[i]?):=fun w' hx=>(b1.ext hx).cells
   have hXW:=hX
   refine wp_region_held_drew (S:=fun w'=>∀ i,w'.cell? ⟨w.heap.size,i,none⟩=(#[.int .i64 alg,.int .i64 N,.int .i64 mode,.int .i64 base,.int .i64 loc,.int .i64 room]:Array Value)[i]?) rfl (hS _ (Ext.refl W).drew) (fun hHeld=>?_)
   refine tk 0 (v:=?_) rfl (by kernel_rfl) (fun _ _ _ h=>h) (by assumption) ?_ ?_
   rotate_left
   · (intro w hSw;(try dsimp only at hSw);go_simp;try with_reducible rfl)
   try simp only [put_pack]
   refine tk 1 (v:=?_) rfl (by kernel_rfl) (fun _ _ _ h=>h) (by assumption) ?_ ?_
   rotate_left
   · (intro w hSw;(try dsimp only at hSw);go_simp;try with_reducible rfl)
   try simp only [put_pack]
   refine tk 2 (v:=?_) rfl (by kernel_rfl) (fun _ _ _ h=>h) (by assumption) ?_ ?_
   rotate_left
   · (intro w hSw;(try dsimp only at hSw);go_simp;try with_reducible rfl)
   try simp only [put_pack]
   refine tk 3 (v:=?_) rfl (by kernel_rfl) (fun _ _ _ h=>h) (by assumption) ?_ ?_
   rotate_left
   · (intro w hSw;(try dsimp only at hSw);go_simp;try with_reducible rfl)
   try simp only [put_pack]
   refine sk 4 rfl (by kernel_rfl) (fun _ _ _ h=>h) (by assumption) ?_
   try simp only [put_pack]
   refine sk 5 rfl (by kernel_rfl) (fun _ _ _ h=>h) (by assumption) ?_
   try simp only [put_pack]
   refine sk 6 rfl (by kernel_rfl) (fun _ _ _ h=>h) (by assumption) ?_
   try simp only [put_pack]
   refine sk 7 rfl (by kernel_rfl) (fun _ _ _ h=>h) (by assumption) ?_
   try simp only [put_pack]
   refine sk 8 rfl (by kernel_rfl) (fun _ _ _ h=>h) (by assumption) ?_
   try simp only [put_pack]
   refine tk 9 (v:=?_) rfl (by kernel_rfl) (fun _ _ _ h=>h) (by assumption) ?_ ?_
   rotate_left
   · (intro w hSw;(try dsimp only at hSw);go_simp;try with_reducible rfl)
   try simp only [put_pack]
   refine wpAnyH_done (by kernel_rfl) ?_ _
   go_simp
   have hX:=(Ext.refl W).drew
   have c_b1:=hS _ hX
   replace hX:=hXW.trans hX
   have hwc:=IntWalk.i64_in (base+C) (by omega)
   have hwl:=IntWalk.i64_in (loc+L) (by omega)
   go_wp2_with fail
   refine (hend _ hX).mono ?_
   rintro e w5 ⟨rfl,hx5⟩
   have c_b5:=(b1.ext ((Ext.refl W).drew.trans hx5)).cells
   have hf:=Lib.hid (hX.trans hx5)
   clear c_b1 hend
   by_cases r1:base+C≤32768
   · have e1:decide (base+C≤32768)=true:=by rw [decide_eq_true_eq];exact r1
     by_cases r2:loc+L≤32768
     · have e2:decide (loc+L≤32768)=true:=by rw [decide_eq_true_eq];exact r2
       have hff:=hyes _ hf.out ⟨N,_,rfl,hokh.out r1 r2⟩
       clear r1 r2 hyes hno
       go_wp2_with fail
       first | exact hff | (go_ret;exact hff)
     · have e2:decide (loc+L≤32768)=false:=by rw [decide_eq_false_iff_not];exact r2
       have hff:=hno _ hf.out
       clear r1 r2 hyes hno
       go_wp2_with fail
       first | exact hff | (go_ret;exact hff)
   · have e1:decide (base+C≤32768)=false:=by rw [decide_eq_false_iff_not];exact r1
     have hff:=hno _ hf.out
     clear r1 hyes hno
     go_wp2_with fail
     first | exact hff | (go_ret;exact hff)
end Go.Proofs.YtbaajjkopdjbgaaGreat
namespace Kv
def zeros (n:Nat):List Int:=List.replicate n 0
end Kv
namespace Go.Proofs.YtbaajjkopdjbgaaGreat
open Go.RowKit Kv
theorem make_ints (l:Int)(k:Nat)(hl:l=k)(hk:k≤100000)(w:World) :
  (Instr.makeSlice 25 (.int .i64 l) (.int .i64 l)).run Tryz.prog w=.ok (.slice (some ⟨w.heap.size,0,none⟩) k k) (w.alloc (.cells ((zeros k).map (Value.int .i64)).toArray 3)):=by
 subst hl
 obtain⟨i0,hi,hz0,hz1,hz2⟩:=info_parts info_int
 have hr:=run_makeSlice (P:=Tryz.prog) w 25 3 i0 (.int .i64 0) Tryz.underlying25 hi hz0 .i64 .i64 k k (by omega) (by omega) (by rw [hz1];simp;omega) (by rw [hz2];omega) (by omega)
 rw [Int.toNat_natCast,hz1,Nat.mul_one] at hr
 have he:madeCells (Value.int .i64 0).cells k=((zeros k).map (Value.int .i64)).toArray:=by
  unfold zeros madeCells
  apply Array.ext'
  rw [List.map_replicate]
  apply List.ext_getElem?
  intro j
  by_cases hj:j<k
  · simp [hj,Nat.mod_one,Value.cells]
  · simp [hj]
 rw [hr,he]
end Go.Proofs.YtbaajjkopdjbgaaGreat
namespace Go.Proofs.YtbaajjkopdjbgaaGreat
open Go.RowKit Kv
set_option maxRecDepth 100000 in
theorem count2_p (b c:Nat)(w:World)(hb:b<w.heap.size)(hc:∀ i,w.cell? ⟨b,i,none⟩=(#[.int .i64 3,.int .i64 1,.int .i64 1,.int .i64 3,.int .i64 1,.int .i64 9]:Array Value)[i]?) :
  Calls Tryz.prog 362 #[.slice (some ⟨b,0,none⟩) 2 c] w fun e w'=>e=.returned (.int .i64 6)∧Ext w w':=by
 go_enter Tryz.func362,Tryz.ntmps362
 go_wp2_with fail
 go_loopw [3,5,8] (fun u _ i wr=>((i=.int .i64 0∧u=.int .i64 0)∨(i=.int .i64 1∧u=.int .i64 3)∨(i=.int .i64 2∧u=.int .i64 6))∧Ext w wr) (fun _ _ i _=>2-(intOf i).toNat)
 case atStart=>exact⟨.inl ⟨rfl,rfl⟩,Ext.refl _⟩
 case round =>
  obtain⟨hr,hX⟩:=hrel
  have c_b:∀ i,wr.cell? ⟨b,i,none⟩=(#[.int .i64 3,.int .i64 1,.int .i64 1,.int .i64 3,.int .i64 1,.int .i64 9]:Array Value)[i]?:=fun i=>(hX.cell (p:=⟨b,i,none⟩) hb).trans (hc i)
  clear hc
  rcases hr with⟨rfl,rfl⟩ | ⟨rfl,rfl⟩ | ⟨rfl,rfl⟩
  · go_wp2_with fail
    refine⟨⟨.inr (.inl ⟨rfl,rfl⟩),hX.alloc _⟩,?_⟩
    simp [intOf]
  · go_wp2_with fail
    refine⟨⟨.inr (.inr ⟨rfl,rfl⟩),hX.alloc _⟩,?_⟩
    simp [intOf]
  · go_wp2_with fail
    go_ret
    exact⟨rfl,hX⟩
set_option maxRecDepth 100000 in
theorem count1_p (b c:Nat)(w:World)(hb:b<w.heap.size)(hc:∀ i,w.cell? ⟨b,i,none⟩=(#[.int .i64 8,.int .i64 1,.int .i64 1]:Array Value)[i]?) :
  Calls Tryz.prog 362 #[.slice (some ⟨b,0,none⟩) 1 c] w fun e w'=>e=.returned (.int .i64 8)∧Ext w w':=by
 go_enter Tryz.func362,Tryz.ntmps362
 go_wp2_with fail
 go_loopw [3,5,8] (fun u _ i wr=>((i=.int .i64 0∧u=.int .i64 0)∨(i=.int .i64 1∧u=.int .i64 8))∧Ext w wr) (fun _ _ i _=>1-(intOf i).toNat)
 case atStart=>exact⟨.inl ⟨rfl,rfl⟩,Ext.refl _⟩
 case round =>
  obtain⟨hr,hX⟩:=hrel
  have c_b:∀ i,wr.cell? ⟨b,i,none⟩=(#[.int .i64 8,.int .i64 1,.int .i64 1]:Array Value)[i]?:=fun i=>(hX.cell (p:=⟨b,i,none⟩) hb).trans (hc i)
  clear hc
  rcases hr with⟨rfl,rfl⟩ | ⟨rfl,rfl⟩
  · go_wp2_with fail
    refine⟨⟨.inr ⟨rfl,rfl⟩,hX.alloc _⟩,?_⟩
    simp [intOf]
  · go_wp2_with fail
    go_ret
    exact⟨rfl,hX⟩
theorem baksize_p (w:World):Calls Tryz.prog 358 #[.agg #[],.agg #[.int .i64 1,.int .i64 3,.int .i64 1,.int .i64 0,.int .i64 0,.int .i64 9]] w fun e w'=>e=.returned (.tuple #[.int .i64 6,.int .i64 1,.bool true])∧Ext w w':=by
 have hX0:=((Ext.refl w).alloc (.cells #[] 157)).alloc (.cells #[.int .i64 1,.int .i64 3,.int .i64 1,.int .i64 0,.int .i64 0,.int .i64 9] 23)
 have b2:=Blk.new (w.alloc (.cells #[] 157)) (.cells #[.int .i64 1,.int .i64 3,.int .i64 1,.int .i64 0,.int .i64 0,.int .i64 9] 23)
 simp only [World.size_alloc] at b2
 have hst:∀ w,Calls Tryz.prog 363 #[.agg #[.int .i64 1,.int .i64 3,.int .i64 1,.int .i64 0,.int .i64 0,.int .i64 9]] w fun e w'=>∃ b,e=.returned (.slice (some ⟨b,0,none⟩) 2 2)∧Blk w' b (.cells #[.int .i64 3,.int .i64 1,.int .i64 1,.int .i64 3,.int .i64 1,.int .i64 9] 176)∧Ext w w':=by
  intro w
  have hX:=Ext.refl w
  have b1:=Blk.new w (.cells #[.int .i64 1,.int .i64 3,.int .i64 1,.int .i64 0,.int .i64 0,.int .i64 9] 23)
  replace hX:=hX.alloc (.cells #[.int .i64 1,.int .i64 3,.int .i64 1,.int .i64 0,.int .i64 0,.int .i64 9] 23)
  have c_b1:=b1.cells
  go_enter Tryz.func363,Tryz.ntmps363
  go_wp2_with fail
  refine (sizes_p 1 3 1 0 0 9 _ (by decide) (by decide)).mono ?_
  rintro e w1 ⟨rfl,hx⟩
  have hf:=Lib.hid ((hX.trans hx).alloc (.cells #[.int .i64 3,.int .i64 1,.int .i64 1,.int .i64 3,.int .i64 1,.int .i64 9] 176))
  clear hX hx c_b1
  go_wp2_with fail
  go_ret
  exact⟨_,rfl,Blk.new w1 _,hf.out⟩
 have hlo:∀ w,Calls Tryz.prog 364 #[.agg #[.int .i64 1,.int .i64 3,.int .i64 1,.int .i64 0,.int .i64 0,.int .i64 9]] w fun e w'=>e=.returned (.int .i64 1)∧Ext w w':=by
  intro w
  have hX:=(Ext.refl w).alloc (.cells #[.int .i64 1,.int .i64 3,.int .i64 1,.int .i64 0,.int .i64 0,.int .i64 9] 23)
  go_enter Tryz.func364,Tryz.ntmps364
  go_wp2_with fail
  go_ret
  exact⟨rfl,hX⟩
 go_enter Tryz.func358,Tryz.ntmps358
 go_wp2_with fail
 generalize World.alloc (World.alloc w _) _=W at *
 have hX:=(Ext.refl W).drew
 have hS:∀ w',Ext W w'→(∀ i,w'.cell? ⟨w.heap.size+1,i,none⟩=(#[.int .i64 1,.int .i64 3,.int .i64 1,.int .i64 0,.int .i64 0,.int .i64 9]:Array Value)[i]?):=fun w' hx=>(b2.ext hx).cells
 go_region_held2 (fun w'=>∀ i,w'.cell? ⟨w.heap.size+1,i,none⟩=(#[.int .i64 1,.int .i64 3,.int .i64 1,.int .i64 0,.int .i64 0,.int .i64 9]:Array Value)[i]?) (exact hS _ hX)
  (first
    | (go_at_call 363
       refine (hst _).mono ?_
       rintro e w2 ⟨b,rfl,hb,hx⟩
       replace hX:=hX.trans hx
       clear hx)
    | (go_at_call 362
       first
        | refine (count2_p b 2 _ hb.lt hb.cells).mono ?_
        | refine (count2_p b 2 _ (hb.ext hx9).lt (hb.ext hx9).cells).mono ?_
       rintro e w3 ⟨rfl,hx⟩
       replace hX:=hX.trans hx
       clear hx)
    | (go_at_call 364
       refine (hlo _).mono ?_
       rintro e w4 ⟨rfl,hx9⟩
       replace hX:=hX.trans hx9))
 have hf:=Lib.hid (hX0.trans hX)
 clear hX hS hst hlo
 go_wp2_with fail
 refine bodyPost_ret (v:=.tuple #[.int .i64 6,.int .i64 1,.bool true]) (by simp [results,Tryz.results358,go_sem]) rfl ?_
 exact⟨rfl,hf.out⟩
theorem bitsize_p (w:World):Calls Tryz.prog 368 #[.agg #[],.agg #[.int .i64 2,.int .i64 8,.int .i64 1,.int .i64 0,.int .i64 0,.int .i64 1]] w fun e w'=>e=.returned (.tuple #[.int .i64 8,.int .i64 0,.bool true])∧Ext w w':=by
 have hX0:=((Ext.refl w).alloc (.cells #[] 158)).alloc (.cells #[.int .i64 2,.int .i64 8,.int .i64 1,.int .i64 0,.int .i64 0,.int .i64 1] 23)
 have hst:∀ w,Calls Tryz.prog 372 #[.agg #[.int .i64 2,.int .i64 8,.int .i64 1,.int .i64 0,.int .i64 0,.int .i64 1]] w fun e w'=>∃ b,e=.returned (.slice (some ⟨b,0,none⟩) 1 1)∧Blk w' b (.cells #[.int .i64 8,.int .i64 1,.int .i64 1] 176)∧Ext w w':=by
  intro w
  have hX:=Ext.refl w
  have b1:=Blk.new w (.cells #[.int .i64 2,.int .i64 8,.int .i64 1,.int .i64 0,.int .i64 0,.int .i64 1] 23)
  replace hX:=hX.alloc (.cells #[.int .i64 2,.int .i64 8,.int .i64 1,.int .i64 0,.int .i64 0,.int .i64 1] 23)
  have c_b1:=b1.cells
  go_enter Tryz.func372,Tryz.ntmps372
  go_wp2_with fail
  refine (onethr_p 2 8 1 0 0 1 _ (by decide)).mono ?_
  rintro e w1 ⟨rfl,hx⟩
  have hf:=Lib.hid ((hX.trans hx).alloc (.cells #[.int .i64 8,.int .i64 1,.int .i64 1] 176))
  clear hX hx c_b1
  go_wp2_with fail
  go_ret
  exact⟨_,rfl,Blk.new w1 _,hf.out⟩
 go_enter Tryz.func368,Tryz.ntmps368
 go_wp2_with fail
 refine (hst _).mono ?_
 rintro e w2 ⟨b,rfl,hb,hx⟩
 go_wp2_with fail
 refine (count1_p b 1 _ hb.lt hb.cells).mono ?_
 rintro e w3 ⟨rfl,hx3⟩
 have hf:=Lib.hid (hX0.trans (hx.trans hx3))
 clear hx hx3 hb hst
 go_wp2_with fail
 refine bodyPost_ret (v:=.tuple #[.int .i64 8,.int .i64 0,.bool true]) (by simp [results,Tryz.results368,go_sem]) rfl ?_
 exact⟨rfl,hf.out⟩
theorem of0_p (w:World):Calls Tryz.prog 107 #[.int .i64 0] w fun e w'=>e=.returned .nilIface∧Ext w w':=by
 have hX:=(Ext.refl w).alloc (.cells #[.int .i64 0] 3)
 go_enter Tryz.func107,Tryz.ntmps107
 go_wp2_with fail
 go_ret
 exact⟨rfl,hX⟩
set_option maxRecDepth 100000 in
theorem cellsA_p (w:World):Calls Tryz.prog 35 #[.agg #[.int .i64 1,.int .i64 3,.int .i64 1,.int .i64 0,.int .i64 0,.int .i64 9]] w fun e w'=>e=.returned (.int .i64 6)∧Ext w w':=by
 have hmt:∀ (w:World),(method 349 157 (.agg #[]) "kevel/lock.size").run Tryz.prog w=.ok (358,.agg #[]) w:=fun _=>by kernel_rfl
 have hX:=Ext.refl w
 have b1:=Blk.new w (.cells #[.int .i64 1,.int .i64 3,.int .i64 1,.int .i64 0,.int .i64 0,.int .i64 9] 23)
 replace hX:=hX.alloc (.cells #[.int .i64 1,.int .i64 3,.int .i64 1,.int .i64 0,.int .i64 0,.int .i64 9] 23)
 have c_b1:=b1.cells
 go_enter Tryz.func35,Tryz.ntmps35
 go_wp2_with fail
 refine (of1_p _).mono ?_
 rintro e w1 ⟨rfl,hx⟩
 replace b1:=b1.ext hx
 replace hX:=hX.trans hx
 clear hx c_b1
 generalize w.heap.size=z at *
 have c_b1:=b1.cells
 go_wp2_with fail
 refine (baksize_p _).mono ?_
 rintro e w2 ⟨rfl,hx⟩
 have c_b2:=(b1.ext hx).cells
 have hf:=Lib.hid (hX.trans hx)
 clear c_b1 hx hX
 go_wp2_with fail
 go_ret
 exact⟨rfl,hf.out⟩
set_option maxRecDepth 100000 in
theorem cellsB_p (w:World):Calls Tryz.prog 35 #[.agg #[.int .i64 2,.int .i64 8,.int .i64 1,.int .i64 0,.int .i64 0,.int .i64 1]] w fun e w'=>e=.returned (.int .i64 8)∧Ext w w':=by
 have hmt:∀ (w:World),(method 349 158 (.agg #[]) "kevel/lock.size").run Tryz.prog w=.ok (368,.agg #[]) w:=fun _=>by kernel_rfl
 have hX:=Ext.refl w
 have b1:=Blk.new w (.cells #[.int .i64 2,.int .i64 8,.int .i64 1,.int .i64 0,.int .i64 0,.int .i64 1] 23)
 replace hX:=hX.alloc (.cells #[.int .i64 2,.int .i64 8,.int .i64 1,.int .i64 0,.int .i64 0,.int .i64 1] 23)
 have c_b1:=b1.cells
 go_enter Tryz.func35,Tryz.ntmps35
 go_wp2_with fail
 refine (of2_p _).mono ?_
 rintro e w1 ⟨rfl,hx⟩
 replace b1:=b1.ext hx
 replace hX:=hX.trans hx
 clear hx c_b1
 generalize w.heap.size=z at *
 have c_b1:=b1.cells
 go_wp2_with fail
 refine (bitsize_p _).mono ?_
 rintro e w2 ⟨rfl,hx⟩
 have c_b2:=(b1.ext hx).cells
 have hf:=Lib.hid (hX.trans hx)
 clear c_b1 hx hX
 go_wp2_with fail
 go_ret
 exact⟨rfl,hf.out⟩
set_option maxRecDepth 100000 in
theorem localsA_p (w:World):Calls Tryz.prog 103 #[.agg #[.int .i64 1,.int .i64 3,.int .i64 1,.int .i64 0,.int .i64 0,.int .i64 9]] w fun e w'=>e=.returned (.int .i64 1)∧Ext w w':=by
 have hmt:∀ (w:World),(method 349 157 (.agg #[]) "kevel/lock.size").run Tryz.prog w=.ok (358,.agg #[]) w:=fun _=>by kernel_rfl
 have hX:=Ext.refl w
 have b1:=Blk.new w (.cells #[.int .i64 1,.int .i64 3,.int .i64 1,.int .i64 0,.int .i64 0,.int .i64 9] 23)
 replace hX:=hX.alloc (.cells #[.int .i64 1,.int .i64 3,.int .i64 1,.int .i64 0,.int .i64 0,.int .i64 9] 23)
 have c_b1:=b1.cells
 go_enter Tryz.func103,Tryz.ntmps103
 go_wp2_with fail
 refine (of1_p _).mono ?_
 rintro e w1 ⟨rfl,hx⟩
 replace b1:=b1.ext hx
 replace hX:=hX.trans hx
 clear hx c_b1
 generalize w.heap.size=z at *
 have c_b1:=b1.cells
 go_wp2_with fail
 refine (baksize_p _).mono ?_
 rintro e w2 ⟨rfl,hx⟩
 have c_b2:=(b1.ext hx).cells
 have hf:=Lib.hid (hX.trans hx)
 clear c_b1 hx hX
 go_wp2_with fail
 go_ret
 exact⟨rfl,hf.out⟩
set_option maxRecDepth 100000 in
theorem fineA_p (w:World):Calls Tryz.prog 34 #[.agg #[.int .i64 1,.int .i64 3,.int .i64 1,.int .i64 0,.int .i64 0,.int .i64 9]] w fun e w'=>e=.returned (.bool true)∧Ext w w':=by
 have hmt:∀ (w:World),(method 349 157 (.agg #[]) "kevel/lock.size").run Tryz.prog w=.ok (358,.agg #[]) w:=fun _=>by kernel_rfl
 have hX:=Ext.refl w
 have b1:=Blk.new w (.cells #[.int .i64 1,.int .i64 3,.int .i64 1,.int .i64 0,.int .i64 0,.int .i64 9] 23)
 replace hX:=hX.alloc (.cells #[.int .i64 1,.int .i64 3,.int .i64 1,.int .i64 0,.int .i64 0,.int .i64 9] 23)
 have c_b1:=b1.cells
 go_enter Tryz.func34,Tryz.ntmps34
 go_wp2_with fail
 refine (of1_p _).mono ?_
 rintro e w1 ⟨rfl,hx⟩
 replace b1:=b1.ext hx
 replace hX:=hX.trans hx
 clear hx c_b1
 generalize w.heap.size=z at *
 have c_b1:=b1.cells
 go_wp2_with fail
 refine (baksize_p _).mono ?_
 rintro e w2 ⟨rfl,hx⟩
 have c_b2:=(b1.ext hx).cells
 have hf:=Lib.hid (hX.trans hx)
 clear c_b1 hx hX
 go_wp2_with fail
 go_ret
 exact⟨rfl,hf.out⟩
set_option maxRecDepth 100000 in
theorem fine0_p (w:World):Calls Tryz.prog 34 #[.agg #[.int .i64 0,.int .i64 0,.int .i64 0,.int .i64 0,.int .i64 0,.int .i64 0]] w fun e w'=>e=.returned (.bool false)∧Ext w w':=by
 have hX:=Ext.refl w
 have b1:=Blk.new w (.cells #[.int .i64 0,.int .i64 0,.int .i64 0,.int .i64 0,.int .i64 0,.int .i64 0] 23)
 replace hX:=hX.alloc (.cells #[.int .i64 0,.int .i64 0,.int .i64 0,.int .i64 0,.int .i64 0,.int .i64 0] 23)
 have c_b1:=b1.cells
 go_enter Tryz.func34,Tryz.ntmps34
 go_wp2_with fail
 refine (of0_p _).mono ?_
 rintro e w1 ⟨rfl,hx⟩
 replace b1:=b1.ext hx
 have hf:=Lib.hid (hX.trans hx)
 clear hx hX c_b1
 generalize w.heap.size=z at *
 have c_b1:=b1.cells
 go_wp2_with fail
 go_ret
 exact⟨rfl,hf.out⟩
def words8:Value:=.agg #[.string ⟨#[98,97,107,101,114,121]⟩,.string ⟨#[111,110,101,98,105,116]⟩,.string ⟨#[98,108,97,99,107]⟩,.string ⟨#[102,105,108,116,101,114]⟩,.string ⟨#[102,97,115,116]⟩,.string ⟨#[112,101,116,101,114,115,111,110]⟩,.string ⟨#[107,101,115,115,101,108,115]⟩,.string ⟨#[97,100,97,112,116]⟩]
theorem words_p (w:World):Calls Tryz.prog 183 #[] w fun e w'=>e=.returned words8∧Ext w w':=by
 have c_z:=(Blk.new w (.cells #[.string ⟨#[98,97,107,101,114,121]⟩,.string ⟨#[111,110,101,98,105,116]⟩,.string ⟨#[98,108,97,99,107]⟩,.string ⟨#[102,105,108,116,101,114]⟩,.string ⟨#[102,97,115,116]⟩,.string ⟨#[112,101,116,101,114,115,111,110]⟩,.string ⟨#[107,101,115,115,101,108,115]⟩,.string ⟨#[97,100,97,112,116]⟩] 153)).cells
 have hX:=Lib.hid ((Ext.refl w).alloc (.cells #[.string ⟨#[98,97,107,101,114,121]⟩,.string ⟨#[111,110,101,98,105,116]⟩,.string ⟨#[98,108,97,99,107]⟩,.string ⟨#[102,105,108,116,101,114]⟩,.string ⟨#[102,97,115,116]⟩,.string ⟨#[112,101,116,101,114,115,111,110]⟩,.string ⟨#[107,101,115,115,101,108,115]⟩,.string ⟨#[97,100,97,112,116]⟩] 153))
 go_enter Tryz.func183,Tryz.ntmps183
 go_wp2_with fail
 refine bodyPost_ret (v:=words8) (by unfold words8;simp [results,Tryz.results183,go_sem,c_z]) rfl ?_
 exact⟨rfl,hX.out⟩
theorem costs1_p (w:World):Calls Tryz.prog 122 #[.agg #[.int .i64 1,.int .i64 3,.int .i64 1,.int .i64 0,.int .i64 0,.int .i64 9]] w fun e w'=>e=.returned (.tuple #[.agg #[.int .i64 1,.int .i64 1],.agg #[.int .i64 1,.int .i64 1]])∧Ext w w':=by
 have z1:=(Blk.new (w.alloc (.cells #[.int .i64 1,.int .i64 3,.int .i64 1,.int .i64 0,.int .i64 0,.int .i64 9] 23)) (.cells #[.int .i64 1,.int .i64 1] 117)).alloc (.cells #[.int .i64 1,.int .i64 1] 117)
 have z2:=Blk.new ((w.alloc (.cells #[.int .i64 1,.int .i64 3,.int .i64 1,.int .i64 0,.int .i64 0,.int .i64 9] 23)).alloc (.cells #[.int .i64 1,.int .i64 1] 117)) (.cells #[.int .i64 1,.int .i64 1] 117)
 simp only [World.size_alloc] at z1 z2
 have c_1:=z1.cells
 have c_2:=z2.cells
 have hX:=Lib.hid ((((Ext.refl w).alloc (.cells #[.int .i64 1,.int .i64 3,.int .i64 1,.int .i64 0,.int .i64 0,.int .i64 9] 23)).alloc (.cells #[.int .i64 1,.int .i64 1] 117)).alloc (.cells #[.int .i64 1,.int .i64 1] 117))
 go_enter Tryz.func122,Tryz.ntmps122
 go_wp2_with fail
 refine bodyPost_ret (v:=.tuple #[.agg #[.int .i64 1,.int .i64 1],.agg #[.int .i64 1,.int .i64 1]]) (by simp [results,Tryz.results122,go_sem,c_1,c_2]) rfl ?_
 exact⟨rfl,hX.out⟩
theorem word8_p (w:World):Calls Tryz.prog 104 #[.int .i64 8] w fun e w'=>e=.returned (.string ⟨#[97,100,97,112,116]⟩)∧Ext w w':=by
 go_enter Tryz.func104,Tryz.ntmps104
 go_wp2_with fail
 refine (words_p _).mono ?_
 rintro e w1 ⟨rfl,hx⟩
 unfold words8
 have hf:=Lib.hid (hx.alloc (.cells #[.string ⟨#[98,97,107,101,114,121]⟩,.string ⟨#[111,110,101,98,105,116]⟩,.string ⟨#[98,108,97,99,107]⟩,.string ⟨#[102,105,108,116,101,114]⟩,.string ⟨#[102,97,115,116]⟩,.string ⟨#[112,101,116,101,114,115,111,110]⟩,.string ⟨#[107,101,115,115,101,108,115]⟩,.string ⟨#[97,100,97,112,116]⟩] 153))
 go_wp2_with fail
 go_ret
 exact⟨rfl,hf.out⟩
set_option maxRecDepth 100000 in
theorem algfast_p (w:World):Calls Tryz.prog 105 #[.string ⟨#[102,97,115,116]⟩] w fun e w'=>e=.returned (.int .i64 5)∧Ext w w':=by
 have hx0:∀ w,(Instr.index 153 words8 (.int .i64 0)).run Tryz.prog w=.ok (.string ⟨#[98,97,107,101,114,121]⟩) w:=fun _=>by kernel_rfl
 have hx1:∀ w,(Instr.index 153 words8 (.int .i64 1)).run Tryz.prog w=.ok (.string ⟨#[111,110,101,98,105,116]⟩) w:=fun _=>by kernel_rfl
 have hx2:∀ w,(Instr.index 153 words8 (.int .i64 2)).run Tryz.prog w=.ok (.string ⟨#[98,108,97,99,107]⟩) w:=fun _=>by kernel_rfl
 have hx3:∀ w,(Instr.index 153 words8 (.int .i64 3)).run Tryz.prog w=.ok (.string ⟨#[102,105,108,116,101,114]⟩) w:=fun _=>by kernel_rfl
 have hx4:∀ w,(Instr.index 153 words8 (.int .i64 4)).run Tryz.prog w=.ok (.string ⟨#[102,97,115,116]⟩) w:=fun _=>by kernel_rfl
 go_enter Tryz.func105,Tryz.ntmps105
 go_wp2_with fail
 refine (words_p _).mono ?_
 rintro e w1 ⟨rfl,hx⟩
 go_wp2_with fail
 go_loopw [3,4,6] (fun _ _ i wr=>(i=.int .i64 0∨i=.int .i64 1∨i=.int .i64 2∨i=.int .i64 3∨i=.int .i64 4)∧Ext w wr) (fun _ _ i _=>8-(intOf i).toNat)
 case atStart=>exact⟨.inl rfl,hx⟩
 case round =>
  obtain⟨hr,hX⟩:=hrel
  rcases hr with rfl | rfl | rfl | rfl | rfl
  · go_wp2_with fail
    exact⟨⟨.inr (.inl rfl),hX⟩,by simp [intOf]⟩
  · go_wp2_with fail
    exact⟨⟨.inr (.inr (.inl rfl)),hX⟩,by simp [intOf]⟩
  · go_wp2_with fail
    exact⟨⟨.inr (.inr (.inr (.inl rfl))),hX⟩,by simp [intOf]⟩
  · go_wp2_with fail
    exact⟨⟨.inr (.inr (.inr (.inr (rfl)))),hX⟩,by simp [intOf]⟩
  · go_wp2_with fail
    go_ret
    exact⟨rfl,hX⟩
set_option maxRecDepth 100000 in
theorem algnone_p (w:World):Calls Tryz.prog 105 #[.string ⟨#[]⟩] w fun e w'=>e=.returned (.int .i64 0)∧Ext w w':=by
 have hx0:∀ w,(Instr.index 153 words8 (.int .i64 0)).run Tryz.prog w=.ok (.string ⟨#[98,97,107,101,114,121]⟩) w:=fun _=>by kernel_rfl
 have hx1:∀ w,(Instr.index 153 words8 (.int .i64 1)).run Tryz.prog w=.ok (.string ⟨#[111,110,101,98,105,116]⟩) w:=fun _=>by kernel_rfl
 have hx2:∀ w,(Instr.index 153 words8 (.int .i64 2)).run Tryz.prog w=.ok (.string ⟨#[98,108,97,99,107]⟩) w:=fun _=>by kernel_rfl
 have hx3:∀ w,(Instr.index 153 words8 (.int .i64 3)).run Tryz.prog w=.ok (.string ⟨#[102,105,108,116,101,114]⟩) w:=fun _=>by kernel_rfl
 have hx4:∀ w,(Instr.index 153 words8 (.int .i64 4)).run Tryz.prog w=.ok (.string ⟨#[102,97,115,116]⟩) w:=fun _=>by kernel_rfl
 have hx5:∀ w,(Instr.index 153 words8 (.int .i64 5)).run Tryz.prog w=.ok (.string ⟨#[112,101,116,101,114,115,111,110]⟩) w:=fun _=>by kernel_rfl
 have hx6:∀ w,(Instr.index 153 words8 (.int .i64 6)).run Tryz.prog w=.ok (.string ⟨#[107,101,115,115,101,108,115]⟩) w:=fun _=>by kernel_rfl
 have hx7:∀ w,(Instr.index 153 words8 (.int .i64 7)).run Tryz.prog w=.ok (.string ⟨#[97,100,97,112,116]⟩) w:=fun _=>by kernel_rfl
 go_enter Tryz.func105,Tryz.ntmps105
 go_wp2_with fail
 refine (words_p _).mono ?_
 rintro e w1 ⟨rfl,hx⟩
 go_wp2_with fail
 go_loopw [3,4,6] (fun _ _ i wr=>(i=.int .i64 0∨i=.int .i64 1∨i=.int .i64 2∨i=.int .i64 3∨i=.int .i64 4∨i=.int .i64 5∨i=.int .i64 6∨i=.int .i64 7∨i=.int .i64 8)∧Ext w wr) (fun _ _ i _=>8-(intOf i).toNat)
 case atStart=>exact⟨.inl rfl,hx⟩
 case round =>
  obtain⟨hr,hX⟩:=hrel
  rcases hr with rfl | rfl | rfl | rfl | rfl | rfl | rfl | rfl | rfl
  · go_wp2_with fail
    exact⟨⟨.inr (.inl rfl),hX⟩,by simp [intOf]⟩
  · go_wp2_with fail
    exact⟨⟨.inr (.inr (.inl rfl)),hX⟩,by simp [intOf]⟩
  · go_wp2_with fail
    exact⟨⟨.inr (.inr (.inr (.inl rfl))),hX⟩,by simp [intOf]⟩
  · go_wp2_with fail
    exact⟨⟨.inr (.inr (.inr (.inr (.inl rfl)))),hX⟩,by simp [intOf]⟩
  · go_wp2_with fail
    exact⟨⟨.inr (.inr (.inr (.inr (.inr (.inl rfl))))),hX⟩,by simp [intOf]⟩
  · go_wp2_with fail
    exact⟨⟨.inr (.inr (.inr (.inr (.inr (.inr (.inl rfl)))))),hX⟩,by simp [intOf]⟩
  · go_wp2_with fail
    exact⟨⟨.inr (.inr (.inr (.inr (.inr (.inr (.inr (.inl rfl))))))),hX⟩,by simp [intOf]⟩
  · go_wp2_with fail
    exact⟨⟨.inr (.inr (.inr (.inr (.inr (.inr (.inr (.inr (rfl)))))))),hX⟩,by simp [intOf]⟩
  · go_wp2_with fail
    go_ret
    exact⟨rfl,hX⟩
set_option maxRecDepth 100000 in
theorem aloneA_p (w:World):Calls Tryz.prog 36 #[.agg #[.int .i64 1,.int .i64 3,.int .i64 1,.int .i64 0,.int .i64 0,.int .i64 9]] w fun e w'=>e=.returned (.tuple #[.int .i64 9,.int .i64 1])∧Ext w w':=by
 have hX:=Ext.refl w
 have b1:=Blk.new w (.cells #[.int .i64 1,.int .i64 3,.int .i64 1,.int .i64 0,.int .i64 0,.int .i64 9] 23)
 replace hX:=hX.alloc (.cells #[.int .i64 1,.int .i64 3,.int .i64 1,.int .i64 0,.int .i64 0,.int .i64 9] 23)
 have c_b1:=b1.cells
 go_enter Tryz.func36,Tryz.ntmps36
 go_wp2_with fail
 refine (fineA_p _).mono ?_
 rintro e w1 ⟨rfl,hx⟩
 replace b1:=b1.ext hx
 replace hX:=hX.trans hx
 clear hx c_b1
 generalize w.heap.size=z at *
 have c_b1:=b1.cells
 go_wp2_with fail
 refine (costs1_p _).mono ?_
 rintro e w2 ⟨rfl,hx⟩
 replace b1:=b1.ext hx
 replace hX:=hX.trans hx
 clear hx c_b1
 have c_b1:=b1.cells
 have z1:=(Blk.new w2 (.cells #[.int .i64 1,.int .i64 1] 117)).alloc (.cells #[.int .i64 1,.int .i64 1] 117)
 have z2:=Blk.new (w2.alloc (.cells #[.int .i64 1,.int .i64 1] 117)) (.cells #[.int .i64 1,.int .i64 1] 117)
 simp only [World.size_alloc] at z1 z2
 replace b1:=(b1.alloc (.cells #[.int .i64 1,.int .i64 1] 117)).alloc (.cells #[.int .i64 1,.int .i64 1] 117)
 replace hX:=(hX.alloc (.cells #[.int .i64 1,.int .i64 1] 117)).alloc (.cells #[.int .i64 1,.int .i64 1] 117)
 clear c_b1
 have hl3:=fun w=>levels_p 3 (by decide) w
 have hl6:=fun w=>levels_p 6 (by decide) w
 go_wp2_with fail
 generalize World.alloc (World.alloc w2 _) _=W at *
 have c_1:=z1.cells
 have c_2:=z2.cells
 go_quiet (fail)
 have c_b1:=(b1.ext ((Ext.refl W).drewN nq)).cells
 have hf:=Lib.hid (hX.drewN nq)
 clear c_1 c_2 z1 z2
 go_wp2_with fail
 refine (hl3 _).mono ?_
 rintro e w' ⟨rfl,rfl⟩
 go_wp2_with fail
 refine (hl6 _).mono ?_
 rintro e w' ⟨rfl,rfl⟩
 go_wp2_with fail
 first | go_ret2 | go_ret
 exact⟨rfl,hf.out⟩
theorem oneal1 (B p:Nat)(S:TS)(bk:Nat)(w:World)(h:Plays B w p S)(hta:TameA S)(hD:S.left<9)(hn0:S.nts.length≤100000)
  (c1:∀ i,w.cell? ⟨bk,i,none⟩=(#[.int .i64 2,.int .i64 8,.int .i64 1,.int .i64 0,.int .i64 0,.int .i64 1]:Array Value)[i]?) :
  Calls Tryz.prog 102 #[.pointer (some ⟨p,0,none⟩),.pointer (some ⟨bk,0,none⟩)] w (Post encI B p w ((oneA 9 0 8 0).run S)):=by
 have hk:LkOk 2 8 1 0 0 1 []:=⟨by decide,by decide,by decide,by decide,by decide,by decide,fun h=>absurd h (by decide),by decide,by decide⟩
 have hq:Calls Tryz.prog 26 #[.pointer (some ⟨p,0,none⟩),.agg #[.int .i64 2,.int .i64 8,.int .i64 1,.int .i64 0,.int .i64 0,.int .i64 1],.int .i64 0] w (Post encI B p w ((oneA 9 0 8 0).run S)) :=
  lkacq_p B p 8 9 S 2 1 0 0 1 0 [] w h hk (by decide) (by decide) hta hD hn0
 generalize hR:Post encI B p w ((oneA 9 0 8 0).run S)=R
 have hO:Owes R encI B p w ((oneA 9 0 8 0).run S):=hR▸owes _ _ _ _ _
 clear hR
 have hK:=Keep.refl [2,3,4] B p w
 go_enter Tryz.func102,Tryz.ntmps102
 go_wp2_with fail
 clear c1
 refine tlast hO hK hq (fun _ h=>⟨rfl,h⟩) ?_
 intro v S1 w1 hr hP1 hk1 hK1 hO1
 have hf:=hO1.done hP1 hK1
 clear hO1 hP1 hK1 hr hk1 hO h hK hq hk
 go_wp2_with fail
 first | exact hf | (go_ret;exact hf)
@[go_sem] theorem build_lock6 (a b c d:Int) (w:World):(Instr.build 23 #[(0,.int .i64 a),(1,.int .i64 b),(2,.int .i64 c),(5,.int .i64 d)]).run Tryz.prog w=.ok (.agg #[.int .i64 a,.int .i64 b,.int .i64 c,.int .i64 0,.int .i64 0,.int .i64 d]) w:=run_build w 23 _ _ (by kernel_rfl)
@[go_sem] theorem build_lock0 (w:World):(Instr.build 23 #[]).run Tryz.prog w=.ok (.agg #[.int .i64 0,.int .i64 0,.int .i64 0,.int .i64 0,.int .i64 0,.int .i64 0]) w:=run_build w 23 _ _ (by kernel_rfl)
set_option maxRecDepth 100000 in
set_option maxHeartbeats 1000000 in
theorem alive34 (w:World):Calls Tryz.prog 22 #[] w fun e w'=>e=.returned (.bool true)∧Ext w w':=by
 have hmf:∀ (fn:Fn) (first cap:Array Value) (w:World),(Instr.makeFunc fn first cap).run Tryz.prog w=.ok (.func fn first cap) w:=fun _ _ _ _=>rfl
 have hmk:∀ w,(Instr.makeSlice 25 (.int .i64 8) (.int .i64 8)).run Tryz.prog w=.ok (.slice (some ⟨w.heap.size,0,none⟩) 8 8) (w.alloc (.cells ((zeros 8).map (Value.int .i64)).toArray 3)):=fun w=>make_ints 8 8 rfl (by decide) w
 go_enter Tryz.func22,Tryz.ntmps22
 go_wp2_with fail
 have b1:=Blk.new w (.cells #[.int .i64 1,.int .i64 3,.int .i64 1,.int .i64 0,.int .i64 0,.int .i64 9] 23)
 have b2:=Blk.new (w.alloc (.cells #[.int .i64 1,.int .i64 3,.int .i64 1,.int .i64 0,.int .i64 0,.int .i64 9] 23)) (.cells #[.int .i64 2,.int .i64 8,.int .i64 1,.int .i64 0,.int .i64 0,.int .i64 1] 23)
 replace b1:=b1.alloc (.cells #[.int .i64 2,.int .i64 8,.int .i64 1,.int .i64 0,.int .i64 0,.int .i64 1] 23)
 have hX:=((Ext.refl w).alloc (.cells #[.int .i64 1,.int .i64 3,.int .i64 1,.int .i64 0,.int .i64 0,.int .i64 9] 23)).alloc (.cells #[.int .i64 2,.int .i64 8,.int .i64 1,.int .i64 0,.int .i64 0,.int .i64 1] 23)
 have hA:=ints_new ((w.alloc (.cells #[.int .i64 1,.int .i64 3,.int .i64 1,.int .i64 0,.int .i64 0,.int .i64 9] 23)).alloc (.cells #[.int .i64 2,.int .i64 8,.int .i64 1,.int .i64 0,.int .i64 0,.int .i64 1] 23)) (zeros 8) (by simp [zeros])
 simp only [World.size_alloc,show (zeros 8).length=8 from by simp [zeros]] at b1 b2 hX hA
 replace b1:=b1.alloc (.cells ((zeros 8).map (Value.int .i64)).toArray 3)
 replace b2:=b2.alloc (.cells ((zeros 8).map (Value.int .i64)).toArray 3)
 replace hX:=hX.alloc (.cells ((zeros 8).map (Value.int .i64)).toArray 3)
 have hsz:w.heap.size+1+1<(World.alloc (World.alloc (World.alloc w (.cells #[.int .i64 1,.int .i64 3,.int .i64 1,.int .i64 0,.int .i64 0,.int .i64 9] 23)) (.cells #[.int .i64 2,.int .i64 8,.int .i64 1,.int .i64 0,.int .i64 0,.int .i64 1] 23)) (.cells ((zeros 8).map (Value.int .i64)).toArray 3)).heap.size:=by simp
 generalize World.alloc (World.alloc (World.alloc w _) _) _=V1 at *
 have hPl:=play_err 102 #[.pointer (some ⟨w.heap.size+1,0,none⟩)] (oneA 9 0 8 0) none 0 [] (some ⟨w.heap.size+1+1,0,none⟩) 8 (zeros 8) V1 (Ints.nil _) (by simp) hA (by simp [zeros,maxAns]) (fun k hk=>by simp only [Value.ownBlock,Option.some.injEq] at hk;omega) (fun _ _=>rfl) (fun W p hxW hP=>oneal1 _ p _ (w.heap.size+1) W hP (fun v hv=>by
  obtain rfl:=List.eq_of_mem_replicate (show v∈List.replicate 8 (0:Int) from hv)
  omega) (show (zeros 8).length-0<9 by simp [zeros]) (show 0≤100000 by decide) (b2.ext hxW).cells)
 have e1:((oneA 9 0 8 0).run (TS0 [] (zeros 8))).1=some 0:=by decide +kernel
 rw [e1,show (zeros 8).length=8 from by simp [zeros]] at hPl
 generalize ((oneA 9 0 8 0).run (TS0 [] (zeros 8))).2=S1 at *
 simp only [Option.getD_some,Option.isSome_some] at hPl
 refine hPl.mono ?_
 clear hPl e1
 rintro e y1 ⟨v1,rfl,hO,hx1⟩
 obtain⟨A1,c1,A1',c1',vs1,L1,rfl,hO⟩:=hO
 obtain⟨As1,k1,hvs1,_,_⟩:=hO.locs.slice
 subst hvs1
 unfold outV
 replace hX:=(hX.trans hx1).alloc (.cells #[.bool true,.slice A1 S1.acc.length c1,.slice A1' S1.nts.length c1',.slice As1 (shortL L1).length k1] 30)
 replace b1:=(b1.ext hx1).alloc (.cells #[.bool true,.slice A1 S1.acc.length c1,.slice A1' S1.nts.length c1',.slice As1 (shortL L1).length k1] 30)
 replace b2:=(b2.ext hx1).alloc (.cells #[.bool true,.slice A1 S1.acc.length c1,.slice A1' S1.nts.length c1',.slice As1 (shortL L1).length k1] 30)
 have n1:=Blk.new y1 (.cells #[.bool true,.slice A1 S1.acc.length c1,.slice A1' S1.nts.length c1',.slice As1 (shortL L1).length k1] 30)
 clear hO hx1 hA hsz
 generalize hbk:w.heap.size=bk at *
 have c_b1:=b1.cells
 go_wp2_with fail
 generalize World.alloc y1 _=V2 at *
 refine (aloneA_p _).mono ?_
 rintro e w3 ⟨rfl,hx⟩
 replace b1:=b1.ext hx
 replace b2:=b2.ext hx
 replace n1:=n1.ext hx
 replace hX:=hX.trans hx
 clear hx
 try clear c_b1
 try clear c_b2 c_n1
 have c_b1:=b1.cells
 have c_b2:=b2.cells
 have c_n1:=n1.cells
 go_wp2_with fail
 refine (fineA_p _).mono ?_
 rintro e w3 ⟨rfl,hx⟩
 replace b1:=b1.ext hx
 replace b2:=b2.ext hx
 replace n1:=n1.ext hx
 replace hX:=hX.trans hx
 clear hx
 try clear c_b1
 try clear c_b2 c_n1
 have c_b1:=b1.cells
 have c_b2:=b2.cells
 have c_n1:=n1.cells
 go_wp2_with fail
 refine (cellsA_p _).mono ?_
 rintro e w3 ⟨rfl,hx⟩
 replace b1:=b1.ext hx
 replace b2:=b2.ext hx
 replace n1:=n1.ext hx
 replace hX:=hX.trans hx
 clear hx
 try clear c_b1
 try clear c_b2 c_n1
 have c_b1:=b1.cells
 have c_b2:=b2.cells
 have c_n1:=n1.cells
 go_wp2_with fail
 refine (cellsB_p _).mono ?_
 rintro e w3 ⟨rfl,hx⟩
 replace b1:=b1.ext hx
 replace b2:=b2.ext hx
 replace n1:=n1.ext hx
 replace hX:=hX.trans hx
 clear hx
 try clear c_b1
 try clear c_b2 c_n1
 have c_b1:=b1.cells
 have c_b2:=b2.cells
 have c_n1:=n1.cells
 go_wp2_with fail
 refine (localsA_p _).mono ?_
 rintro e w3 ⟨rfl,hx⟩
 replace b1:=b1.ext hx
 replace b2:=b2.ext hx
 replace n1:=n1.ext hx
 replace hX:=hX.trans hx
 clear hx
 try clear c_b1
 try clear c_b2 c_n1
 have c_b1:=b1.cells
 have c_b2:=b2.cells
 have c_n1:=n1.cells
 go_wp2_with fail
 refine (fine0_p _).mono ?_
 rintro e w3 ⟨rfl,hx⟩
 replace b1:=b1.ext hx
 replace b2:=b2.ext hx
 replace n1:=n1.ext hx
 replace hX:=hX.trans hx
 clear hx
 try clear c_b1
 try clear c_b2 c_n1
 have c_b1:=b1.cells
 have c_b2:=b2.cells
 have c_n1:=n1.cells
 go_wp2_with fail
 refine (word8_p _).mono ?_
 rintro e w3 ⟨rfl,hx⟩
 replace b1:=b1.ext hx
 replace b2:=b2.ext hx
 replace n1:=n1.ext hx
 replace hX:=hX.trans hx
 clear hx
 try clear c_b1
 try clear c_b2 c_n1
 have c_b1:=b1.cells
 have c_b2:=b2.cells
 have c_n1:=n1.cells
 go_wp2_with fail
 refine (algfast_p _).mono ?_
 rintro e w3 ⟨rfl,hx⟩
 replace b1:=b1.ext hx
 replace b2:=b2.ext hx
 replace n1:=n1.ext hx
 replace hX:=hX.trans hx
 clear hx
 try clear c_b1
 try clear c_b2 c_n1
 have c_b1:=b1.cells
 have c_b2:=b2.cells
 have c_n1:=n1.cells
 go_wp2_with fail
 refine (algnone_p _).mono ?_
 rintro e w3 ⟨rfl,hx⟩
 have hf:=Lib.hid (hX.trans hx)
 clear hx hX b1 b2 n1 c_b1 c_b2 c_n1
 go_wp2_with fail
 go_ret
 exact⟨rfl,hf.out⟩
end Go.Proofs.YtbaajjkopdjbgaaGreat
