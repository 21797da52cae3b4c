/-
  RwPlaysSaid: part 10 of its proof.
-/
import Derived.Test.YtbaajjkopdjbgaaGreatJRwPlaysSaid9
import Derived.BigQuiet
import Derived.Deep.QuietTactic
import Derived.Deep.CutBlock
import Derived.Deep.DeepCutAuto
import Derived.Laws.Rows
import Derived.Laws.Cells
import Derived.Deep.WholeRow
import Derived.ProofKit
open Go.Value renaming int -> V
open Go.IntKind renaming i64 -> Z
namespace Go.Proofs.YtbaajjkopdjbgaaGreat
open Go.RowKit Kv
theorem onethr_p (alg N mode base loc room:Int)(w:World)(h1:1<=N/\N<=8) :
  Calls Tryz.prog 373 #[.agg #[V Z alg,V Z N,V Z mode,V Z base,V Z loc,V Z room]] w fun e w'=>e=.returned (V Z N)/\Ext w w':=by
 have e1:min (max N 1) 8=N:=by omega
 have hX:=Ext.refl w
 have b1:=Blk.new w (.cells #[V Z alg,V Z N,V Z mode,V Z base,V Z loc,V Z room] 23)
 replace hX:=hX.alloc (.cells #[V Z alg,V Z N,V Z mode,V Z base,V Z loc,V Z room] 23)
 have c_b1:=b1.cells
 go_enter Tryz.func373,Tryz.ntmps373
 go_wp2_with fail
 first | go_ret2 | go_ret
 exact⟨rfl,hX⟩
set_option maxRecDepth 100000 in
set_option maxHeartbeats 4000000 in
theorem oneacq_p (B p N D:Nat)(S:TS)(alg mode base loc room:Int)(m:Nat)(w:World)(h:Plays B w p S)(h1:1<=N)(h2:N<=8)(hm1:m<N)(hba:0<=base/\base<=32768)
  (hD:S.left<D)(hn0:S.nts.length<=100000) :
  Calls Tryz.prog 370 #[.pointer (some ⟨p,0,none⟩),.agg #[V Z alg,V Z N,V Z mode,V Z base,V Z loc,V Z room],V Z m] w (Post encI B p w ((oneA D base N m).run S)):=by
 generalize hR:Post encI B p w ((oneA D base N m).run S)=R
 have hO:Owes R encI B p w ((oneA D base N m).run S):=hR▸owes _ _ _ _ _
 clear hR
 obtain⟨b1,hK,hP⟩:=h.entry (.cells #[V Z alg,V Z N,V Z mode,V Z base,V Z loc,V Z room] 23)
 have c_b1:=b1.cells;clear h;unfold oneA at hO
 have hth:=fun w=>onethr_p alg N mode base loc room w (by omega)
 have hw2:=IntWalk.i64_in (base+(m:Int)) (by omega)
 have hOh:=Hd hO;clear hO
 go_enter Tryz.func370,Tryz.ntmps370
 obtain⟨F,hF⟩:∃ F:Unit->Prog Int,F=fun _=>(nt 2).bind fun _=>(forP (fun j _=>zeroC (base+j) D) (ranksFrom (-1) (N-1-m) ((m:Int)+1)) ()).bind fun _=>(nt 3).bind fun _=>.ret 0:=⟨_,rfl⟩
 have hFh:=Hd hF
 have hOh2:Hid (Owes R encI B p w (((nt 1).bind fun _=>(wr (base+m) 1).bind fun _=>(oneUp D base m D 0).bind F).run S)):=by rw [hF];exact hOh
 clear hF hOh;have hOh:=hOh2;clear hOh2;go_wp2_with fail
 generalize w.heap.size=z at *
 obtain⟨J0,hJ0⟩:∃ J0:World->Prop,∀ wr',J0 wr'↔∃ (k:Nat) (S2:TS),Plays B wr' p S2/\KeepP B p w wr'/\HeldP wr' p z (.cells #[V Z alg,V Z N,V Z mode,V Z base,V Z loc,V Z room] 23)/\S2.left<D/\S2.nts.length<=100001/\S2.left<k/\Hid (Owes R encI B p w (((wr (base+m) 1).bind fun _=>(oneUp D base m k 0).bind F).run S2)):=⟨_,fun _=>Iff.rfl⟩
 refine wp_scope_fall (fun l a wr=>a.defers=[]/\a.tmps.size=68/\a.tmps[0]?=some (.pointer (some ⟨p,0,none⟩))/\a.tmps[2]?=some (V Z m)/\a.tmps[4]?=some (.pointer (some ⟨z,0,none⟩))/\a.tmps[7]?=some (V Z N)/\l=0/\J0 wr) (fun _ _ wr=>leftW 1 3 wr p) ?pass ?first
 case first =>
  intro hfall
  refine (fun (hfall:Hid _)=>?_) (Hd hfall)
  go_wp2_with fail
  refine (hth _).mono ?_
  rintro e w1 ⟨rfl,hx⟩
  replace hK:=hK.trans (Keep.of_ext hx hP.lt hP.le);replace b1:=b1.ext hx hP.lt;replace hP:=hP.ext hx;clear hx c_b1 hth;go_wp2_with fail
  refine tstepA (notes_nt 1) hOh.out hK (noteO hP (by unfold maxAns;omega)) (fun _ h=>⟨rfl,h⟩) ?_
  clear hOh hK hP;intro u S1 wn hrun hlf hla hnn hP hk hK hO;replace hD:=Nat.lt_of_le_of_lt hlf hD
  replace hn0:S1.nts.length<=100001:=by omega
  replace b1:=b1.keep hk;clear hk hnn hrun;clear hla hlf;have hOh:=Hd hO;clear hO;go_wp2_with fail
  try refine wp_label ?_
  rename_i hKK
  replace hKK:=Hd hKK
  refine hKK.out _ _ ?_
  exact hfall.out 0 _ _ _ rfl ⟨rfl,rfl,rfl,rfl,rfl,rfl,rfl,(hJ0 _).2 ⟨D,S1,hP,hK,b1,hD,hn0,hD,hOh⟩⟩
 case pass =>
  clear hP hK b1 hOh hD hn0 c_b1 hth
  rintro l a wq ⟨ha,hs,f0,f2,f4,f7,rfl,hrel⟩
  try dsimp only
  refine fr_act 68 (fun a'=>a'.tmps[0]?=some (.pointer (some ⟨p,0,none⟩))->a'.tmps[2]?=some (V Z m)->a'.tmps[4]?=some (.pointer (some ⟨z,0,none⟩))->a'.tmps[7]?=some (V Z N)->∃ rest,findLabel _ 0=some (.seq .skip rest)/\rest.wp _ _ a' wq) ?_ a ha hs f0 f2 f4 f7
  clear f0 f2 f4 f7;clear ha hs a
  dsimp only [Fr]
  intro u0 u1 u2 u3 u4 u5 u6 u7 u8 u9 u10 u11 u12 u13 u14 u15 u16 u17 u18 u19 u20 u21 u22 u23 u24 u25 u26 u27 u28 u29 u30 u31 u32 u33 u34 u35 u36 u37 u38 u39 u40 u41 u42 u43 u44 u45 u46 u47 u48 u49 u50 u51 u52 u53 u54 u55 u56 u57 u58 u59 u60 u61 u62 u63 u64 u65 u66 u67 f0 f2 f4 f7
  obtain rfl:=Option.some.inj f0
  obtain rfl:=Option.some.inj f2
  obtain rfl:=Option.some.inj f4
  obtain rfl:=Option.some.inj f7
  clear f0 f2 f4 f7;rw [hJ0] at hrel
  obtain⟨k,S2,hP,hK,b1,hD,hn0,hkk,hOh⟩:=hrel
  refine⟨_,rfl,?_⟩
  have hlw:=Hd hP.left
  have hmin:min (m:Int) (N:Int)=(m:Int):=by omega
  have hmax:max (m:Int) (-1)=(m:Int):=by omega
  have hw3:=IntWalk.i64_in ((m:Int)+1) (by omega)
  have c_b1:=b1.cells;go_wp2_with fail
  clear c_b1
  refine tstepA (notes_wr _ _) hOh.out hK (write_p B p S2 _ _ _ hP) (fun _ h=>⟨rfl,h⟩) ?_
  clear hOh hK hP;intro u S3 wn hrun hlf hla hnn hP hk hK hO
  have hlt3:=hla (asks_wr _ _)
  replace hD:=Nat.lt_of_le_of_lt hlf hD
  replace hn0:S3.nts.length<=100001:=by omega
  replace b1:=b1.keep hk;clear hk hnn hrun
  have hk3:S3.left<k:=by omega
  clear hkk hla hlf;have hOh:=Hd hO;clear hO;go_wp2_with fail
  go_loopw [23] (fun i wr'=>∃ (j k:Nat) (S5:TS),i=V Z j/\j<=m/\Plays B wr' p S5/\KeepP B p w wr'/\HeldP wr' p z (.cells #[V Z alg,V Z N,V Z mode,V Z base,V Z loc,V Z room] 23)/\S5.left<D/\S5.nts.length<=100001/\S5.left<k/\S5.left<S2.left/\Hid (Owes R encI B p w (((oneUp D base m k j).bind F).run S5))) (fun i _=>m-(intOf i).toNat)
  case atStart=>exact⟨0,k,S3,rfl,by omega,hP,hK,b1,hD,hn0,hk3,hlt3,hOh⟩
  case round =>
   clear hP hK b1 hD hn0 hOh hk3 hlt3
   obtain⟨j,k,S5,rfl,hj,hP,hK,b1,hD,hn0,hk5,hlt5,hOh⟩:=hrel
   by_cases hjm:j<m
   · have dj:decide ((j:Int)<(m:Int))=true:=by rw [decide_eq_true_eq];omega
     have hw4:=IntWalk.i64_in (base+(j:Int)) (by omega)
     cases k with
     | zero=>omega
     | succ k =>
       replace hO:=hOh.out;rw [oneUp_lt D base m k j hjm] at hO;clear hOh;have hOh:=Hd hO;clear hO;have c_b1:=b1.cells;go_wp2_with fail
       clear c_b1
       refine tstepA (notes_rd _) hOh.out hK (read_p B p S5 _ _ hP) (fun _ h=>⟨rfl,h⟩) ?_
       clear hOh hK hP;intro x S6 wn hrun hlf hla hnn hP hk hK hO
       have hlt6:=hla (asks_rd _)
       replace hD:=Nat.lt_of_le_of_lt hlf hD
       replace hn0:S6.nts.length<=100001:=by omega
       replace b1:=b1.keep hk;clear hk hnn hrun;clear hla hlf
       by_cases hx:x=0
       · have dx:(x==0)=true:=by simpa using hx
         rw [if_pos hx] at hO;have hOh:=Hd hO;clear hO hx;go_wp2_with fail
         refine⟨⟨j+1,k,S6,by go_num,by omega,hP,hK,b1,hD,hn0,by omega,by omega,hOh⟩,?_⟩
         simp [intOf];omega
       · have dx:(x==0)=false:=by simpa using hx
         rw [if_neg hx] at hO;have hOh:=Hd hO;clear hO hx;have c_b1:=b1.cells;go_wp2_with fail
         clear c_b1
         refine tstepA (notes_wr _ _) hOh.out hK (write_p B p S6 _ _ _ hP) (fun _ h=>⟨rfl,h⟩) ?_
         clear hOh hK hP;intro u S7 wn hrun hlf hla hnn hP hk hK hO
         have hlt7:=hla (asks_wr _ _)
         replace hD:=Nat.lt_of_le_of_lt hlf hD
         replace hn0:S7.nts.length<=100001:=by omega
         replace b1:=b1.keep hk;clear hk hnn hrun;clear hla hlf;have hOh:=Hd hO;clear hO
         have hk7:S7.left<k:=by omega
         have hs7:S7.left<S2.left:=by omega
         clear hlt7 hlt6 hlt5 hk5;go_wp2_with fail
         go_loopw [] (fun wr'=>∃ (n:Nat) (S8:TS),Plays B wr' p S8/\KeepP B p w wr'/\HeldP wr' p z (.cells #[V Z alg,V Z N,V Z mode,V Z base,V Z loc,V Z room] 23)/\S8.left<D/\S8.nts.length<=100001/\S8.left<k/\S8.left<S2.left/\S8.left<n/\Hid (Owes R encI B p w (((zeroC (base+j) n).bind fun _=>(Kv.wr (base+m) 1).bind fun _=>(oneUp D base m k 0).bind F).run S8))) (fun wr'=>leftW 1 3 wr' p)
         case atStart=>exact⟨D,S7,hP,hK,b1,hD,hn0,hk7,hs7,hD,hOh⟩
         case round =>
          clear hP hK b1 hD hn0 hOh hk7 hs7
          obtain⟨n,S8,hP,hK,b1,hD,hn0,hk8,hs8,hn8,hOh⟩:=hrel
          cases n with
          | zero=>omega
          | succ n =>
            replace hO:=hOh.out;rw [zeroC_bind] at hO;clear hOh;have hOh:=Hd hO;clear hO
            have hlw8:=Hd hP.left
            have c_b1:=b1.cells;go_wp2_with fail
            clear c_b1
            refine tstepA (notes_rd _) hOh.out hK (read_p B p S8 _ _ hP) (fun _ h=>⟨rfl,h⟩) ?_
            clear hOh hK hP;intro x S9 wn hrun hlf hla hnn hP hk hK hO
            have hlt9:=hla (asks_rd _)
            replace hD:=Nat.lt_of_le_of_lt hlf hD
            replace hn0:S9.nts.length<=100001:=by omega
            replace b1:=b1.keep hk;clear hk hnn hrun;clear hla hlf
            have hlw9:=Hd hP.left
            by_cases hx:x=0
            · have dx:(x != 0)=false:=by simpa using hx
              rw [if_pos hx] at hO;have hOh:=Hd hO;clear hO hx;go_wp2_with fail
              first | refine wp_goto ?_ | skip
              refine And.intro ⟨rfl,rfl,rfl,rfl,rfl,rfl,rfl,(hJ0 _).2 ⟨k,S9,hP,hK,b1,hD,hn0,by omega,hOh⟩⟩ ?_
              rw [hlw.out,hlw9.out]
              omega
            · have dx:(x != 0)=true:=by simpa using hx
              rw [if_neg hx] at hO;have hOh:=Hd hO;clear hO hx;go_wp2_with fail
              refine⟨⟨n,S9,hP,hK,b1,hD,hn0,by omega,by omega,by omega,hOh⟩,?_⟩
              rw [hlw8.out,hlw9.out]
              omega
   · obtain rfl:m=j:=by omega
     have dj:decide ((m:Int)<(m:Int))=false:=by simp
     replace hO:=hOh.out;rw [oneUp_ge D base m k,hFh.out] at hO;clear hOh hlt5 hk5;have hOh:=Hd hO;clear hO;go_wp2_with fail
     refine tstepA (notes_nt 2) hOh.out hK (noteO hP (by unfold maxAns;omega)) (fun _ h=>⟨rfl,h⟩) ?_
     clear hOh hK hP;intro u S6 wn hrun hlf hla hnn hP hk hK hO;replace hD:=Nat.lt_of_le_of_lt hlf hD
     replace hn0:S6.nts.length<=100002:=by omega
     replace b1:=b1.keep hk;clear hk hnn hrun;clear hla hlf
     obtain⟨G,hG⟩:∃ G:Unit->Prog Int,G=fun _=>(nt 3).bind fun _=>.ret 0:=⟨_,rfl⟩
     rw [<- hG] at hO
     have hOh:=Hd hO
     have hGh:=Hd hG
     clear hO hG
     have hl0:Hid (∀ L:Nat,L=N-1-m->m+1+L=N):=Hd (fun L h=>by omega)
     obtain⟨L,hL⟩:∃ L,L=N-1-m:=⟨_,rfl⟩
     have hLN:=hl0.out L hL
     rw [<- hL] at hOh
     clear hl0 hL
     have hLh:=Hd hLN
     clear hLN;go_wp2_with fail
     go_loopw [9] (fun i wr'=>∃ (q:Nat) (S7:TS),i=V Z ((m:Int)+1+q)/\q<=L/\Plays B wr' p S7/\KeepP B p w wr'/\HeldP wr' p z (.cells #[V Z alg,V Z N,V Z mode,V Z base,V Z loc,V Z room] 23)/\S7.left<D/\S7.nts.length<=100002/\Hid (Owes R encI B p w (((forP (fun j _=>zeroC (base+j) D) (ranksFrom (-1) (L-q) ((m:Int)+1+q)) ()).bind G).run S7))) (fun i _=>N-(intOf i).toNat)
     case atStart=>exact⟨0,S6,by simp,by omega,hP,hK,b1,hD,hn0,by simpa using hOh⟩
     case round =>
      clear hP hK b1 hD hn0 hOh
      obtain⟨q,S7,rfl,hq,hP,hK,b1,hD,hn0,hOh⟩:=hrel
      by_cases hqL:q<L
      · have dq:decide ((m:Int)+1+(q:Int)<(N:Int))=true:=by rw [decide_eq_true_eq];have:=hLh.out;omega
        have hw5:=IntWalk.i64_in (base+((m:Int)+1+(q:Int))) (by have:=hLh.out;omega)
        have hw6:=IntWalk.i64_in ((m:Int)+1+(q:Int)+1) (by have:=hLh.out;omega)
        obtain⟨g,hg⟩:∃ g,L-q=g+1:=⟨L-q-1,by omega⟩
        replace hO:=hOh.out
        rw [hg,ranks_cons _ _ _ (by omega),forP_consB,show g=L-(q+1) from by omega] at hO
        obtain⟨H,hH⟩:∃ H:Unit->Prog Int,H=fun _=>(forP (fun j _=>zeroC (base+j) D) (ranksFrom (-1) (L-(q+1)) ((m:Int)+1+q+1)) ()).bind G:=⟨_,rfl⟩
        rw [<- hH] at hO
        have hHh:=Hd hH
        have hOh2:=Hd hO
        clear hO hOh hg hH;go_wp2_with fail
        go_loopw [] (fun wr'=>∃ (n:Nat) (S8:TS),Plays B wr' p S8/\KeepP B p w wr'/\HeldP wr' p z (.cells #[V Z alg,V Z N,V Z mode,V Z base,V Z loc,V Z room] 23)/\S8.left<D/\S8.nts.length<=100002/\S8.left<n/\Hid (Owes R encI B p w (((zeroC (base+((m:Int)+1+q)) n).bind H).run S8))) (fun wr'=>leftW 1 3 wr' p)
        case atStart=>exact⟨D,S7,hP,hK,b1,hD,hn0,hD,hOh2⟩
        case round =>
         clear hP hK b1 hD hn0 hOh2
         obtain⟨n,S8,hP,hK,b1,hD,hn0,hn8,hOh⟩:=hrel
         cases n with
         | zero=>omega
         | succ n =>
           replace hO:=hOh.out;rw [zeroC_bind] at hO;clear hOh;have hOh:=Hd hO;clear hO
           have hlw8:=Hd hP.left
           have c_b1:=b1.cells;go_wp2_with fail
           clear c_b1
           refine tstepA (notes_rd _) hOh.out hK (read_p B p S8 _ _ hP) (fun _ h=>⟨rfl,h⟩) ?_
           clear hOh hK hP;intro x S9 wn hrun hlf hla hnn hP hk hK hO
           have hlt9:=hla (asks_rd _)
           replace hD:=Nat.lt_of_le_of_lt hlf hD
           replace hn0:S9.nts.length<=100002:=by omega
           replace b1:=b1.keep hk;clear hk hnn hrun;clear hla hlf
           have hlw9:=Hd hP.left
           by_cases hx:x=0
           · have dx:(x != 0)=false:=by simpa using hx
             rw [if_pos hx,hHh.out] at hO;have hOh:=Hd hO;clear hO hx;go_wp2_with fail
             refine⟨⟨q+1,S9,by go_num,by omega,hP,hK,b1,hD,hn0,?_⟩,?_⟩
             · rw [show (m:Int)+1+((q+1:Nat):Int)=(m:Int)+1+q+1 from by omega]
               exact hOh
             · simp [intOf];have:=hLh.out;omega
           · have dx:(x != 0)=true:=by simpa using hx
             rw [if_neg hx] at hO;have hOh:=Hd hO;clear hO hx;go_wp2_with fail
             refine⟨⟨n,S9,hP,hK,b1,hD,hn0,by omega,hOh⟩,?_⟩
             rw [hlw8.out,hlw9.out]
             omega
      · obtain rfl:q=L:=by omega
        have dq:decide ((m:Int)+1+(q:Int)<(N:Int))=false:=by rw [decide_eq_false_iff_not];have:=hLh.out;omega
        replace hO:=hOh.out;rw [Nat.sub_self,ranks_zero,forP_nilB,hGh.out] at hO
        have hOh2:=Hd hO
        clear hO hOh;go_wp2_with fail
        refine tstepN (notes_nt 3) hOh2.out hK (noteO hP (by unfold maxAns;omega)) (fun _ h=>⟨rfl,h⟩) ?_
        clear hOh2 hK hP;intro u S9 w9 _ _ _ hP _ hK hO
        have hf:=hO.done (v:=(0:Int)) hP hK
        clear hO hP hK;go_wp2_with fail
        first | exact hf | (go_ret;exact hf)
theorem onerel_p (B p N:Nat)(S:TS)(alg mode base loc room:Int)(m:Nat)(w:World)(h:Plays B w p S)(h2:N<=8)(hm1:m<N)(hba:0<=base/\base<=32768)(hn0:S.nts.length<=100000) :
  Calls Tryz.prog 371 #[.pointer (some ⟨p,0,none⟩),.agg #[V Z alg,V Z N,V Z mode,V Z base,V Z loc,V Z room],V Z m] w (Post encU B p w ((oneR base m).run S)):=by
 generalize hR:Post encU B p w ((oneR base m).run S)=R
 have hO:Owes R encU B p w ((oneR base m).run S):=hR▸owes _ _ _ _ _
 clear hR
 obtain⟨b1,hK,hP⟩:=h.entry (.cells #[V Z alg,V Z N,V Z mode,V Z base,V Z loc,V Z room] 23)
 have c_b1:=b1.cells;clear h;unfold oneR at hO
 have hw2:=IntWalk.i64_in (base+(m:Int)) (by omega)
 have hOh:=Hd hO;clear hO
 go_enter Tryz.func371,Tryz.ntmps371
 go_wp2_with fail
 generalize w.heap.size=z at *
 refine tstepN (notes_nt 5) hOh.out hK (noteO hP (by unfold maxAns;omega)) (fun _ h=>⟨rfl,h⟩) ?_
 clear hOh hK hP;intro u S1 w2 _ _ _ hP hk hK hO;replace b1:=b1.keep hk;clear hk c_b1;have hOh:=Hd hO;clear hO;have c_b1:=b1.cells;go_wp2_with fail
 clear c_b1
 refine tlast hOh.out hK (write_p B p S1 _ _ _ hP) (fun _ h=>⟨rfl,h⟩) ?_
 clear hOh hK hP;intro u S3 w4 hr hP hk hK hO
 have hf:=hO.done hP hK
 clear hO hP hK hr hk b1;go_wp2_with fail
 first | exact hf | (refine bodyPost_ret (results_none rfl _ _ _) rfl ?_;exact hf)
set_option maxRecDepth 100000 in
theorem of1_p (w:World):Calls Tryz.prog 107 #[V Z 1] w fun e w'=>e=.returned (.iface 157 (.agg #[]))/\Ext w w':=by
 have hX:=(Ext.refl w).alloc (.cells #[V Z 1] 3)
 go_enter Tryz.func107,Tryz.ntmps107
 go_wp2_with fail
 go_ret
 exact⟨rfl,hX⟩
set_option maxRecDepth 100000 in
theorem of2_p (w:World):Calls Tryz.prog 107 #[V Z 2] w fun e w'=>e=.returned (.iface 158 (.agg #[]))/\Ext w w':=by
 have hX:=(Ext.refl w).alloc (.cells #[V Z 2] 3)
 go_enter Tryz.func107,Tryz.ntmps107
 go_wp2_with fail
 go_ret
 exact⟨rfl,hX⟩
set_option maxRecDepth 100000 in
theorem of3_p (w:World):Calls Tryz.prog 107 #[V Z 3] w fun e w'=>e=.returned (.iface 160 (.agg #[.func (.func 185) #[] #[],V Z 1,.func (.func 186) #[] #[],.func (.func 187) #[] #[]]))/\Ext w w':=by
 have hX:=(Ext.refl w).alloc (.cells #[V Z 3] 3)
 go_enter Tryz.func107,Tryz.ntmps107
 go_wp2_with fail
 go_ret
 exact⟨rfl,hX⟩
set_option maxRecDepth 100000 in
theorem of4_p (w:World):Calls Tryz.prog 107 #[V Z 4] w fun e w'=>e=.returned (.iface 160 (.agg #[.func (.func 188) #[] #[],V Z 0,.func (.func 189) #[] #[],.func (.func 190) #[] #[]]))/\Ext w w':=by
 have hX:=(Ext.refl w).alloc (.cells #[V Z 4] 3)
 go_enter Tryz.func107,Tryz.ntmps107
 go_wp2_with fail
 go_ret
 exact⟨rfl,hX⟩
set_option maxRecDepth 100000 in
theorem of5_p (w:World):Calls Tryz.prog 107 #[V Z 5] w fun e w'=>e=.returned (.iface 160 (.agg #[.func (.func 191) #[] #[],V Z 0,.func (.func 192) #[] #[],.func (.func 193) #[] #[]]))/\Ext w w':=by
 have hX:=(Ext.refl w).alloc (.cells #[V Z 5] 3)
 go_enter Tryz.func107,Tryz.ntmps107
 go_wp2_with fail
 go_ret
 exact⟨rfl,hX⟩
set_option maxRecDepth 100000 in
theorem of6_p (w:World):Calls Tryz.prog 107 #[V Z 6] w fun e w'=>∃ x:Nat,e=.returned (.iface 160 (.agg #[.func (.func 194) #[] #[.pointer (some ⟨x,0,none⟩)],V Z 0,.func (.func 195) #[] #[],.func (.func 196) #[] #[]]))/\Ext w w':=by
 have hX:=(Ext.refl w).alloc (.cells #[V Z 6] 3)
 go_enter Tryz.func107,Tryz.ntmps107
 go_wp2_with fail
 go_ret
 exact⟨_,rfl,hX⟩
set_option maxRecDepth 100000 in
theorem of7_p (w:World):Calls Tryz.prog 107 #[V Z 7] w fun e w'=>∃ x:Nat,e=.returned (.iface 160 (.agg #[.func (.func 194) #[] #[.pointer (some ⟨x,0,none⟩)],V Z 0,.func (.func 195) #[] #[],.func (.func 196) #[] #[]]))/\Ext w w':=by
 have hX:=(Ext.refl w).alloc (.cells #[V Z 7] 3)
 go_enter Tryz.func107,Tryz.ntmps107
 go_wp2_with fail
 go_ret
 exact⟨_,rfl,hX⟩
set_option maxRecDepth 100000 in
theorem of8_p (w:World):Calls Tryz.prog 107 #[V Z 8] w fun e w'=>e=.returned (.iface 160 (.agg #[.func (.func 98) #[] #[],V Z 1,.func (.func 15) #[] #[],.func (.func 19) #[] #[]]))/\Ext w w':=by
 have hX:=(Ext.refl w).alloc (.cells #[V Z 8] 3)
 go_enter Tryz.func107,Tryz.ntmps107
 go_wp2_with fail
 go_ret
 exact⟨rfl,hX⟩
theorem laidacq_p (F G W0:FuncId)(cp:Array Value)(mo:Int)(hcf:∀ (args:Array Value) (w:World),(callFunc F args).run Tryz.prog w=.ok (.enter F args) w)(B p:Nat)(S:TS)(alg mode base loc room:Int)(N m:Nat)(T:Prog Int)(w:World)(h:Plays B w p S)
  (hq:∀ W,Plays B W p S->Calls Tryz.prog F #[.pointer (some ⟨p,0,none⟩),.agg #[V Z alg,V Z N,V Z mode,V Z base,V Z loc,V Z room],V Z m] W (Post encI B p W (T.run S))) :
  Calls Tryz.prog 374 #[.agg #[.func (.func W0) #[] cp,V Z mo,.func (.func F) #[] #[],.func (.func G) #[] #[]],.pointer (some ⟨p,0,none⟩),.agg #[V Z alg,V Z N,V Z mode,V Z base,V Z loc,V Z room],V Z m] w (Post encI B p w (T.run S)):=by
 generalize hR:Post encI B p w ((T).run S)=R
 have hO:Owes R encI B p w ((T).run S):=hR▸owes _ _ _ _ _
 clear hR
 obtain⟨b1,b2,hK,hP⟩:=h.entry2 (.cells #[.func (.func W0) #[] cp,V Z mo,.func (.func F) #[] #[],.func (.func G) #[] #[]] 160) (.cells #[V Z alg,V Z N,V Z mode,V Z base,V Z loc,V Z room] 23)
 have c_b1:=b1.cells;have c_b2:=b2.cells;clear h
 go_enter Tryz.func374,Tryz.ntmps374
 go_wp2_with fail
 refine tlast hO hK (hq _ hP) (fun _ h=>⟨rfl,h⟩) ?_
 clear hO hK hP hq c_b1 c_b2;intro u S9 w9 hr9 hP hk9 hK hO
 have hf:=hO.done hP hK
 clear hO hP hK hr9 hk9;go_wp2_with fail
 first | exact hf | (refine bodyPost_ret (results_none rfl _ _ _) rfl ?_;exact hf) | (go_ret;exact hf)
theorem bakeriesacq_p (B p:Nat)(S:TS)(alg mode base loc room:Int)(N m:Nat)(T:Prog Int)(w:World)(h:Plays B w p S)
  (hq:∀ W,Plays B W p S->Calls Tryz.prog 360 #[.pointer (some ⟨p,0,none⟩),.agg #[V Z alg,V Z N,V Z mode,V Z base,V Z loc,V Z room],V Z m] W (Post encI B p W (T.run S))) :
  Calls Tryz.prog 356 #[.agg #[],.pointer (some ⟨p,0,none⟩),.agg #[V Z alg,V Z N,V Z mode,V Z base,V Z loc,V Z room],V Z m] w (Post encI B p w (T.run S)):=by
 generalize hR:Post encI B p w ((T).run S)=R
 have hO:Owes R encI B p w ((T).run S):=hR▸owes _ _ _ _ _
 clear hR
 obtain⟨b1,b2,hK,hP⟩:=h.entry2 (.cells #[] 157) (.cells #[V Z alg,V Z N,V Z mode,V Z base,V Z loc,V Z room] 23)
 have c_b1:=b1.cells;have c_b2:=b2.cells;clear h
 go_enter Tryz.func356,Tryz.ntmps356
 go_wp2_with fail
 refine tlast hO hK (hq _ hP) (fun _ h=>⟨rfl,h⟩) ?_
 clear hO hK hP hq c_b1 c_b2;intro u S9 w9 hr9 hP hk9 hK hO
 have hf:=hO.done hP hK
 clear hO hP hK hr9 hk9;go_wp2_with fail
 first | exact hf | (refine bodyPost_ret (results_none rfl _ _ _) rfl ?_;exact hf) | (go_ret;exact hf)
theorem bitsacq_p (B p:Nat)(S:TS)(alg mode base loc room:Int)(N m:Nat)(T:Prog Int)(w:World)(h:Plays B w p S)
  (hq:∀ W,Plays B W p S->Calls Tryz.prog 370 #[.pointer (some ⟨p,0,none⟩),.agg #[V Z alg,V Z N,V Z mode,V Z base,V Z loc,V Z room],V Z m] W (Post encI B p W (T.run S))) :
  Calls Tryz.prog 366 #[.agg #[],.pointer (some ⟨p,0,none⟩),.agg #[V Z alg,V Z N,V Z mode,V Z base,V Z loc,V Z room],V Z m] w (Post encI B p w (T.run S)):=by
 generalize hR:Post encI B p w ((T).run S)=R
 have hO:Owes R encI B p w ((T).run S):=hR▸owes _ _ _ _ _
 clear hR
 obtain⟨b1,b2,hK,hP⟩:=h.entry2 (.cells #[] 158) (.cells #[V Z alg,V Z N,V Z mode,V Z base,V Z loc,V Z room] 23)
 have c_b1:=b1.cells;have c_b2:=b2.cells;clear h
 go_enter Tryz.func366,Tryz.ntmps366
 go_wp2_with fail
 refine tlast hO hK (hq _ hP) (fun _ h=>⟨rfl,h⟩) ?_
 clear hO hK hP hq c_b1 c_b2;intro u S9 w9 hr9 hP hk9 hK hO
 have hf:=hO.done hP hK
 clear hO hP hK hr9 hk9;go_wp2_with fail
 first | exact hf | (refine bodyPost_ret (results_none rfl _ _ _) rfl ?_;exact hf) | (go_ret;exact hf)
set_option maxRecDepth 100000 in
theorem lkdacq_p (M:FuncId)(Y:TypeId)(hcf:∀ (args:Array Value) (w:World),(callFunc M args).run Tryz.prog w=.ok (.enter M args) w)(B p:Nat)(S:TS)(alg mode base loc room:Int)(N m:Nat)(T:Prog Int)(w:World)(h:Plays B w p S)
  (hof:∀ w,Calls Tryz.prog 107 #[V Z alg] w fun e w'=>∃ a,e=.returned (.iface Y (.agg a))/\Ext w w'/\(∀ w,(method 349 Y (.agg a) "kevel/lock.acquire").run Tryz.prog w=.ok (M,.agg a) w) /\
    (∀ W,Plays B W p S->Calls Tryz.prog M #[.agg a,.pointer (some ⟨p,0,none⟩),.agg #[V Z alg,V Z N,V Z mode,V Z base,V Z loc,V Z room],V Z m] W (Post encI B p W (T.run S)))) :
  Calls Tryz.prog 26 #[.pointer (some ⟨p,0,none⟩),.agg #[V Z alg,V Z N,V Z mode,V Z base,V Z loc,V Z room],V Z m] w (Post encI B p w (T.run S)):=by
 generalize hR:Post encI B p w ((T).run S)=R
 have hO:Owes R encI B p w ((T).run S):=hR▸owes _ _ _ _ _
 clear hR
 obtain⟨b1,hK,hP⟩:=h.entry (.cells #[V Z alg,V Z N,V Z mode,V Z base,V Z loc,V Z room] 23)
 have c_b1:=b1.cells;clear h
 go_enter Tryz.func26,Tryz.ntmps26
 go_wp2_with fail
 refine (hof _).mono ?_
 rintro e w1 ⟨a,rfl,hx,hmt,hq⟩
 replace hK:=hK.trans (Keep.of_ext hx hP.lt hP.le);replace b1:=b1.ext hx hP.lt;replace hP:=hP.ext hx;clear hx c_b1
 generalize w.heap.size=z at *
 have c_b1:=b1.cells;go_wp2_with fail
 refine tlast hO hK (hq _ hP) (fun _ h=>⟨rfl,h⟩) ?_
 clear hO hK hP hq c_b1;intro u S9 w9 hr9 hP hk9 hK hO
 have hf:=hO.done hP hK
 clear hO hP hK hr9 hk9;go_wp2_with fail
 first | exact hf | (refine bodyPost_ret (results_none rfl _ _ _) rfl ?_;exact hf) | (go_ret;exact hf)
theorem laidrel_p (F G W0:FuncId)(cp:Array Value)(mo:Int)(hcf:∀ (args:Array Value) (w:World),(callFunc F args).run Tryz.prog w=.ok (.enter F args) w)(B p:Nat)(S:TS)(alg mode base loc room:Int)(N m:Nat)(T:Prog Unit)(w:World)(h:Plays B w p S)
  (hq:∀ W,Plays B W p S->Calls Tryz.prog F #[.pointer (some ⟨p,0,none⟩),.agg #[V Z alg,V Z N,V Z mode,V Z base,V Z loc,V Z room],V Z m] W (Post encU B p W (T.run S))) :
  Calls Tryz.prog 375 #[.agg #[.func (.func W0) #[] cp,V Z mo,.func (.func G) #[] #[],.func (.func F) #[] #[]],.pointer (some ⟨p,0,none⟩),.agg #[V Z alg,V Z N,V Z mode,V Z base,V Z loc,V Z room],V Z m] w (Post encU B p w (T.run S)):=by
 generalize hR:Post encU B p w ((T).run S)=R
 have hO:Owes R encU B p w ((T).run S):=hR▸owes _ _ _ _ _
 clear hR
 obtain⟨b1,b2,hK,hP⟩:=h.entry2 (.cells #[.func (.func W0) #[] cp,V Z mo,.func (.func G) #[] #[],.func (.func F) #[] #[]] 160) (.cells #[V Z alg,V Z N,V Z mode,V Z base,V Z loc,V Z room] 23)
 have c_b1:=b1.cells;have c_b2:=b2.cells;clear h
 go_enter Tryz.func375,Tryz.ntmps375
 go_wp2_with fail
 refine tlast hO hK (hq _ hP) (fun _ h=>⟨rfl,h⟩) ?_
 clear hO hK hP hq c_b1 c_b2;intro u S9 w9 hr9 hP hk9 hK hO
 have hf:=hO.done (v:=()) hP hK
 clear hO hP hK hr9 hk9;go_wp2_with fail
 first | exact hf | (refine bodyPost_ret (results_none rfl _ _ _) rfl ?_;exact hf) | (go_ret;exact hf)
theorem bakeriesrel_p (B p:Nat)(S:TS)(alg mode base loc room:Int)(N m:Nat)(T:Prog Unit)(w:World)(h:Plays B w p S)
  (hq:∀ W,Plays B W p S->Calls Tryz.prog 361 #[.pointer (some ⟨p,0,none⟩),.agg #[V Z alg,V Z N,V Z mode,V Z base,V Z loc,V Z room],V Z m] W (Post encU B p W (T.run S))) :
  Calls Tryz.prog 357 #[.agg #[],.pointer (some ⟨p,0,none⟩),.agg #[V Z alg,V Z N,V Z mode,V Z base,V Z loc,V Z room],V Z m] w (Post encU B p w (T.run S)):=by
 generalize hR:Post encU B p w ((T).run S)=R
 have hO:Owes R encU B p w ((T).run S):=hR▸owes _ _ _ _ _
 clear hR
 obtain⟨b1,b2,hK,hP⟩:=h.entry2 (.cells #[] 157) (.cells #[V Z alg,V Z N,V Z mode,V Z base,V Z loc,V Z room] 23)
 have c_b1:=b1.cells;have c_b2:=b2.cells;clear h
 go_enter Tryz.func357,Tryz.ntmps357
 go_wp2_with fail
 refine tlast hO hK (hq _ hP) (fun _ h=>⟨rfl,h⟩) ?_
 clear hO hK hP hq c_b1 c_b2;intro u S9 w9 hr9 hP hk9 hK hO
 have hf:=hO.done (v:=()) hP hK
 clear hO hP hK hr9 hk9;go_wp2_with fail
 first | exact hf | (refine bodyPost_ret (results_none rfl _ _ _) rfl ?_;exact hf) | (go_ret;exact hf)
theorem bitsrel_p (B p:Nat)(S:TS)(alg mode base loc room:Int)(N m:Nat)(T:Prog Unit)(w:World)(h:Plays B w p S)
  (hq:∀ W,Plays B W p S->Calls Tryz.prog 371 #[.pointer (some ⟨p,0,none⟩),.agg #[V Z alg,V Z N,V Z mode,V Z base,V Z loc,V Z room],V Z m] W (Post encU B p W (T.run S))) :
  Calls Tryz.prog 367 #[.agg #[],.pointer (some ⟨p,0,none⟩),.agg #[V Z alg,V Z N,V Z mode,V Z base,V Z loc,V Z room],V Z m] w (Post encU B p w (T.run S)):=by
 generalize hR:Post encU B p w ((T).run S)=R
 have hO:Owes R encU B p w ((T).run S):=hR▸owes _ _ _ _ _
 clear hR
 obtain⟨b1,b2,hK,hP⟩:=h.entry2 (.cells #[] 158) (.cells #[V Z alg,V Z N,V Z mode,V Z base,V Z loc,V Z room] 23)
 have c_b1:=b1.cells;have c_b2:=b2.cells;clear h
 go_enter Tryz.func367,Tryz.ntmps367
 go_wp2_with fail
 refine tlast hO hK (hq _ hP) (fun _ h=>⟨rfl,h⟩) ?_
 clear hO hK hP hq c_b1 c_b2;intro u S9 w9 hr9 hP hk9 hK hO
 have hf:=hO.done (v:=()) hP hK
 clear hO hP hK hr9 hk9;go_wp2_with fail
 first | exact hf | (refine bodyPost_ret (results_none rfl _ _ _) rfl ?_;exact hf) | (go_ret;exact hf)
set_option maxRecDepth 100000 in
theorem lkdrel_p (M:FuncId)(Y:TypeId)(hcf:∀ (args:Array Value) (w:World),(callFunc M args).run Tryz.prog w=.ok (.enter M args) w)(B p:Nat)(S:TS)(alg mode base loc room:Int)(N m:Nat)(T:Prog Unit)(w:World)(h:Plays B w p S)
  (hof:∀ w,Calls Tryz.prog 107 #[V Z alg] w fun e w'=>∃ a,e=.returned (.iface Y (.agg a))/\Ext w w'/\(∀ w,(method 349 Y (.agg a) "kevel/lock.release").run Tryz.prog w=.ok (M,.agg a) w) /\
    (∀ W,Plays B W p S->Calls Tryz.prog M #[.agg a,.pointer (some ⟨p,0,none⟩),.agg #[V Z alg,V Z N,V Z mode,V Z base,V Z loc,V Z room],V Z m] W (Post encU B p W (T.run S)))) :
  Calls Tryz.prog 30 #[.pointer (some ⟨p,0,none⟩),.agg #[V Z alg,V Z N,V Z mode,V Z base,V Z loc,V Z room],V Z m] w (Post encU B p w (T.run S)):=by
 generalize hR:Post encU B p w ((T).run S)=R
 have hO:Owes R encU B p w ((T).run S):=hR▸owes _ _ _ _ _
 clear hR
 obtain⟨b1,hK,hP⟩:=h.entry (.cells #[V Z alg,V Z N,V Z mode,V Z base,V Z loc,V Z room] 23)
 have c_b1:=b1.cells;clear h
 go_enter Tryz.func30,Tryz.ntmps30
 go_wp2_with fail
 refine (hof _).mono ?_
 rintro e w1 ⟨a,rfl,hx,hmt,hq⟩
 replace hK:=hK.trans (Keep.of_ext hx hP.lt hP.le);replace b1:=b1.ext hx hP.lt;replace hP:=hP.ext hx;clear hx c_b1
 generalize w.heap.size=z at *
 have c_b1:=b1.cells;go_wp2_with fail
 refine tlast hO hK (hq _ hP) (fun _ h=>⟨rfl,h⟩) ?_
 clear hO hK hP hq c_b1;intro u S9 w9 hr9 hP hk9 hK hO
 have hf:=hO.done (v:=()) hP hK
 clear hO hP hK hr9 hk9;go_wp2_with fail
 first | exact hf | (refine bodyPost_ret (results_none rfl _ _ _) rfl ?_;exact hf) | (go_ret;exact hf)
theorem alg_cases {alg:Int}(h:1<=alg/\alg<=8):alg=1∨alg=2∨alg=3∨alg=4∨alg=5∨alg=6∨alg=7∨alg=8:=by omega
set_option maxRecDepth 100000 in
theorem lkacq_p (B p N D:Nat)(S:TS)(alg mode base loc room:Int)(m:Nat)(rs:List Reg)(w:World)(h:Plays B w p S)(hk:LkOk alg N mode base loc room rs)(hm:m<N)(hN:¬ (N=1/\mode=2))(hta:TameA S)(hD:S.left<D)(hn0:S.nts.length<=100000) :
  Calls Tryz.prog 26 #[.pointer (some ⟨p,0,none⟩),.agg #[V Z alg,V Z N,V Z mode,V Z base,V Z loc,V Z room],V Z m] w (Post encI B p w ((lkA D alg N base loc room rs m).run S)):=by
 rcases alg_cases hk.halg with rfl | rfl | rfl | rfl | rfl | rfl | rfl | rfl
 · exact lkdacq_p _ _ (fun _ _=>rfl) B p S 1 mode base loc room N m _ w h fun w=>(of1_p w).mono fun e w' h9=>by
    obtain⟨rfl,hx⟩:=h9
    exact⟨_,rfl,hx,fun _=>by kernel_rfl,fun W hP=>bakeriesacq_p B p S _ _ _ _ _ N m _ W hP fun W hP=>bakacq_p B p N D S 1 mode base loc room m W hP hk.hn.1 hk.hn.2 hm hk.hbase hk.hroom hta hD hn0⟩
 · exact lkdacq_p _ _ (fun _ _=>rfl) B p S 2 mode base loc room N m _ w h fun w=>(of2_p w).mono fun e w' h9=>by
    obtain⟨rfl,hx⟩:=h9
    exact⟨_,rfl,hx,fun _=>by kernel_rfl,fun W hP=>bitsacq_p B p S _ _ _ _ _ N m _ W hP fun W hP=>oneacq_p B p N D S 2 mode base loc room m W hP hk.hn.1 hk.hn.2 hm hk.hbase hD hn0⟩
 · have hl:layM (bwWants N) N mode base loc=some rs:=hk.hlay (by decide)
   exact lkdacq_p _ _ (fun _ _=>rfl) B p S 3 mode base loc room N m _ w h fun w=>(of3_p w).mono fun e w' h9=>by
    obtain⟨rfl,hx⟩:=h9
    exact⟨_,rfl,hx,fun _=>by kernel_rfl,fun W hP=>laidacq_p _ _ _ _ _ (fun _ _=>rfl) B p S _ _ _ _ _ N m _ W hP fun W hP=>bwacq_p B p N D S 3 mode base loc room m rs W hP hk.hn.1 hk.hn.2 hm hl hk.hloc (laid_all hl) (bw_told hl) hta hD hn0⟩
 · have hl:layM (filWants N) N mode base loc=some rs:=hk.hlay (by decide)
   exact lkdacq_p _ _ (fun _ _=>rfl) B p S 4 mode base loc room N m _ w h fun w=>(of4_p w).mono fun e w' h9=>by
    obtain⟨rfl,hx⟩:=h9
    exact⟨_,rfl,hx,fun _=>by kernel_rfl,fun W hP=>laidacq_p _ _ _ _ _ (fun _ _=>rfl) B p S _ _ _ _ _ N m _ W hP fun W hP=>filacq_p B p N D S 4 mode base loc room m rs W hP hP.le hk.hn.1 hk.hn.2 hm hl (laid_all hl) (fil_told hl) hD hn0⟩
 · have hl:layM (fastWants N) N mode base loc=some rs:=hk.hlay (by decide)
   obtain⟨Zq,z1,z2,z3⟩:=fast_hz (m:=m) (D:=D) hl hm
   exact lkdacq_p _ _ (fun _ _=>rfl) B p S 5 mode base loc room N m _ w h fun w=>(of5_p w).mono fun e w' h9=>by
    obtain⟨rfl,hx⟩:=h9
    exact⟨_,rfl,hx,fun _=>by kernel_rfl,fun W hP=>laidacq_p _ _ _ _ _ (fun _ _=>rfl) B p S _ _ _ _ _ N m _ W hP fun W hP=>fastacq_p B p N D S 5 mode base loc room m rs W hP hk.hn.1 hk.hn.2 hm hl (laid_all hl) (fast_told hl hN) hD hn0 Zq z1 z2 z3⟩
 · have hl:layM (treeWants (eachK 6) N) N mode base loc=some rs:=hk.hlay (by decide)
   exact lkdacq_p _ _ (fun _ _=>rfl) B p S 6 mode base loc room N m _ w h fun w=>(of6_p w).mono fun e w' h9=>by
    obtain⟨x,rfl,hx⟩:=h9
    exact⟨_,rfl,hx,fun _=>by kernel_rfl,fun W hP=>laidacq_p _ _ _ _ _ (fun _ _=>rfl) B p S _ _ _ _ _ N m _ W hP fun W hP=>treeacq_p B p N D S 6 mode base loc room m rs W hP hk.hn.1 (by have:=hk.hn.2;omega) hm hl (tree_all hl hm) hD hn0⟩
 · have hl:layM (treeWants (eachK 7) N) N mode base loc=some rs:=hk.hlay (by decide)
   exact lkdacq_p _ _ (fun _ _=>rfl) B p S 7 mode base loc room N m _ w h fun w=>(of7_p w).mono fun e w' h9=>by
    obtain⟨x,rfl,hx⟩:=h9
    exact⟨_,rfl,hx,fun _=>by kernel_rfl,fun W hP=>laidacq_p _ _ _ _ _ (fun _ _=>rfl) B p S _ _ _ _ _ N m _ W hP fun W hP=>treeacq_p B p N D S 7 mode base loc room m rs W hP hk.hn.1 (by have:=hk.hn.2;omega) hm hl (tree_all hl hm) hD hn0⟩
 · have hl:layM (adWants N) N mode base loc=some rs:=hk.hlay (by decide)
   exact lkdacq_p _ _ (fun _ _=>rfl) B p S 8 mode base loc room N m _ w h fun w=>(of8_p w).mono fun e w' h9=>by
    obtain⟨rfl,hx⟩:=h9
    exact⟨_,rfl,hx,fun _=>by kernel_rfl,fun W hP=>laidacq_p _ _ _ _ _ (fun _ _=>rfl) B p S _ _ _ _ _ N m _ W hP fun W hP=>adacq_p B p N D S 8 mode base loc room m rs W hP hk.hn.1 hk.hn.2 hm hl hk.hloc (laid_all hl) (ad_told hl hk.hn.1) hD hn0⟩
set_option maxRecDepth 100000 in
theorem lkrel_p (B p N:Nat)(S:TS)(alg mode base loc room:Int)(m:Nat)(rs:List Reg)(w:World)(h:Plays B w p S)(hk:LkOk alg N mode base loc room rs)(hm:m<N)(hn0:S.nts.length<=100000) :
  Calls Tryz.prog 30 #[.pointer (some ⟨p,0,none⟩),.agg #[V Z alg,V Z N,V Z mode,V Z base,V Z loc,V Z room],V Z m] w (Post encU B p w ((lkR alg N base loc rs m).run S)):=by
 rcases alg_cases hk.halg with rfl | rfl | rfl | rfl | rfl | rfl | rfl | rfl
 · exact lkdrel_p _ _ (fun _ _=>rfl) B p S 1 mode base loc room N m _ w h fun w=>(of1_p w).mono fun e w' h9=>by
    obtain⟨rfl,hx⟩:=h9
    exact⟨_,rfl,hx,fun _=>by kernel_rfl,fun W hP=>bakeriesrel_p B p S _ _ _ _ _ N m _ W hP fun W hP=>bakrel_p B p N S 1 mode base loc room m W hP hk.hn.1 hk.hn.2 hm hk.hbase hk.hroom hn0⟩
 · exact lkdrel_p _ _ (fun _ _=>rfl) B p S 2 mode base loc room N m _ w h fun w=>(of2_p w).mono fun e w' h9=>by
    obtain⟨rfl,hx⟩:=h9
    exact⟨_,rfl,hx,fun _=>by kernel_rfl,fun W hP=>bitsrel_p B p S _ _ _ _ _ N m _ W hP fun W hP=>onerel_p B p N S 2 mode base loc room m W hP hk.hn.2 hm hk.hbase hn0⟩
 · have hl:layM (bwWants N) N mode base loc=some rs:=hk.hlay (by decide)
   exact lkdrel_p _ _ (fun _ _=>rfl) B p S 3 mode base loc room N m _ w h fun w=>(of3_p w).mono fun e w' h9=>by
    obtain⟨rfl,hx⟩:=h9
    exact⟨_,rfl,hx,fun _=>by kernel_rfl,fun W hP=>laidrel_p _ _ _ _ _ (fun _ _=>rfl) B p S _ _ _ _ _ N m _ W hP fun W hP=>bwrel_p B p N S 3 mode base loc room m rs W hP hk.hn.1 hk.hn.2 hm hl hk.hloc (laid_all hl) hn0⟩
 · have hl:layM (filWants N) N mode base loc=some rs:=hk.hlay (by decide)
   exact lkdrel_p _ _ (fun _ _=>rfl) B p S 4 mode base loc room N m _ w h fun w=>(of4_p w).mono fun e w' h9=>by
    obtain⟨rfl,hx⟩:=h9
    exact⟨_,rfl,hx,fun _=>by kernel_rfl,fun W hP=>laidrel_p _ _ _ _ _ (fun _ _=>rfl) B p S _ _ _ _ _ N m _ W hP fun W hP=>filrel_p B p N S 4 mode base loc room m rs W hP hk.hn.1 hk.hn.2 hm hl (laid_all hl) hn0⟩
 · have hl:layM (fastWants N) N mode base loc=some rs:=hk.hlay (by decide)
   exact lkdrel_p _ _ (fun _ _=>rfl) B p S 5 mode base loc room N m _ w h fun w=>(of5_p w).mono fun e w' h9=>by
    obtain⟨rfl,hx⟩:=h9
    exact⟨_,rfl,hx,fun _=>by kernel_rfl,fun W hP=>laidrel_p _ _ _ _ _ (fun _ _=>rfl) B p S _ _ _ _ _ N m _ W hP fun W hP=>fastrel_p B p N S 5 mode base loc room m rs W hP hk.hn.1 hk.hn.2 hm hl (laid_all hl) hn0⟩
 · have hl:layM (treeWants (eachK 6) N) N mode base loc=some rs:=hk.hlay (by decide)
   exact lkdrel_p _ _ (fun _ _=>rfl) B p S 6 mode base loc room N m _ w h fun w=>(of6_p w).mono fun e w' h9=>by
    obtain⟨x,rfl,hx⟩:=h9
    exact⟨_,rfl,hx,fun _=>by kernel_rfl,fun W hP=>laidrel_p _ _ _ _ _ (fun _ _=>rfl) B p S _ _ _ _ _ N m _ W hP fun W hP=>treerel_p B p N S 6 mode base loc room m rs W hP hk.hn.1 (by have:=hk.hn.2;omega) hm hl (tree_all hl hm) hn0⟩
 · have hl:layM (treeWants (eachK 7) N) N mode base loc=some rs:=hk.hlay (by decide)
   exact lkdrel_p _ _ (fun _ _=>rfl) B p S 7 mode base loc room N m _ w h fun w=>(of7_p w).mono fun e w' h9=>by
    obtain⟨x,rfl,hx⟩:=h9
    exact⟨_,rfl,hx,fun _=>by kernel_rfl,fun W hP=>laidrel_p _ _ _ _ _ (fun _ _=>rfl) B p S _ _ _ _ _ N m _ W hP fun W hP=>treerel_p B p N S 7 mode base loc room m rs W hP hk.hn.1 (by have:=hk.hn.2;omega) hm hl (tree_all hl hm) hn0⟩
 · have hl:layM (adWants N) N mode base loc=some rs:=hk.hlay (by decide)
   exact lkdrel_p _ _ (fun _ _=>rfl) B p S 8 mode base loc room N m _ w h fun w=>(of8_p w).mono fun e w' h9=>by
    obtain⟨rfl,hx⟩:=h9
    exact⟨_,rfl,hx,fun _=>by kernel_rfl,fun W hP=>laidrel_p _ _ _ _ _ (fun _ _=>rfl) B p S _ _ _ _ _ N m _ W hP fun W hP=>adrel_p B p N S 8 mode base loc room m rs W hP hk.hn.1 hk.hn.2 hm hl hk.hloc (laid_all hl) (ad_told hl hk.hn.1) hn0⟩
end Go.Proofs.YtbaajjkopdjbgaaGreat
namespace Kv
def Prog.Ends {α:Type} (p:Prog α) (R:α->Prop):Prop:=∀ (S:TS) (a:α) (S':TS),p.run S=(some a,S')->R a
theorem Prog.Ends.ret {α:Type}{R:α->Prop}{a:α}(h:R a):(Prog.ret a).Ends R:=by
 intro S b S' hr
 injection hr with e1 e2
 injection e1 with e1
 exact e1▸h
theorem Prog.Ends.bind {α β:Type}{p:Prog α}{f:α->Prog β}{R:β->Prop}(h:∀ a,(f a).Ends R):(p.bind f).Ends R:=by
 intro S b S' hr
 obtain⟨a,S1,_,h2⟩:=Prog.bind_some hr
 exact h a S1 b S' h2
end Kv
namespace Go.Proofs.YtbaajjkopdjbgaaGreat
open Kv
theorem ends_lkA (D:Nat)(alg:Int)(N:Nat)(base loc room:Int)(rs:List Reg)(m:Nat):(lkA D alg N base loc room rs m).Ends fun e=>e=0∨e=11/\alg=1:=by
 unfold lkA
 repeat' split
 · rename_i h1
   unfold bakA
   refine .bind fun _=>.bind fun _=>.bind fun t=>?_
   unfold bakIn
   split
   · exact .bind fun _=>.bind fun _=>.ret (.inr ⟨rfl,h1⟩)
   · exact .bind fun _=>.bind fun _=>.bind fun _=>.bind fun _=>.bind fun _=>.bind fun _=>.ret (.inl rfl)
 · exact .bind fun _=>.bind fun _=>.bind fun _=>.bind fun _=>.bind fun _=>.bind fun _=>.ret (.inl rfl)
 · unfold bwA
   exact .bind fun _=>.bind fun _=>.bind fun _=>.bind fun _=>.bind fun _=>.bind fun _=>.bind fun _=>.bind fun _=>.bind fun _=>.bind fun _=>.ret (.inl rfl)
 · exact .bind fun _=>.bind fun _=>.bind fun _=>.ret (.inl rfl)
 · exact .bind fun _=>.bind fun _=>.bind fun _=>.ret (.inl rfl)
 · unfold adA
   exact .bind fun _=>.bind fun _=>.bind fun _=>.bind fun _=>.ret (.inl rfl)
 · exact .bind fun _=>.bind fun _=>.bind fun _=>.ret (.inl rfl)
theorem lkA_fail {D:Nat}{alg:Int}{N:Nat}{base loc room:Int}{rs:List Reg}{m:Nat}{S S':TS}(h:(lkA D alg N base loc room rs m).run S=(some 11,S'))(hl:S'.acc.length<=S'.ans.length):S'.left<S.left:=by
 obtain⟨_,rfl⟩:=(ends_lkA D alg N base loc room rs m S 11 S' h).resolve_left (by decide)
 exact (show (bakA D base N room loc m).Asks from .note _ (.write _ _ _)).left h hl
end Go.Proofs.YtbaajjkopdjbgaaGreat
namespace Kv
theorem run_back {α:Type}{p:Prog α}{S S':TS}{o:Option α}(h:p.run S=(o,S'))(hl:S'.acc.length<=S'.ans.length):S.acc.length<=S.ans.length:=by
 have q1:=Prog.run_len p S
 have q2:=Prog.run_ans p S
 rw [h] at q1 q2
 simp only at q1 q2
 rw [q2] at hl;omega
def Prog.Pays {α:Type} (p:Prog α) (c:Int):Prop:=∀ (S:TS) (a:α) (S':TS),p.run S=(some a,S')->S'.acc.length<=S'.ans.length->(S'.nts.length:Int)+10*S'.left<=S.nts.length+10*S.left+c
theorem Prog.Notes.pays {α:Type}{p:Prog α}{n:Nat}(h:p.Notes n):p.Pays n:=by
 intro S a S' hr _
 have h1:=h.run S
 have h2:=Prog.run_left p S
 rw [hr] at h1 h2
 simp only at h1 h2
 omega
theorem Prog.Asks.pays {α:Type}{p:Prog α}{n:Nat}(h:p.Asks)(hn:p.Notes n):p.Pays ((n:Int)-10):=by
 intro S a S' hr hl
 have h1:=hn.run S
 have h2:=h.left hr hl
 rw [hr] at h1
 simp only at h1
 omega
theorem Prog.Pays.mono {α:Type}{p:Prog α}{c d:Int}(h:p.Pays c)(hd:c<=d):p.Pays d:=fun S a S' hr hl=>by
 have:=h S a S' hr hl
 omega
theorem Prog.Pays.bind {α β:Type}{p:Prog α}{f:α->Prog β}{c d:Int}(h:p.Pays c)(hf:∀ a,(f a).Pays d):(p.bind f).Pays (c+d):=by
 intro S b S' hr hl
 obtain⟨a,S1,h1,h2⟩:=Prog.bind_some hr
 have:=h S a S1 h1 (run_back h2 hl)
 have:=hf a S1 b S' h2 hl
 omega
def inA (T:Prog Int):Nat->Prog Unit
 | 0=>.ret ()
 | n+1=>T.bind fun e=>if e=11 then inA T n else .ret ()
theorem inA_pays {T:Prog Int}(h4:T.Notes 4)(hf:∀ S S',T.run S=(some 11,S')->S'.acc.length<=S'.ans.length->S'.left<S.left):∀ n,(inA T n).Pays 4
 | 0=>(show (Prog.ret ()).Notes 4 from .ret _ _).pays
 | n+1=>by
   intro S a S' hr hl
   obtain⟨e,S1,h1,h2⟩:=Prog.bind_some hr
   have hl1:=run_back h2 hl
   have hn:=h4.run S
   have hlf:=Prog.run_left T S
   rw [h1] at hn hlf
   simp only at hn hlf
   by_cases he:e=11
   · subst he
     rw [if_pos rfl] at h2
     have:=inA_pays h4 hf n S1 a S' h2 hl
     have:=hf S S1 h1 hl1
     omega
   · rw [if_neg he] at h2
     have:=(show (Prog.ret ()).Notes 0 from .ret _ _).pays S1 a S' h2 hl
     omega
def insideA {α:Type} (I U:Prog Unit) (Q:Prog α):Prog α:=I.bind fun _=>Q.bind fun x=>U.bind fun _=>.ret x
theorem insideA_pays {α:Type}{I U:Prog Unit}{Q:Prog α}(hI:I.Pays 4)(hU:U.Notes 1)(hQ:Q.Pays (-10)):(insideA I U Q).Pays (-5) :=
 (hI.bind fun _=>hQ.bind fun x=>hU.pays.bind fun _=>(show (Prog.ret x).Notes 0 from .ret _ _).pays).mono (by omega)
theorem insideA_bind {α β:Type}(I U:Prog Unit)(Q:Prog α)(f:α->Prog β):(insideA I U Q).bind f=I.bind fun _=>Q.bind fun x=>U.bind fun _=>f x:=by
 unfold insideA
 simp only [Prog.bind_assoc]
 rfl
theorem insideA_asks {α:Type}{Q:Prog α}(I U:Prog Unit)(hQ:Q.Asks):(insideA I U Q).Asks:=Prog.Asks.then (fun _=>hQ.bind _) I
end Kv
namespace Go.Proofs.YtbaajjkopdjbgaaGreat
open Kv
structure LkUse (alg:Int) (N:Nat) (mode base loc room:Int) (rs:List Reg) (m:Nat):Prop where
 ok:LkOk alg N mode base loc room rs
 hm:m<N
 hN:¬ (N=1/\mode=2)
theorem lkA_pays (D:Nat)(alg:Int)(N:Nat)(base loc room:Int)(rs:List Reg)(m n:Nat):(inA (lkA D alg N base loc room rs m) n).Pays 4:=inA_pays (notes_lkA ..) (fun _ _ h hl=>lkA_fail h hl) n
theorem load_obj {ops:Array Oper}{rest:List Oper}{op0 op:Oper}{a:Act}{w:World}{Q:Exit->Act->World->Prop}(hg0:op0.guard=none)(y:Operand)(ho0:op0.op=.move y)(hgd:op.guard=none)(x:Operand)(ho:op.op=.load 69 x)
  (b:Nat)(hx:(a.put op0.dst (a.eval y)).eval x=.pointer (some ⟨b,0,none⟩)){cs:Array Value}{t:TypeId}{fz:Nat × Nat}(h:w.heap[b]?=some (.cells cs t fz))(hn:cs.size=23)
  (hK:wpList Tryz.prog ops Q rest ((a.put op0.dst (a.eval y)).put op.dst (.agg cs)) w):wpList Tryz.prog ops Q (op0 :: op :: rest) a w:=by
 have hv:(loadVar 69 ⟨b,0,none⟩).run Tryz.prog w=.ok (.agg cs) w:=by
  refine run_loadVar_row _ _ _ _ cs fz _ h Tryz.underlying69 rfl ?_
  rw [hn]
  kernel_rfl
 refine wpList_plain hg0 fun _ hK'=>?_
 unfold Oper.wp execOp
 simp only [ho0,Sem.run_pure]
 refine hK' _ _ ?_
 refine wpList_plain hgd fun _ hK'=>?_
 unfold Oper.wp execOp
 simp only [ho,hx,Instr.loadAt,Instr.sureAddr,Sem.run_bind,Sem.run_pure,Result.andThen_ok,hv]
 exact hK' _ _ hK
end Go.Proofs.YtbaajjkopdjbgaaGreat
namespace Go.Proofs.YtbaajjkopdjbgaaGreat
open Go.RowKit Kv
set_option maxRecDepth 100000 in
theorem in_p (B p N D:Nat)(S:TS)(alg mode base loc room:Int)(m:Nat)(rs:List Reg)(w:World)(h:Plays B w p S)(hk:LkUse alg N mode base loc room rs m)(hta:TameA S)(hD:S.left<D)(hn0:S.nts.length+10*S.left<=90000) :
  Calls Tryz.prog 48 #[.pointer (some ⟨p,0,none⟩),.agg #[V Z alg,V Z N,V Z mode,V Z base,V Z loc,V Z room],V Z m] w (Post encU B p w ((inA (lkA D alg N base loc room rs m) D).run S)):=by
 generalize hR:Post encU B p w ((inA (lkA D alg N base loc room rs m) D).run S)=R
 have hO:Owes R encU B p w ((inA (lkA D alg N base loc room rs m) D).run S):=hR▸owes _ _ _ _ _
 clear hR
 obtain⟨b1,hK,hP⟩:=h.entry (.cells #[V Z alg,V Z N,V Z mode,V Z base,V Z loc,V Z room] 23)
 have c_b1:=b1.cells;clear h
 have hacq:=Hd fun S W hP hta hD hn=>lkacq_p B p N D S alg mode base loc room m rs W hP hk.ok hk.hm hk.hN hta hD hn
 have hfail:=Hd fun S S'=>lkA_fail (D:=D) (alg:=alg) (N:=N) (base:=base) (loc:=loc) (room:=room) (rs:=rs) (m:=m) (S:=S) (S':=S')
 have hT4:=Hd (notes_lkA D alg N base loc room rs m)
 generalize lkA D alg N base loc room rs m=T at *
 have hOh:=Hd hO;clear hO hk
 go_enter Tryz.func48,Tryz.ntmps48
 go_wp2_with fail
 generalize w.heap.size=z at *
 generalize World.alloc w _=W0 at *
 clear c_b1
 go_loopw [] (fun wr'=>∃ (n:Nat) (S2:TS),Plays B wr' p S2/\KeepP B p w wr'/\HeldP wr' p z (.cells #[V Z alg,V Z N,V Z mode,V Z base,V Z loc,V Z room] 23)/\TameA S2/\S2.left<D/\S2.nts.length+10*S2.left<=90000/\S2.left<n/\Hid (Owes R encU B p w ((inA T n).run S2))) (fun wr'=>leftW 1 3 wr' p)
 case atStart=>exact⟨D,S,hP,hK,b1,hta,hD,hn0,hD,hOh⟩
 case round =>
  clear hP hK b1 hta hD hn0 hOh
  obtain⟨n,S2,hP,hK,b1,hta,hD,hn0,hn,hO⟩:=hrel
  replace hO:=hO.out
  have hlw:=Hd hP.left
  cases n with
  | zero=>omega
  | succ n =>
    rw [show inA T (n+1)=T.bind fun e=>if e=11 then inA T n else .ret () from rfl] at hO
    have hOh:=Hd hO;clear hO;have c_b1:=b1.cells;go_wp2_with fail
    clear c_b1
    refine tstepA hT4.out hOh.out hK (hacq.out S2 _ hP hta hD (by omega)) (fun _ h=>⟨rfl,h⟩) ?_
    clear hOh hK hP;intro e S3 w3 hrun hlf _ hnn hP hk hK hO
    have hlw2:=Hd hP.left
    by_cases he:e=11
    · have de:(e==11)=true:=by rw [beq_iff_eq];exact he
      have hdec:=hfail.out S2 S3 (he▸hrun) hP.1
      rw [if_pos he] at hO;have hOh:=Hd hO;replace b1:=b1.keep hk;replace hta:=hta.run hrun;clear hO hk hrun he;go_wp2_with fail
      refine⟨⟨n,S3,hP,hK,b1,hta,by omega,by omega,by omega,hOh⟩,?_⟩
      rw [hlw.out,hlw2.out]
      omega
    · have de:(e==11)=false:=by rw [beq_eq_false_iff_ne];exact he
      rw [if_neg he] at hO
      have hf:=hO.done hP hK
      clear hO hP hK hk hrun hlw hlw2 he b1;go_wp2_with fail
      first | exact hf | (refine bodyPost_ret (results_none rfl _ _ _) rfl ?_;exact hf)
set_option maxRecDepth 100000 in
theorem out_p (B p N:Nat)(S:TS)(alg mode base loc room:Int)(m:Nat)(rs:List Reg)(w:World)(h:Plays B w p S)(hk:LkUse alg N mode base loc room rs m)(hn0:S.nts.length<=100000) :
  Calls Tryz.prog 49 #[.pointer (some ⟨p,0,none⟩),.agg #[V Z alg,V Z N,V Z mode,V Z base,V Z loc,V Z room],V Z m] w (Post encU B p w ((lkR alg N base loc rs m).run S)):=by
 generalize hR:Post encU B p w ((lkR alg N base loc rs m).run S)=R
 have hO:Owes R encU B p w ((lkR alg N base loc rs m).run S):=hR▸owes _ _ _ _ _
 clear hR
 obtain⟨b1,hK,hP⟩:=h.entry (.cells #[V Z alg,V Z N,V Z mode,V Z base,V Z loc,V Z room] 23)
 have c_b1:=b1.cells;clear h
 have hq:=fun W hP=>lkrel_p B p N S alg mode base loc room m rs W hP hk.ok hk.hm hn0
 go_enter Tryz.func49,Tryz.ntmps49
 go_wp2_with fail
 refine tlast hO hK (hq _ hP) (fun _ h=>⟨rfl,h⟩) ?_
 clear hO hK hP hq c_b1;intro u S9 w9 hr9 hP hk9 hK hO
 have hf:=hO.done hP hK
 clear hO hP hK hr9 hk9;go_wp2_with fail
 first | exact hf | (refine bodyPost_ret (results_none rfl _ _ _) rfl ?_;exact hf) | (go_ret;exact hf)
def PostX {α:Type} (X:Nat->Prop) (Vq:α->World->Prop) (B p:Nat) (w0:World) (r:Option α × TS) (e:Ending) (w':World):Prop :=
 match r.1 with
 | some v=>e=.returned (.tuple #[])/\Plays B w' p r.2/\KeepX X [2,3,4] B p w0 w'/\Vq v w'
 | none=>e=stopE p/\Stops B w' p r.2/\KeepX X [2,3,4] B p w0 w'
def OwesX {α:Type} (R:Ending->World->Prop) (X:Nat->Prop) (Vq:α->World->Prop) (B p:Nat) (w0:World) (r:Option α × TS):Prop:=∀ e w',PostX X Vq B p w0 r e w'->R e w'
section
variable {α β:Type} {X:Nat->Prop} {Vq:α->World->Prop} {B p:Nat} {w0 w:World} {S:TS} {R:Ending->World->Prop}
theorem OwesX.done {v:α}{w':World}(h:OwesX R X Vq B p w0 (some v,S))(h1:Plays B w' p S)(h2:KeepX X [2,3,4] B p w0 w')(h3:Vq v w'):R (.returned (.tuple #[])) w':=h _ _ ⟨rfl,h1,h2,h3⟩
end
def encS (x:Int):Value:=.bool (x==0)
@[go_sem] theorem encS_eq (x:Int):encS x=.bool (x==0):=rfl
set_option maxRecDepth 100000 in
theorem alloc_obj (w:World)(a:Act)(op:Oper)(h:op.op=.alloc 69):∃ c:Array Value,c.size=23/\(execOp a.eval op).run Tryz.prog w=.ok (.value (.pointer (some ⟨w.heap.size,0,none⟩))) (w.alloc (.cells c 69)):=by
 refine⟨#[V Z 0,V Z 0,V Z 0,V Z 0,V Z 0,V Z 0,V Z 0,V Z 0,V Z 0,V Z 0,V Z 0,V Z 0,V Z 0,V Z 0,V Z 0,V Z 0,V Z 0,V Z 0,V Z 0,V Z 0,V Z 0,V Z 0,V Z 0],rfl,?_⟩
 unfold execOp
 rw [h]
 go_simp
theorem new_obj {ops:Array Oper}{rest:List Oper}{op0 op:Oper}{a:Act}{w:World}{Q:Exit->Act->World->Prop}(hg0:op0.guard=none)(ho0:op0.op=.alloc 69)(hgd:op.guard=none)(x y:Operand)(ho:op.op=.store 69 x y)
  (cs:Array Value)(hx:(a.put op0.dst (.pointer (some ⟨w.heap.size,0,none⟩))).eval x=.pointer (some ⟨w.heap.size,0,none⟩))(hy:(a.put op0.dst (.pointer (some ⟨w.heap.size,0,none⟩))).eval y=.agg cs)(hn:cs.size=23)(h1:cs.all (·.oneCell')=true)
  (hK:wpList Tryz.prog ops Q rest ((a.put op0.dst (.pointer (some ⟨w.heap.size,0,none⟩))).put op.dst undef) (w.alloc (.cells cs 69))):wpList Tryz.prog ops Q (op0 :: op :: rest) a w:=by
 obtain⟨c,hc,hal⟩:=alloc_obj w a op0 ho0
 refine wpList_plain hg0 fun _ hK'=>?_
 unfold Oper.wp
 rw [hal]
 refine hK' _ _ ?_
 refine wpList_plain hgd fun _ hK'=>?_
 have hst:=run_storeAt_new (P:=Tryz.prog) w 69 c cs (by rw [hn];kernel_rfl) (by rw [hc,hn]) h1
 unfold Oper.wp execOp
 simp only [ho,hx,hy,Sem.run_bind,hst,Sem.run_pure,Result.andThen_ok]
 exact hK' _ _ hK
theorem obj_run {op:Oper}{a:Act}{w:World}{x:Operand}(ho:op.op=.load 69 x)(b:Nat)(hx:a.eval x=.pointer (some ⟨b,0,none⟩)){cs:Array Value}{t:TypeId}{fz:Nat × Nat}(h:w.heap[b]?=some (.cells cs t fz))(hn:cs.size=23):(execOp a.eval op).run Tryz.prog w=.ok (.value (.agg cs)) w:=by
 have hv:(loadVar 69 ⟨b,0,none⟩).run Tryz.prog w=.ok (.agg cs) w:=by
  refine run_loadVar_row _ _ _ _ cs fz _ h Tryz.underlying69 rfl ?_
  rw [hn]
  kernel_rfl
 unfold execOp
 simp only [ho,hx,Instr.loadAt,Instr.sureAddr,Sem.run_bind,Sem.run_pure,Result.andThen_ok,hv]
theorem load_objS {ops:Array Oper}{rest:List Oper}{op:Oper}{a:Act}{w:World}{Q:Exit->Act->World->Prop}(hgd:op.guard=none)(x:Operand)(ho:op.op=.load 69 x)(b:Nat)(hx:a.eval x=.pointer (some ⟨b,0,none⟩)){cs:Array Value}{t:TypeId}{fz:Nat × Nat}(h:w.heap[b]?=some (.cells cs t fz))(hn:cs.size=23)
  (hK:wpList Tryz.prog ops Q rest (a.put op.dst (.agg cs)) w):wpList Tryz.prog ops Q (op :: rest) a w:=by
 refine wpList_plain hgd fun _ hK'=>?_
 unfold Oper.wp
 rw [obj_run ho b hx h hn]
 exact hK' _ _ hK
theorem lkC_few {alg:Int}{N:Nat}{mode room:Int}{rs:List Reg}{m:Nat}(h:LkUse alg N mode 0 0 room rs m):0<=lkC alg N rs/\lkC alg N rs<=40000:=by
 have h1:=h.ok.hcells;have h2:=h.ok.halg
 refine⟨?_,by omega⟩
 unfold lkC
 repeat' split
 · omega
 · omega
 · have h3:=(sum_bd (fun r hr=>(laid_all (h.ok.hlay (by omega)) r hr).1) rs.length (Nat.le_refl _)).1.1
   rwa [List.take_length] at h3
end Go.Proofs.YtbaajjkopdjbgaaGreat
namespace Kv
theorem ref_ans {α:Type}{T:Prog α}{o o':Bool}{S S':TS}{a:α}(h:Ref T o S a o' S'):S'.ans=S.ans:=by
 cases h with
 | over=>rfl
 | done h=>have:=Prog.run_ans T S;rw [h] at this;exact this
 | stop _ h=>have:=Prog.run_ans T S;rw [h] at this;exact this
end Kv
namespace Go.Proofs.YtbaajjkopdjbgaaGreat
open Go.RowKit Kv
theorem rstepA {α β:Type}{B p:Nat}{w0 w:World}{o:Bool}{S:TS}{R:Ending->World->Prop}{P:Program}{f:FuncId}{args:Array Value}{K:Ending->World->Prop}{enc:α->Value}{enc':β->Value}{T:Prog α}{g:α->Prog β}{k:Nat}(hN:T.Notes k)
  (hO:ROwes R enc' B p w0 (T.bind g) o S)(hB:KeepR B p w0 w)(h:Calls P f args w (RPost enc B p w T o S))
  (hk:∀ v o1 S1 w1,(TameA S->TameA S1)->S1.left<=S.left->(o1=false->o=false/\T.run S=(some v,S1)/\(T.Asks->S1.left<S.left))->S1.nts.length<=S.nts.length+k->RAt B w1 p o1 S1->KeepR B p w w1->KeepR B p w0 w1->ROwes R enc' B p w0 (g v) o1 S1->K (.returned (enc v)) w1):Calls P f args w K:=by
 refine h.mono fun e w1 ⟨v,o1,S1,he,hr,h1,h2⟩=>?_
 subst he
 refine hk v o1 S1 w1 (fun ht=>?_) (ref_lefts hr) (fun ho=>?_) (ref_notes hN hr) h1 h2 (hB.trans h2) (hO.then hr)
 · unfold TameA
   rw [ref_ans hr]
   exact ht
 · subst ho
   cases hr with
   | done hr=>exact⟨rfl,hr,fun ha=>ha.left hr h1.len⟩
set_option maxRecDepth 100000 in
set_option maxHeartbeats 4000000 in
theorem bwwait_r (B p D N m j:Nat)(o:Bool)(S:TS)(alg mode base loc room T bc P:Int)(b c:Nat)(rs:List Reg)(w:World)(h:RAt B w p o S)(hreg:RegsAt [3,4,5] w p b rs)(h1:1<=N)(h2:N<=8)(hm1:m<N)(hj1:j<N)(hjm:j≠m)
  (hlen:rs.length=2*N+1)(_hc:rs.length<=c/\c<=9223372036854775807)(hok:∀ r∈rs,r.ok/\r.n=N)(htold:∀ (i:Nat) r,rs[i]?=some r->i≠1+m->i≠1+N+m->2<=N->r.told m)(hta:TameA S)(hD:S.left<D)
  (hP1:IntKind.i64.wrap (P.tdiv 2)=T)(hP2:P.tmod 2=bc) :
  Calls Tryz.prog 205 #[.pointer (some ⟨p,0,none⟩),.agg #[V Z alg,V Z N,V Z mode,V Z base,V Z loc,V Z room],.slice (some ⟨b,0,none⟩) rs.length c,V Z m,V Z j,V Z P] w (RPost encU B p w (bwFor rs D N m j T bc) o S):=by
 generalize hR:RPost encU B p w (bwFor rs D N m j T bc) o S=R
 have hO:ROwes R encU B p w (bwFor rs D N m j T bc) o S:=hR▸rowes _ _ _ _ _ _ _
 clear hR
 obtain⟨b1,hK,hP⟩:=h.entry (.cells #[V Z alg,V Z N,V Z mode,V Z base,V Z loc,V Z room] 23)
 have c_b1:=b1.cells;have hplt:=h.lt;clear h
 replace hreg:=hreg.extL ((Ext.refl w).alloc (.cells #[V Z alg,V Z N,V Z mode,V Z base,V Z loc,V Z room] 23)) hplt
 clear hplt
 obtain⟨r0,hr0⟩:∃ r,rs[0]?=some r:=⟨_,List.getElem?_eq_getElem (by omega)⟩
 obtain⟨rh,hrh⟩:∃ r,rs[1+j]?=some r:=⟨_,List.getElem?_eq_getElem (by omega)⟩
 obtain⟨rj,hrj⟩:∃ r,rs[1+N+j]?=some r:=⟨_,List.getElem?_eq_getElem (by omega)⟩
 have hok0:=(hok _ (List.mem_of_getElem? hr0)).1
 have hm0':(m:Int)<r0.n:=by rw [(hok _ (List.mem_of_getElem? hr0)).2];omega
 have hokx:=(hok _ (List.mem_of_getElem? hrh)).1
 have hmx:(m:Int)<rh.n:=by rw [(hok _ (List.mem_of_getElem? hrh)).2];omega
 have hokj:=(hok _ (List.mem_of_getElem? hrj)).1
 have hmj:(m:Int)<rj.n:=by rw [(hok _ (List.mem_of_getElem? hrj)).2];omega
 have htx:=htold _ rh hrh (by omega) (by omega) (by omega)
 have htj:=htold _ rj hrj (by omega) (by omega) (by omega)
 have hw1:=IntWalk.i64_in ((1:Int)+(j:Int)) (by omega)
 have hw2:=IntWalk.i64_in ((1:Int)+(N:Int)) (by omega)
 have hw3:=IntWalk.i64_in ((1:Int)+(N:Int)+(j:Int)) (by omega)
 have q1:(1:Int)+(j:Int)<(rs.length:Int):=by omega
 have q2:0<=(1:Int)+(j:Int):=by omega
 have q3:((1:Int)+(j:Int)).toNat=1+j:=by omega
 have q4:(1:Int)+(N:Int)+(j:Int)<(rs.length:Int):=by omega
 have q5:0<=(1:Int)+(N:Int)+(j:Int):=by omega
 have q6:((1:Int)+(N:Int)+(j:Int)).toNat=1+N+j:=by omega
 have q7:(0:Nat)<rs.length:=by omega
 have q8:(0:Int)<(rs.length:Int):=by omega
 have hrr:=Hd (And.intro hr0 (And.intro hrh hrj))
 unfold bwFor at hO
 rw [bwChoose_eq,regAt_of (show (1:Int)+(j:Int)=((1+j:Nat):Int) from by omega) hrh] at hO
 have hOh:=Hd hO;clear hO hr0 hrh hrj hok htold hlen
 go_enter Tryz.func205,Tryz.ntmps205
 go_wp2_with fail
 clear c_b1
 generalize hbb:w.heap.size=z at *
 generalize World.alloc w _=W0 at *
 clear hbb
 go_loopw [] (fun wr=>∃ (n:Nat) (o2:Bool) (S2:TS),RAt B wr p o2 S2/\KeepR B p w wr/\HeldR wr p z (.cells #[V Z alg,V Z N,V Z mode,V Z base,V Z loc,V Z room] 23)/\RegsAt [3,4,5] wr p b rs/\TameA S2/\(o2=false->S2.left<D)/\Hid (ROwes R encU B p w ((zeroP rh m n).bind fun _=>bwWait rs N m j T bc D) o2 S2)/\(o2=false->S2.left<n)) (fun wr=>leftR wr p)
 case atStart=>exact⟨D,o,S,hP,hK,b1,hreg,hta,fun _=>hD,hOh,fun _=>hD⟩
 case round =>
  clear hP hK b1 hreg hta hD hOh
  obtain⟨n,o2,S2,hP,hK,b1,hreg,hta,hD,hO,hn⟩:=hrel
  replace hO:=hO.out
  have hlw:=Hd hP.leftR
  obtain⟨_,_,_,_,_,hcc⟩:=hP.cell
  cases o2 with
  | true =>
    have hf:R (.returned (encU ())) wr:=hO.over () hP hK
    clear hO hK hD b1 hreg hta hn;go_wp2_with fail
    go_loopw [] (fun w9=>RAt B w9 p true S2/\R (.returned (encU ())) w9) (fun _=>0)
    case atStart=>exact⟨hP,hf⟩
    case round =>
     clear hP hf hcc
     obtain⟨hP,hf⟩:=hrel
     obtain⟨_,_,_,_,_,hcc⟩:=hP.cell
     go_wp2_with fail
     first | exact hf | (refine bodyPost_ret (results_none rfl _ _ _) rfl ?_;exact hf)
  | false =>
    have hn:=hn rfl
    replace hD:=hD rfl
    cases n with
    | zero=>omega
    | succ n =>
      rw [show zeroP rh m (n+1)=(regR rh m).bind fun x=>if x=0 then .ret () else zeroP rh m n from rfl,Prog.bind_assoc] at hO
      have hOh:=Hd hO;clear hO
      obtain⟨a0,a1,a2,a3,a4,a5,a6⟩:=hreg.nth hrr.out.2.1
      go_wp2_with fail
      clear a0 a1 a2 a3 a4 a5 a6 hcc
      refine rstepA (notes_regR _ _) hOh.out hK (reg_read_r B p false S2 rh m _ hP hokx ⟨by omega,hmx⟩) ?_
      clear hOh hK hP;intro x o3 S3 w3 htm hlf hdn _ hP hk hK hO;replace hta:=htm hta;replace b1:=b1.keep hk;replace hreg:=hreg.keep hk;clear hk htm
      replace hD:o3=false->S3.left<D:=fun _=>Nat.lt_of_le_of_lt hlf hD
      have hn3:o3=false->S3.left<n:=fun ho=>by have:=(hdn ho).2.2 (asks_regR _ _ htx);omega
      have hlw2:=Hd hP.leftR
      have hdec:o3=false->S3.left<S2.left:=fun ho=>(hdn ho).2.2 (asks_regR _ _ htx)
      clear hdn
      by_cases hx:x=0
      · have dx:(x==0)=true:=by simpa using hx
        rw [if_pos hx] at hO;have hOh:=Hd hO;clear hO hx;go_wp2_with fail
        clear hlw hlw2 hn3 hdec
        go_loopw [] (fun wr=>∃ (n:Nat) (o2:Bool) (S2:TS),RAt B wr p o2 S2/\KeepR B p w wr/\HeldR wr p z (.cells #[V Z alg,V Z N,V Z mode,V Z base,V Z loc,V Z room] 23)/\RegsAt [3,4,5] wr p b rs/\TameA S2/\Hid (ROwes R encU B p w (bwWait rs N m j T bc n) o2 S2)/\(o2=false->S2.left<n)) (fun wr=>leftR wr p)
        case atStart=>exact⟨D,o3,S3,hP,hK,b1,hreg,hta,hOh,hD⟩
        case round =>
         clear hP hK b1 hreg hta hD hOh hn
         obtain⟨n,o2,S4,hP,hK,b1,hreg,hta,hO,hn⟩:=hrel
         replace hO:=hO.out
         have hlw:=Hd hP.leftR
         obtain⟨_,_,_,_,_,hcc⟩:=hP.cell
         cases o2 with
         | true =>
           have hf:R (.returned (encU ())) wr:=hO.over () hP hK
           clear hO hK b1 hreg hta hn;go_wp2_with fail
           first | exact hf | (refine bodyPost_ret (results_none rfl _ _ _) rfl ?_;exact hf)
         | false =>
           have hn:=hn rfl
           cases n with
           | zero=>omega
           | succ n =>
             replace hO:ROwes R encU B p w ((bwWait rs N m j T bc (n+1)).bind Prog.ret) false S4:=by rw [Prog.bind_id];exact hO
             rw [bwWait_bind,regAt_of (show (1:Int)+(N:Int)+(j:Int)=((1+N+j:Nat):Int) from by omega) hrr.out.2.2,regAt_of (show (0:Int)=((0:Nat):Int) from rfl) hrr.out.1,Prog.bind_id] at hO
             have hOh:=Hd hO;clear hO;have c_b1:=b1.cells
             obtain⟨a0,a1,a2,a3,a4,a5,a6⟩:=hreg.nth hrr.out.2.2
             go_wp2_with fail
             clear a0 a1 a2 a3 a4 a5 a6 hcc c_b1
             refine rstepA (notes_regR _ _) hOh.out hK (reg_read_r B p false S4 rj m _ hP hokj ⟨by omega,hmj⟩) ?_
             clear hOh hK hP;intro x o4 S5 wn htm hlf hdn _ hP hk hK hO
             have hta5:=htm hta
             replace b1:=b1.keep hk;replace hreg:=hreg.keep hk;clear hk htm
             have hn5:o4=false->S5.left<n:=fun ho=>by have:=(hdn ho).2.2 (asks_regR _ _ htj);omega
             have hlw2:=Hd hP.leftR
             have hdec:o4=false->S5.left<S4.left:=fun ho=>(hdn ho).2.2 (asks_regR _ _ htj)
             have hqr:o4=false->IntKind.i64.wrap (x.tdiv 2)=x / 2/\x.tmod 2=x % 2:=fun ho=>by
              have hxb:=regR_bd hokj (told_ne htj) hta (hdn ho).2.1
              refine⟨?_,Int.tmod_eq_emod_of_nonneg hxb.1⟩
              rw [Int.tdiv_eq_ediv_of_nonneg hxb.1]
              exact IntWalk.i64_in _ (by omega)
             clear hdn hta
             obtain⟨q,hq⟩:∃ q,IntKind.i64.wrap (x.tdiv 2)=q:=⟨_,rfl⟩
             obtain⟨r,hr⟩:∃ r,x.tmod 2=r:=⟨_,rfl⟩
             rw [hq,hr] at hqr
             obtain⟨_,_,_,_,_,hcc⟩:=hP.cell
             by_cases hq0:q=0
             · have d0:(q==0)=true:=by rw [beq_iff_eq];exact hq0
               have hf:R (.returned (encU ())) wn:=by
                cases o4 with
                | true=>exact hO.over () hP hK
                | false =>
                  rw [<- (hqr rfl).1,<- (hqr rfl).2,if_pos hq0] at hO
                  exact hO.ret hP hK
               clear hO hP hK hcc b1 hreg hqr hlw hlw2 hq0;go_wp2_with fail
               first | exact hf | (refine bodyPost_ret (results_none rfl _ _ _) rfl ?_;exact hf)
             · have d0:(q==0)=false:=by rw [beq_eq_false_iff_ne];exact hq0
               replace hO:ROwes R encU B p w (if r=bc then (if T<q∨(q=T/\(m:Int)<(j:Int)) then .ret () else bwWait rs N m j T bc n) else (regR r0 m).bind fun y=>if bitM y=bc then bwWait rs N m j T bc n else .ret ()) o4 S5:=by
                cases o4 with
                | true=>exact hO.any _
                | false =>
                  rw [<- (hqr rfl).1,<- (hqr rfl).2,if_neg hq0] at hO
                  exact hO
               clear hqr hq0
               by_cases hrb:r=bc
               · have dr:(r==bc)=true:=by rw [beq_iff_eq];exact hrb
                 have dr2:(r != bc)=false:=by simpa using hrb
                 rw [if_pos hrb] at hO;clear hrb
                 by_cases hg:T<q∨(q=T/\(m:Int)<(j:Int))
                 · rw [if_pos hg] at hO
                   have hf:R (.returned (encU ())) wn:=hO.ret hP hK
                   clear hO hP hK hcc b1 hreg hlw hlw2
                   have hgd:decide (T<q)=true∨decide (T<q)=false/\(q==T)=true/\decide (m<j)=true:=by
                    by_cases hg1:T<q
                    · exact .inl (by simpa using hg1)
                    · obtain⟨hg2,hg3⟩:=hg.resolve_left hg1
                      exact .inr ⟨by simpa using hg1,by simpa using hg2,by simp;omega⟩
                   clear hg
                   rcases hgd with d1 | ⟨d1,d2,d3⟩
                   · go_wp2_with fail
                     first | exact hf | (refine bodyPost_ret (results_none rfl _ _ _) rfl ?_;exact hf)
                   · go_wp2_with fail
                     first | exact hf | (refine bodyPost_ret (results_none rfl _ _ _) rfl ?_;exact hf)
                 · rw [if_neg hg] at hO
                   have hOh:=Hd hO;clear hO
                   have hgd:decide (T<q)=false/\((q==T)=false∨(q==T)=true/\decide (m<j)=false):=by
                    refine⟨by simp;omega,?_⟩
                    by_cases hg2:q=T
                    · exact .inr ⟨by simpa using hg2,by simp;omega⟩
                    · exact .inl (by simpa using hg2)
                   clear hg
                   obtain⟨d1,d2 | ⟨d2,d3⟩⟩:=hgd
                   · go_wp2_with fail
                     refine⟨⟨n,o4,S5,hP,hK,b1,hreg,hta5,hOh,hn5⟩,?_⟩
                     rw [hlw.out,hlw2.out]
                     cases o4 with
                     | true=>simp;omega
                     | false=>have:=hdec rfl;simp;omega
                   · go_wp2_with fail
                     refine⟨⟨n,o4,S5,hP,hK,b1,hreg,hta5,hOh,hn5⟩,?_⟩
                     rw [hlw.out,hlw2.out]
                     cases o4 with
                     | true=>simp;omega
                     | false=>have:=hdec rfl;simp;omega
               · have dr:(r==bc)=false:=by rw [beq_eq_false_iff_ne];exact hrb
                 have dr2:(r != bc)=true:=by simpa using hrb
                 rw [if_neg hrb] at hO;clear hrb
                 cases o4 with
                 | true =>
                   have hOh:=Hd (hO.any (bwWait rs N m j T bc n))
                   clear hO;go_wp2_with fail
                   refine⟨⟨n,true,S5,hP,hK,b1,hreg,hta5,hOh,fun h=>by cases h⟩,?_⟩
                   rw [hlw.out,hlw2.out]
                   simp;omega
                 | false =>
                   have hn6:=hn5 rfl
                   have hdec6:=hdec rfl
                   clear hn5 hdec;have hOh:=Hd hO;clear hO
                   obtain⟨a0,a1,a2,a3,a4,a5,a6⟩:=hreg.nth hrr.out.1
                   go_wp2_with fail
                   clear a0 a1 a2 a3 a4 a5 a6 hcc
                   refine rstepA (notes_regR _ _) hOh.out hK (reg_read_r B p false S5 r0 m _ hP hok0 ⟨by omega,hm0'⟩) ?_
                   clear hOh hK hP;intro y o6 S6 wm htm hlf6 hdn _ hP hk hK hO
                   have hta6:=htm hta5
                   replace b1:=b1.keep hk;replace hreg:=hreg.keep hk
                   have hlw3:=Hd hP.leftR
                   clear hk htm hlw2 hdn hta5;go_wp2_with fail
                   refine (bit_r y _).mono ?_
                   rintro e w' ⟨rfl,rfl⟩
                   generalize bitM y=by' at *
                   by_cases hb:by'=bc
                   · have db:(by' != bc)=false:=by simpa using hb
                     rw [if_pos hb] at hO;have hOh:=Hd hO;clear hO hb;go_wp2_with fail
                     refine⟨⟨n,o6,S6,hP,hK,b1,hreg,hta6,hOh,fun _=>by omega⟩,?_⟩
                     rw [hlw.out,hlw3.out]
                     cases o6 <;> simp <;> omega
                   · have db:(by' != bc)=true:=by simpa using hb
                     rw [if_neg hb] at hO
                     have hf:R (.returned (encU ())) wm:=hO.ret hP hK
                     clear hO hP hK b1 hreg hlw hlw3 hb;go_wp2_with fail
                     first | exact hf | (refine bodyPost_ret (results_none rfl _ _ _) rfl ?_;exact hf)
      · have dx:(x==0)=false:=by simpa using hx
        rw [if_neg hx] at hO;have hOh:=Hd hO;clear hO hx;go_wp2_with fail
        refine⟨⟨n,o3,S3,hP,hK,b1,hreg,hta,hD,hOh,hn3⟩,?_⟩
        rw [hlw.out,hlw2.out]
        cases o3 with
        | true=>simp;omega
        | false=>have:=hdec rfl;simp;omega
set_option maxRecDepth 100000 in
set_option maxHeartbeats 4000000 in
theorem bwacq_r (B p N D:Nat)(o:Bool)(S:TS)(alg mode base loc room:Int)(m:Nat)(rs:List Reg)(w:World)(h:RAt B w p o S)(h1:1<=N)(h2:N<=8)(hm1:m<N)(hl:layM (bwWants N) N mode base loc=some rs)(hlc:0<=loc/\loc<=32768)
  (hok:∀ r∈rs,r.ok/\r.n=N)(htold:∀ (i:Nat) r,rs[i]?=some r->i≠1+m->i≠1+N+m->2<=N->r.told m)(hta:TameA S)(hD:S.left<D)(hn0:S.nts.length<=100000) :
  Calls Tryz.prog 110 #[.pointer (some ⟨p,0,none⟩),.agg #[V Z alg,V Z N,V Z mode,V Z base,V Z loc,V Z room],V Z m] w (RPost encI B p w (bwA D rs (loc+sumL rs) N m) o S):=by
 have hlen:=layM_len hl
 rw [bwWants_len] at hlen
 generalize hR:RPost encI B p w (bwA D rs (loc+sumL rs) N m) o S=R
 have hO:ROwes R encI B p w (bwA D rs (loc+sumL rs) N m) o S:=hR▸rowes _ _ _ _ _ _ _
 clear hR
 obtain⟨b1,hK,hP⟩:=h.entry (.cells #[V Z alg,V Z N,V Z mode,V Z base,V Z loc,V Z room] 23)
 have c_b1:=b1.cells;clear h;rw [bwA_eq] at hO
 obtain⟨r0,hr0⟩:∃ r,rs[0]?=some r:=⟨_,List.getElem?_eq_getElem (by omega)⟩
 obtain⟨rc,hrc⟩:∃ r,rs[1+m]?=some r:=⟨_,List.getElem?_eq_getElem (by omega)⟩
 obtain⟨rm,hrm⟩:∃ r,rs[1+N+m]?=some r:=⟨_,List.getElem?_eq_getElem (by omega)⟩
 have hok0:=(hok _ (List.mem_of_getElem? hr0)).1
 have hm0':(m:Int)<r0.n:=by rw [(hok _ (List.mem_of_getElem? hr0)).2];omega
 have hokc:=(hok _ (List.mem_of_getElem? hrc)).1
 have hmc:(m:Int)<rc.n:=by rw [(hok _ (List.mem_of_getElem? hrc)).2];omega
 have hokm:=(hok _ (List.mem_of_getElem? hrm)).1
 have hmm:(m:Int)<rm.n:=by rw [(hok _ (List.mem_of_getElem? hrm)).2];omega
 rw [regAt_of (show (0:Int)=((0:Nat):Int) from rfl) hr0,regAt_of (show (1:Int)+(m:Int)=((1+m:Nat):Int) from by omega) hrc] at hO
 have hw1:=IntWalk.i64_in ((1:Int)+(m:Int)) (by omega)
 have hw2:=IntWalk.i64_in ((1:Int)+(N:Int)) (by omega)
 have hw3:=IntWalk.i64_in ((1:Int)+(N:Int)+(m:Int)) (by omega)
 have q1:(1:Int)+(m:Int)<(rs.length:Int):=by omega
 have q2:0<=(1:Int)+(m:Int):=by omega
 have q3:((1:Int)+(m:Int)).toNat=1+m:=by omega
 have q4:(1:Int)+(N:Int)+(m:Int)<(rs.length:Int):=by omega
 have q5:0<=(1:Int)+(N:Int)+(m:Int):=by omega
 have q6:((1:Int)+(N:Int)+(m:Int)).toNat=1+N+m:=by omega
 have q7:(0:Nat)<rs.length:=by omega
 have q8:(0:Int)<(rs.length:Int):=by omega
 have hrh:=Hd (And.intro hr0 (And.intro hrc hrm))
 have hlM:=Hd hl
 have hlenh:=Hd hlen
 have hokh:=Hd hok
 have htoldh:=Hd htold
 clear hlen hr0 hrc hrm hok hl htold;have hOh:=Hd hO;clear hO
 go_enter Tryz.func110,Tryz.ntmps110
 go_wp2_with fail
 refine (bwregs_r alg mode base loc room N rs _ h1 h2 hlM.out hlc).mono ?_
 rintro e w1 ⟨b,c,rfl,hge,hb,hcells,qc1,qc2,hx⟩
 have hreg:RegsAt [3,4,5] w1 p b rs:=⟨hb,hP.fresh hx hge,hcells⟩
 replace hK:=hK.trans (Keep.of_ext hx hP.lt hP.le);replace b1:=b1.ext hx hP.lt;replace hP:=hP.ext hx;clear hx hcells hge hb c_b1
 generalize w.heap.size=z at *
 go_wp2_with fail
 refine rstepA (notes_nt 1) hOh.out hK (note_r B p o S 1 _ hP (by unfold maxAns;omega)) ?_
 clear hOh hK hP;intro u o1 S1 wn htm hlf hdn hnn hP hk hK hO;replace hta:=htm hta;replace hD:=Nat.lt_of_le_of_lt hlf hD
 replace hn0:S1.nts.length<=100001:=by omega
 replace b1:=b1.keep hk;replace hreg:=hreg.keep hk;clear hk htm hnn hdn hlf;have hOh:=Hd hO;clear hO
 obtain⟨a0,a1,a2,a3,a4,a5,a6⟩:=hreg.nth hrh.out.2.1
 go_wp2_with fail
 clear a0 a1 a2 a3 a4 a5 a6
 refine rstepA (notes_regW _ _ _) hOh.out hK (reg_write_r B p o1 S1 rc m 1 _ hP hokc ⟨by omega,hmc⟩) ?_
 clear hOh hK hP;intro u o2 S2 wn htm hlf hdn hnn hP hk hK hO;replace hta:=htm hta;replace hD:=Nat.lt_of_le_of_lt hlf hD
 replace hn0:S2.nts.length<=100001:=by omega
 replace b1:=b1.keep hk;replace hreg:=hreg.keep hk;clear hk htm hnn hdn hlf;have hOh:=Hd hO;clear hO
 obtain⟨a0,a1,a2,a3,a4,a5,a6⟩:=hreg.nth hrh.out.1
 go_wp2_with fail
 clear a0 a1 a2 a3 a4 a5 a6
 refine rstepA (notes_regR _ _) hOh.out hK (reg_read_r B p o2 S2 r0 m _ hP hok0 ⟨by omega,hm0'⟩) ?_
 clear hOh hK hP;intro y o3 S3 wn htm hlf hdn hnn hP hk hK hO;replace hta:=htm hta;replace hD:=Nat.lt_of_le_of_lt hlf hD
 replace hn0:S3.nts.length<=100001:=by omega
 replace b1:=b1.keep hk;replace hreg:=hreg.keep hk;clear hk htm hnn hdn hlf;have hOh:=Hd hO;clear hO;go_wp2_with fail
 refine (bit_r y _).mono ?_
 rintro e w' ⟨rfl,rfl⟩
 have hbx:bitM y=0∨bitM y=1:=by unfold bitM;split <;> simp
 generalize bitM y=bc at *
 go_wp2_with fail
 refine rstepA (notes_st _ _) hOh.out hK (set_r B p o3 S3 _ _ _ hP) ?_
 clear hOh hK hP;intro u o4 S4 wn htm hlf hdn hnn hP hk hK hO;replace hta:=htm hta;replace hD:=Nat.lt_of_le_of_lt hlf hD
 replace hn0:S4.nts.length<=100001:=by omega
 replace b1:=b1.keep hk;replace hreg:=hreg.keep hk;clear hk htm hnn hdn hlf;have hOh:=Hd hO;clear hO
 obtain⟨F,hF⟩:∃ F:Int->Prog Int,F=bwThrough D rs N m bc:=⟨_,rfl⟩
 replace hO:=hOh.out
 rw [<- hF,Int.toNat_natCast] at hO
 clear hOh;have hOh:=Hd hO
 have hFh:=Hd hF
 clear hO hF
 go_upto_block 0 with fail
 go_cut [10] (fun s10 wx=>∃ (tv:Int) (o2:Bool) (S2:TS),s10=V Z tv/\(o2=false->1<=tv/\tv<=1048577)/\RAt B wx p o2 S2/\KeepR B p w wx/\HeldR wx p z (.cells #[V Z alg,V Z N,V Z mode,V Z base,V Z loc,V Z room] 23)/\RegsAt [3,4,5] wx p b rs/\(o2=false->S2.left<D)/\TameA S2/\S2.nts.length<=100001/\Hid (ROwes R encI B p w (F (tv-1)) o2 S2))
 case first =>
  go_wp2_with fail
  go_loopw [10,11] (fun u i wr=>∃ (j:Nat) (tv:Int) (o2:Bool) (S2:TS),i=V Z j/\u=V Z tv/\j<=N/\(o2=false->1<=tv/\tv<=1048577)/\RAt B wr p o2 S2/\KeepR B p w wr/\HeldR wr p z (.cells #[V Z alg,V Z N,V Z mode,V Z base,V Z loc,V Z room] 23)/\RegsAt [3,4,5] wr p b rs/\(o2=false->S2.left<D)/\TameA S2/\S2.nts.length<=100001/\Hid (ROwes R encI B p w ((forP (fun j t=>(regR (regAt rs (1+(N:Int)+j)) m).bind fun x=>.ret (if x % 2=bc then max t (x / 2) else t)) (ranksFrom m (N-j) j) (tv-1)).bind F) o2 S2)) (fun _ i _=>N-(intOf i).toNat)
  case atStart=>exact⟨0,1,o4,S4,rfl,rfl,by omega,fun _=>by omega,hP,hK,b1,hreg,fun _=>hD,hta,hn0,hOh⟩
  case round =>
   clear hP hK b1 hreg hD hta hn0 hOh
   obtain⟨j,tv,o2,S2,rfl,rfl,hj,htv,hP,hK,b1,hreg,hD,hta,hn0,hOh⟩:=hrel
   obtain⟨_,_,_,_,_,hcc⟩:=hP.cell
   have c_b1:=b1.cells
   by_cases hjN:j<N
   · have dj:decide ((j:Int)<(N:Int))=true:=by rw [decide_eq_true_eq];omega
     cases o2 with
     | true =>
       have hOh2:=Hd (hOh.out.any (F (tv-1)))
       clear hOh hcc
       obtain⟨_,_,_,_,_,hcc⟩:=hP.cell
       go_wp2_with fail
       go_meet
       exact⟨tv,true,S2,rfl,htv,hP,hK,b1,hreg,hD,hta,hn0,hOh2⟩
     | false =>
       replace htv:=htv rfl;replace hD:=hD rfl
       by_cases hjm:j=m
       · subst hjm
         have djm:((j:Int)==(j:Int))=true:=by simp
         obtain⟨g,hg⟩:∃ g,N-j=g+1:=⟨N-j-1,by omega⟩
         replace hO:=hOh.out
         rw [hg,ranks_skip,show g=N-(j+1) from by omega] at hO
         have hf:=Hd hO
         clear hO hOh hg;go_wp2_with fail
         refine⟨⟨j+1,tv,false,S2,by go_num,rfl,by omega,fun _=>htv,hP,hK,b1,hreg,fun _=>hD,hta,hn0,hf⟩,?_⟩
         simp [intOf];omega
       · have djm:((j:Int)==(m:Int))=false:=by rw [beq_eq_false_iff_ne];omega
         obtain⟨g,hg⟩:∃ g,N-j=g+1:=⟨N-j-1,by omega⟩
         obtain⟨rj,hrj⟩:∃ r,rs[1+N+j]?=some r:=⟨_,List.getElem?_eq_getElem (by have:=hlenh.out;omega)⟩
         have hokj:=(hokh.out _ (List.mem_of_getElem? hrj)).1
         have hmj:(m:Int)<rj.n:=by rw [(hokh.out _ (List.mem_of_getElem? hrj)).2];omega
         have htj:=htoldh.out _ rj hrj (by omega) (by omega) (by omega)
         have hw4:=IntWalk.i64_in ((1:Int)+(N:Int)+(j:Int)) (by omega)
         have p4:(1:Int)+(N:Int)+(j:Int)<(rs.length:Int):=by have:=hlenh.out;omega
         have p5:0<=(1:Int)+(N:Int)+(j:Int):=by omega
         have p6:((1:Int)+(N:Int)+(j:Int)).toNat=1+N+j:=by omega
         replace hO:=hOh.out
         rw [hg,ranks_cons _ _ _ (by omega),bwMost_cons,regAt_of (show (1:Int)+(N:Int)+(j:Int)=((1+N+j:Nat):Int) from by omega) hrj,show g=N-(j+1) from by omega] at hO
         clear hOh hg
         obtain⟨a0,a1,a2,a3,a4,a5,a6⟩:=hreg.nth hrj
         have hOh:=Hd hO;clear hO hrj;go_wp2_with fail
         clear a0 a1 a2 a3 a4 a5 a6 hcc c_b1
         refine rstepA (notes_regR _ _) hOh.out hK (reg_read_r B p false S2 rj m _ hP hokj ⟨by omega,hmj⟩) ?_
         clear hOh hK hP;intro x o5 S5 wn htm hlf hdn hnn hP hk hK hO
         have hta5:=htm hta
         replace hD:=Nat.lt_of_le_of_lt hlf hD
         replace hn0:S5.nts.length<=100001:=by omega
         replace b1:=b1.keep hk;replace hreg:=hreg.keep hk;clear hk htm hnn hlf
         have hqr:o5=false->(0<=x/\x<=1048576)/\IntKind.i64.wrap (x.tdiv 2)=x / 2/\x.tmod 2=x % 2:=fun ho=>by
          have hxb:=regR_bd hokj (told_ne htj) hta (hdn ho).2.1
          refine⟨hxb,?_,Int.tmod_eq_emod_of_nonneg hxb.1⟩
          rw [Int.tdiv_eq_ediv_of_nonneg hxb.1]
          exact IntWalk.i64_in _ (by omega)
         clear hdn hta
         obtain⟨q,hq⟩:∃ q,IntKind.i64.wrap (x.tdiv 2)=q:=⟨_,rfl⟩
         obtain⟨r,hr⟩:∃ r,x.tmod 2=r:=⟨_,rfl⟩
         rw [hq,hr] at hqr
         by_cases hc:r=bc/\tv<=q
         · have d1:(r==bc)=true:=by rw [beq_iff_eq];exact hc.1
           have d2:decide (tv<=q)=true:=by rw [decide_eq_true_eq];exact hc.2
           have hf:Hid (ROwes R encI B p w ((forP (fun j t=>(regR (regAt rs (1+(N:Int)+j)) m).bind fun x=>.ret (if x % 2=bc then max t (x / 2) else t)) (ranksFrom m (N-(j+1)) ((j:Int)+1)) (IntKind.i64.wrap (q+1)-1)).bind F) o5 S5):=by
            refine Hd ?_
            cases o5 with
            | true=>exact hO.any _
            | false =>
              obtain⟨hxb,e1,e2⟩:=hqr rfl
              rw [IntWalk.i64_in (q+1) (by omega),show q+1-1=q from by omega]
              rw [<- e1,<- e2,if_pos hc.1,show max (tv-1) q=q from by omega] at hO
              exact hO
           have hb5:o5=false->1<=IntKind.i64.wrap (q+1)/\IntKind.i64.wrap (q+1)<=1048577:=fun ho=>by
            obtain⟨hxb,e1,e2⟩:=hqr ho
            rw [IntWalk.i64_in (q+1) (by omega)]
            omega
           clear hqr hc hO
           obtain⟨v,hv⟩:∃ v,IntKind.i64.wrap (q+1)=v:=⟨_,rfl⟩
           rw [hv] at hf hb5
           go_wp2_with fail
           refine⟨⟨j+1,v,o5,S5,by go_num,rfl,by omega,hb5,hP,hK,b1,hreg,fun _=>hD,hta5,hn0,hf⟩,?_⟩
           simp [intOf];omega
         · have hf:Hid (ROwes R encI B p w ((forP (fun j t=>(regR (regAt rs (1+(N:Int)+j)) m).bind fun x=>.ret (if x % 2=bc then max t (x / 2) else t)) (ranksFrom m (N-(j+1)) ((j:Int)+1)) (tv-1)).bind F) o5 S5):=by
            refine Hd ?_
            cases o5 with
            | true=>exact hO.any _
            | false =>
              obtain⟨hxb,e1,e2⟩:=hqr rfl
              rw [<- e1,<- e2] at hO
              by_cases hrb:r=bc
              · rw [if_pos hrb,show max (tv-1) q=tv-1 from by omega] at hO
                exact hO
              · rw [if_neg hrb] at hO
                exact hO
           clear hqr hO
           have hd:(r==bc)=false∨(r==bc)=true/\decide (tv<=q)=false:=by
            by_cases hrb:r=bc
            · exact .inr ⟨by simpa using hrb,by simp;omega⟩
            · exact .inl (by simpa using hrb)
           clear hc
           rcases hd with d1 | ⟨d1,d2⟩
           · go_wp2_with fail
             refine⟨⟨j+1,tv,o5,S5,by go_num,rfl,by omega,fun _=>htv,hP,hK,b1,hreg,fun _=>hD,hta5,hn0,hf⟩,?_⟩
             simp [intOf];omega
           · go_wp2_with fail
             refine⟨⟨j+1,tv,o5,S5,by go_num,rfl,by omega,fun _=>htv,hP,hK,b1,hreg,fun _=>hD,hta5,hn0,hf⟩,?_⟩
             simp [intOf];omega
   · obtain rfl:N=j:=by omega
     have dj:decide ((N:Int)<(N:Int))=false:=by simp
     replace hO:=hOh.out;rw [Nat.sub_self,ranks_zero,forP_nilB] at hO
     have hOh2:=Hd hO
     clear hO hOh;go_wp2_with fail
     go_meet
     exact⟨tv,o2,S2,rfl,htv,hP,hK,b1,hreg,hD,hta,hn0,hOh2⟩
 case rest =>
  clear hP hK b1 hreg hD hta hn0 hOh
  obtain⟨tv,o2,S2,rfl,htv,hP,hK,b1,hreg,hD,hta,hn0,hOh⟩:=hcut
  have hOF:=Hd (show ROwes R encI B p w (bwThrough D rs N m bc (tv-1)) o2 S2 from by rw [<- hFh.out];exact hOh.out)
  clear hOh;replace hO:=hOF.out;unfold bwThrough at hO
  rw [regAt_of (show (1:Int)+(m:Int)=((1+m:Nat):Int) from by omega) hrh.out.2.1,regAt_of (show (1:Int)+(N:Int)+(m:Int)=((1+N+m:Nat):Int) from by omega) hrh.out.2.2,show tv-1+1=tv from by omega] at hO
  have hOh:=Hd hO;clear hO hOF
  obtain⟨_,_,_,_,_,hcc⟩:=hP.cell
  go_upto_if 84 with fail
  go_cut [] (fun wx=>∃ (o3:Bool) (S3:TS),RAt B wx p o3 S3/\KeepR B p w wx/\HeldR wx p z (.cells #[V Z alg,V Z N,V Z mode,V Z base,V Z loc,V Z room] 23)/\RegsAt [3,4,5] wx p b rs/\(o3=false->S3.left<D)/\TameA S3/\S3.nts.length<=100001/\(o3=false->o2=false)/\Hid (ROwes R encI B p w ((regW rc m 0).bind fun _=>(nt 2).bind fun _=>bwIn D rs N m bc tv) o3 S3))
  case first =>
   cases o2 with
   | true =>
     go_wp2_with fail
     go_meet
     exact⟨true,S2,hP,hK,b1,hreg,hD,hta,hn0,(fun h=>by first | exact h | cases h),hOh.out.any _⟩
   | false =>
     replace htv:=htv rfl;replace hD:=hD rfl
     have hw5:=IntWalk.i64_in (2*tv) (by omega)
     have hw6:=IntWalk.i64_in (2*tv+bc) (by omega)
     have c_b1:=b1.cells
     obtain⟨a0,a1,a2,a3,a4,a5,a6⟩:=hreg.nth hrh.out.2.2
     go_wp2_with fail
     clear a0 a1 a2 a3 a4 a5 a6 c_b1 hcc
     refine rstepA (notes_regW _ _ _) hOh.out hK (reg_write_r B p false S2 rm m (2*tv+bc) _ hP hokm ⟨by omega,hmm⟩) ?_
     clear hOh hK hP;intro u o5 S5 wn htm hlf hdn hnn hP hk hK hO;replace hta:=htm hta;replace hD:=Nat.lt_of_le_of_lt hlf hD
     replace hn0:S5.nts.length<=100001:=by omega
     replace b1:=b1.keep hk;replace hreg:=hreg.keep hk;clear hk htm hnn hdn hlf;have hOh:=Hd hO;clear hO;go_wp2_with fail
     go_meet
     exact⟨o5,S5,hP,hK,b1,hreg,fun _=>hD,hta,hn0,(fun _=>by trivial),hOh⟩
  case rest =>
  clear hP hK b1 hreg hD hta hn0 hOh hcc
  obtain⟨o3,S3,hP,hK,b1,hreg,hD,hta,hn0,ho23,hOh⟩:=hcut
  obtain⟨_,_,_,_,_,hcc⟩:=hP.cell
  go_upto_if 104 with fail
  go_cut [] (fun wx=>∃ (o4:Bool) (S4:TS),RAt B wx p o4 S4/\KeepR B p w wx/\HeldR wx p z (.cells #[V Z alg,V Z N,V Z mode,V Z base,V Z loc,V Z room] 23)/\RegsAt [3,4,5] wx p b rs/\(o4=false->S4.left<D)/\TameA S4/\S4.nts.length<=100001/\(o4=false->o2=false)/\Hid (ROwes R encI B p w ((nt 2).bind fun _=>bwIn D rs N m bc tv) o4 S4))
  case first =>
   cases o3 with
   | true =>
     go_wp2_with fail
     go_meet
     exact⟨true,S3,hP,hK,b1,hreg,hD,hta,hn0,(fun h=>by cases h),hOh.out.any _⟩
   | false =>
     replace hD:=hD rfl
     have ho2:=ho23 rfl
     clear ho23
     obtain⟨a0,a1,a2,a3,a4,a5,a6⟩:=hreg.nth hrh.out.2.1
     go_wp2_with fail
     clear a0 a1 a2 a3 a4 a5 a6 hcc
     refine rstepA (notes_regW _ _ _) hOh.out hK (reg_write_r B p false S3 rc m 0 _ hP hokc ⟨by omega,hmc⟩) ?_
     clear hOh hK hP;intro u o5 S5 wn htm hlf hdn hnn hP hk hK hO;replace hta:=htm hta;replace hD:=Nat.lt_of_le_of_lt hlf hD
     replace hn0:S5.nts.length<=100001:=by omega
     replace b1:=b1.keep hk;replace hreg:=hreg.keep hk;clear hk htm hnn hdn hlf;have hOh:=Hd hO;clear hO;go_wp2_with fail
     go_meet
     exact⟨o5,S5,hP,hK,b1,hreg,fun _=>hD,hta,hn0,fun _=>ho2,hOh⟩
  case rest =>
  clear hP hK b1 hreg hD hta hn0 hOh hcc ho23
  obtain⟨o4,S4,hP,hK,b1,hreg,hD,hta,hn0,ho24,hOh⟩:=hcut
  go_wp2_with fail
  refine rstepA (notes_nt 2) hOh.out hK (note_r B p o4 S4 2 _ hP (by unfold maxAns;omega)) ?_
  clear hOh hK hP;intro u o5 S5 wn htm hlf hdn hnn hP hk hK hO;replace hta:=htm hta
  have ho25:o5=false->o2=false:=fun h=>ho24 (hdn h).1
  replace hD:o5=false->S5.left<D:=fun h=>Nat.lt_of_le_of_lt hlf (hD (hdn h).1)
  replace hn0:S5.nts.length<=100002:=by omega
  replace b1:=b1.keep hk;replace hreg:=hreg.keep hk;clear hk htm hnn hdn hlf ho24
  obtain⟨G,hG⟩:∃ G:Unit->Prog Int,G=fun _=>(nt 3).bind fun _=>.ret 0:=⟨_,rfl⟩
  unfold bwIn at hO
  rw [<- hG,Int.toNat_natCast] at hO
  have hOh:=Hd hO
  have hGh:=Hd hG
  clear hO hG
  go_upto_block 2 with fail
  go_cut [] (fun wx=>∃ (o3:Bool) (S3:TS),RAt B wx p o3 S3/\KeepR B p w wx/\HeldR wx p z (.cells #[V Z alg,V Z N,V Z mode,V Z base,V Z loc,V Z room] 23)/\RegsAt [3,4,5] wx p b rs/\(o3=false->S3.left<D)/\TameA S3/\S3.nts.length<=100002/\Hid (ROwes R encI B p w (G ()) o3 S3))
  case first =>
   go_wp2_with fail
   go_loopw [13] (fun i wr=>∃ (j:Nat) (o6:Bool) (S6:TS),i=V Z j/\j<=N/\RAt B wr p o6 S6/\KeepR B p w wr/\HeldR wr p z (.cells #[V Z alg,V Z N,V Z mode,V Z base,V Z loc,V Z room] 23)/\RegsAt [3,4,5] wr p b rs/\(o6=false->S6.left<D)/\TameA S6/\S6.nts.length<=100002/\(o6=false->o2=false)/\Hid (ROwes R encI B p w ((forP (fun j _=>bwFor rs D N m j tv bc) (ranksFrom m (N-j) j) ()).bind G) o6 S6)) (fun i _=>N-(intOf i).toNat)
   case atStart=>exact⟨0,o5,S5,rfl,by omega,hP,hK,b1,hreg,hD,hta,hn0,ho25,hOh⟩
   case round =>
    clear hP hK b1 hreg hD hta hn0 hOh ho25
    obtain⟨j,o6,S6,rfl,hj,hP,hK,b1,hreg,hD,hta,hn0,ho26,hOh⟩:=hrel
    obtain⟨_,_,_,_,_,hcc⟩:=hP.cell
    have c_b1:=b1.cells
    by_cases hjN:j<N
    · have dj:decide ((j:Int)<(N:Int))=true:=by rw [decide_eq_true_eq];omega
      cases o6 with
      | true =>
        have hOh2:=Hd (hOh.out.any (G ()))
        clear hOh;go_wp2_with fail
        go_meet
        exact⟨true,S6,hP,hK,b1,hreg,hD,hta,hn0,hOh2⟩
      | false =>
        have ho2:=ho26 rfl
        replace htv:=htv ho2;replace hD:=hD rfl;clear ho26
        obtain⟨g,hg⟩:∃ g,N-j=g+1:=⟨N-j-1,by omega⟩
        by_cases hjm:j=m
        · subst hjm
          have djm:((j:Int) != (j:Int))=false:=by simp
          replace hO:=hOh.out
          rw [hg,ranks_skip,show g=N-(j+1) from by omega] at hO
          have hf:=Hd hO
          clear hO hOh hg;go_wp2_with fail
          refine⟨⟨j+1,false,S6,by go_num,by omega,hP,hK,b1,hreg,fun _=>hD,hta,hn0,fun _=>ho2,hf⟩,?_⟩
          simp [intOf];omega
        · have djm:((j:Int) != (m:Int))=true:=by rw [bne_iff_ne];omega
          have hw5:=IntWalk.i64_in (2*tv) (by omega)
          have hw6:=IntWalk.i64_in (2*tv+bc) (by omega)
          replace hO:=hOh.out
          rw [hg,ranks_cons _ _ _ (by omega),forP_consB,show g=N-(j+1) from by omega] at hO
          have hOh2:=Hd hO
          clear hO hOh hg;go_wp2_with fail
          clear hcc c_b1
          have hp1:IntKind.i64.wrap ((2*tv+bc).tdiv 2)=tv:=by
           rw [Int.tdiv_eq_ediv_of_nonneg (by omega),IntWalk.i64_in _ (by omega)]
           omega
          have hp2:(2*tv+bc).tmod 2=bc:=by
           rw [Int.tmod_eq_emod_of_nonneg (by omega)]
           omega
          refine rstepA (notes_bwFor _ _ _ _ _ _ _) hOh2.out hK (bwwait_r B p D N m j false S6 alg mode base loc room tv bc (2*tv+bc) b c rs _ hP hreg h1 h2 hm1 hjN hjm hlenh.out ⟨by omega,by omega⟩ hokh.out htoldh.out hta hD hp1 hp2) ?_
          clear hOh2 hK hP;intro u o7 S7 wn htm hlf hdn hnn hP hk hK hO;replace hta:=htm hta;replace hD:=Nat.lt_of_le_of_lt hlf hD
          replace hn0:S7.nts.length<=100002:=by omega
          replace b1:=b1.keep hk;replace hreg:=hreg.keep hk;clear hk htm hnn hdn hlf hp1 hp2
          have hf:=Hd hO
          clear hO;go_wp2_with fail
          refine⟨⟨j+1,o7,S7,by go_num,by omega,hP,hK,b1,hreg,fun _=>hD,hta,hn0,fun _=>ho2,hf⟩,?_⟩
          simp [intOf];omega
    · obtain rfl:N=j:=by omega
      have dj:decide ((N:Int)<(N:Int))=false:=by simp
      replace hO:=hOh.out;rw [Nat.sub_self,ranks_zero,forP_nilB] at hO
      have hOh2:=Hd hO
      clear hO hOh;go_wp2_with fail
      go_meet
      exact⟨o6,S6,hP,hK,b1,hreg,hD,hta,hn0,hOh2⟩
  case rest =>
  clear hP hK b1 hreg hD hta hn0 hOh ho25
  obtain⟨o6,S6,hP,hK,b1,hreg,hD,hta,hn0,hOh⟩:=hcut
  replace hO:=hOh.out;rw [hGh.out] at hO;clear hOh b1 hreg hD hta;have hOh:=Hd hO;clear hO;go_wp2_with fail
  refine rstepN (notes_nt 3) hOh.out hK (note_r B p o6 S6 3 _ hP (by unfold maxAns;omega)) ?_
  clear hOh hK hP;intro u o7 S7 w7 _ _ _ hP _ hK hO
  have hf:R (.returned (encI 0)) w7:=hO.ret hP hK
  clear hO hP hK;go_wp2_with fail
  first | exact hf | (go_ret;exact hf)
end Go.Proofs.YtbaajjkopdjbgaaGreat
namespace Kv
theorem filWait_succ (r v:Reg)(me level:Int)(n:Nat):filWait r v me level (n+1)=(regR r me).bind fun x=>if x<level then .ret () else (regR v me).bind fun y=>if y=me+1 then filWait r v me level n else .ret ():=rfl
end Kv
namespace Go.Proofs.YtbaajjkopdjbgaaGreat
open Go.RowKit Kv
set_option maxRecDepth 100000 in
set_option maxHeartbeats 1000000 in
theorem filwait_r (B p D:Nat)(o:Bool)(S:TS)(r v:Reg)(me level:Int)(w:World)(h:RAt B w p o S)(hr:r.ok)(hv:v.ok)(hm0:0<=me)(hm9:me<=100)(hmr:me<r.n)(hmv:me<v.n)(ht:r.told me)(hD:o=false->S.left<D) :
  Calls Tryz.prog 207 #[.pointer (some ⟨p,0,none⟩),encR r,encR v,V Z me,V Z level] w (RPost encU B p w (filWait r v me level D) o S):=by
 generalize hR:RPost encU B p w (filWait r v me level D) o S=R
 have hO:ROwes R encU B p w (filWait r v me level D) o S:=hR▸rowes _ _ _ _ _ _ _
 clear hR
 unfold encR
 obtain⟨b1,b2,hK,hP⟩:=h.entry2 (.cells #[V Z r.kind,V Z r.base,V Z r.loc,V Z r.n,V Z r.wr,V Z r.rd,V Z r.top] 67) (.cells #[V Z v.kind,V Z v.base,V Z v.loc,V Z v.n,V Z v.wr,V Z v.rd,V Z v.top] 67)
 have c_b1:=b1.cells;have c_b2:=b2.cells;clear h
 go_enter Tryz.func207,Tryz.ntmps207
 go_wp2_with fail
 clear c_b1 c_b2
 generalize hbb:w.heap.size=b at *
 generalize World.alloc (World.alloc _ _) _=W0 at *
 have hOh:=Hd hO;clear hO hbb
 go_loopw [] (fun wr=>∃ (n:Nat) (o2:Bool) (S2:TS),RAt B wr p o2 S2/\KeepR B p w wr/\HeldR wr p b (.cells #[V Z r.kind,V Z r.base,V Z r.loc,V Z r.n,V Z r.wr,V Z r.rd,V Z r.top] 67)/\HeldR wr p (b+1) (.cells #[V Z v.kind,V Z v.base,V Z v.loc,V Z v.n,V Z v.wr,V Z v.rd,V Z v.top] 67)/\Hid (ROwes R encU B p w (filWait r v me level n) o2 S2)/\(o2=false->S2.left<n)) (fun wr=>leftR wr p)
 case atStart=>exact⟨D,o,S,hP,hK,b1,b2,hOh,hD⟩
 case round =>
  clear hP hK b1 b2 hOh hD
  obtain⟨n,o2,S2,hP,hK,b1,b2,hO,hD⟩:=hrel
  replace hO:=hO.out
  have hlw:=Hd hP.leftR
  obtain⟨_,_,_,_,_,hcc⟩:=hP.cell
  cases o2 with
  | true =>
    have hf:R (.returned (encU ())) wr:=hO.over () hP hK
    clear hO hP hK hD b1 b2;go_wp2_with fail
    first | exact hf | (refine bodyPost_ret (results_none rfl _ _ _) rfl ?_;exact hf)
  | false =>
    have hD:=hD rfl
    cases n with
    | zero=>omega
    | succ n =>
      rw [filWait_succ] at hO;have c_b1:=b1.cells;have hOh:=Hd hO;clear hO;go_wp2_with fail
      replace hO:=hOh.out;clear hcc c_b1 hOh
      refine rstepL hO hK (reg_read_r B p false S2 r me _ hP hr ⟨hm0,hmr⟩) ?_
      clear hO hK hP;intro x o3 S3 w4 hlf hlt hP hk hK hO;replace b1:=b1.keep hk;replace b2:=b2.keep hk;clear hk
      obtain⟨_,_,_,_,_,hcc⟩:=hP.cell
      by_cases hx:x<level
      · have dx:decide (x<level)=true:=by simpa using hx
        rw [if_pos hx] at hO
        have hf:R (.returned (encU ())) w4:=hO.ret hP hK
        clear hO hP hK hcc hx b1 b2;go_wp2_with fail
        first | exact hf | (refine bodyPost_ret (results_none rfl _ _ _) rfl ?_;exact hf)
      · have dx:decide (x<level)=false:=by simpa using hx
        rw [if_neg hx] at hO;clear hx
        cases o3 with
        | true =>
          have hlw2:=Hd hP.leftR
          have hOh:=Hd hO;clear hO;go_wp2_with fail
          refine⟨⟨n,true,S3,hP,hK,b1,b2,hOh.out.any _,fun h=>by cases h⟩,?_⟩
          rw [hlw.out,hlw2.out]
          simp
          omega
        | false =>
          replace hlt:=(hlt rfl).2 (asks_regR _ _ ht)
          have c_b2:=b2.cells;have hOh:=Hd hO;clear hO;go_wp2_with fail
          replace hO:=hOh.out;clear hcc c_b2 hOh
          refine rstepL hO hK (reg_read_r B p false S3 v me _ hP hv ⟨hm0,hmv⟩) ?_
          clear hO hK hP;intro y o4 S4 w5 hlf4 _ hP hk hK hO;replace b1:=b1.keep hk;replace b2:=b2.keep hk;clear hk
          by_cases hy:y=me+1
          · have dy:(y != me+1)=false:=by simpa using hy
            rw [if_pos hy] at hO
            have hlw2:=Hd hP.leftR
            have hOh:=Hd hO;clear hO hy;go_wp2_with fail
            refine⟨⟨n,o4,S4,hP,hK,b1,b2,hOh,fun _=>by omega⟩,?_⟩
            rw [hlw.out,hlw2.out]
            simp only [Bool.false_eq_true,if_false]
            split <;> omega
          · have dy:(y != me+1)=true:=by simpa using hy
            rw [if_neg hy] at hO
            have hf:R (.returned (encU ())) w5:=hO.ret hP hK
            clear hO hP hK hy b1 b2;go_wp2_with fail
            first | exact hf | (refine bodyPost_ret (results_none rfl _ _ _) rfl ?_;exact hf)
set_option maxRecDepth 100000 in
set_option maxHeartbeats 2000000 in
theorem filacq_r (B p N D:Nat)(o:Bool)(S:TS)(alg mode base loc room:Int)(m:Nat)(rs:List Reg)(w:World)(h:RAt B w p o S)(h1:1<=N)(h2:N<=8)(hm1:m<N)(hl:layM (filWants N) N mode base loc=some rs)
  (hok:∀ r∈rs,r.ok/\r.n=N)(htold:∀ (i:Nat) r,rs[i]?=some r->i≠m->2<=N->r.told m)(hD:S.left<D)(hn0:S.nts.length<=100000) :
  Calls Tryz.prog 111 #[.pointer (some ⟨p,0,none⟩),.agg #[V Z alg,V Z N,V Z mode,V Z base,V Z loc,V Z room],V Z m] w (RPost encI B p w (filA D rs N m) o S):=by
 have hlen:=layM_len hl
 rw [filWants_len] at hlen
 generalize hR:RPost encI B p w (filA D rs N m) o S=R
 have hO:ROwes R encI B p w (filA D rs N m) o S:=hR▸rowes _ _ _ _ _ _ _
 clear hR
 obtain⟨b1,hK,hP⟩:=h.entry (.cells #[V Z alg,V Z N,V Z mode,V Z base,V Z loc,V Z room] 23)
 have c_b1:=b1.cells;clear h;unfold filA at hO
 go_enter Tryz.func111,Tryz.ntmps111
 go_wp2_with fail
 refine (filregs_r alg mode base loc room N rs _ h1 h2 hl).mono ?_
 rintro e w1 ⟨b,c,rfl,hge,hb,hcells,q1,q2,hx⟩
 have hreg:RegsAt [3,4,5] w1 p b rs:=⟨hb,hP.fresh hx hge,hcells⟩
 replace hK:=hK.trans (Keep.of_ext hx hP.lt hP.le);replace b1:=b1.ext hx hP.lt;replace hP:=hP.ext hx
 have hlh:=Hd hlen
 clear hx hcells hge hb c_b1 hlen hl
 generalize w.heap.size=z at *
 go_wp2_with fail
 refine rstepN (notes_nt 1) hO hK (note_r B p o S 1 _ hP (by unfold maxAns;omega)) ?_
 clear hO hK hP;intro u o1 S1 w2 hlf _ hnn hP hk hK hO;replace hD:=Nat.lt_of_le_of_lt hlf hD
 replace hn0:S1.nts.length<=100001:=by omega
 replace hreg:=hreg.keep hk;replace b1:=b1.keep hk;clear hk hlf hnn
 obtain⟨M,hM⟩:∃ M,M=N-1:=⟨_,rfl⟩
 rw [show ((N:Int)-1).toNat=M from by omega] at hO
 have hOh:=Hd hO
 have hNM:=Hd hM
 clear hO hM;go_wp2_with fail
 go_loopw [8] (fun i wr=>∃ (k:Nat) (o2:Bool) (S2:TS),i=V Z ((k:Int)+1)/\k<=M/\RAt B wr p o2 S2/\KeepR B p w wr/\HeldR wr p z (.cells #[V Z alg,V Z N,V Z mode,V Z base,V Z loc,V Z room] 23)/\RegsAt [3,4,5] wr p b rs/\S2.left<D/\S2.nts.length<=100001/\Hid (ROwes R encI B p w ((forP (fun level _=>filLevel D rs N m level) (ranksFrom (-1) (M-k) ((k:Int)+1)) ()).bind fun _=>(nt 3).bind fun _=>.ret 0) o2 S2)) (fun i _=>M+1-(intOf i).toNat)
 case atStart=>exact⟨0,o1,S1,rfl,by omega,hP,hK,b1,hreg,hD,hn0,hOh⟩
 case round =>
  clear hP hK hreg b1 hD hn0 hOh
  obtain⟨k,o2,S2,rfl,hk,hP,hK,b1,hreg,hD,hn0,hO⟩:=hrel
  replace hO:=hO.out
  obtain⟨_,_,_,_,_,hcc⟩:=hP.cell
  have c_b1:=b1.cells
  by_cases hlt:k<M
  · have dlt:decide ((k:Int)+1<(N:Int))=true:=by rw [decide_eq_true_eq];have:=hNM.out;omega
    cases o2 with
    | true =>
      replace hO:=hO.any ((nt 3).bind fun _=>.ret (0:Int))
      have hOh:=Hd hO;clear hO;go_wp2_with fail
      replace hO:=hOh.out;clear hcc c_b1
      refine rstepN (notes_nt 3) hO hK (note_r B p true S2 3 _ hP (by unfold maxAns;omega)) ?_
      clear hO hK hP;intro u o3 S3 w3 _ _ _ hP _ hK hO
      have hf:R (.returned (encI 0)) w3:=hO.ret hP hK
      clear hO hP hK hOh;go_wp2_with fail
      first | exact hf | (go_ret;exact hf)
    | false =>
      have hNe:k+2<=N:=by have:=hNM.out;omega
      have hlen:=hlh.out
      obtain⟨r0,hr0⟩:∃ r,rs[m]?=some r:=⟨_,List.getElem?_eq_getElem (by omega)⟩
      obtain⟨rv,hrv⟩:∃ r,rs[N+k]?=some r:=⟨_,List.getElem?_eq_getElem (by omega)⟩
      have hok0:=(hok _ (List.mem_of_getElem? hr0)).1
      have hokv:=(hok _ (List.mem_of_getElem? hrv)).1
      have hm0:(m:Int)<r0.n:=by rw [(hok _ (List.mem_of_getElem? hr0)).2];omega
      have hmv:(m:Int)<rv.n:=by rw [(hok _ (List.mem_of_getElem? hrv)).2];omega
      obtain⟨a0,a1,a2,a3,a4,a5,a6⟩:=hreg.nth hr0
      have e0r:=regAt_of (i:=(m:Int)) rfl hr0
      have evr:=regAt_of (i:=(N:Int)-1+((k:Int)+1)) (by omega) hrv
      rw [show M-k=(M-(k+1))+1 from by omega,ranks_cons _ _ _ (by omega),forP_consB] at hO
      rw [filLevel_bind,e0r,evr,Int.toNat_natCast] at hO
      have hk8:k<8:=by omega
      have hN2:2<=N:=by omega
      have hml:m<rs.length:=by omega
      have hNl:N+k<rs.length:=by omega
      obtain⟨F,hF⟩:∃ F:Unit->Prog Int,F=(fun _:Unit=>(forP (fun level _=>filLevel D rs N m level) (ranksFrom (-1) (M-(k+1)) ((k:Int)+1+1)) ()).bind fun _=>(nt 3).bind fun _=>Prog.ret (0:Int)):=⟨_,rfl⟩
      rw [<- hF] at hO
      have hFh:=Hd hF
      have hOh:=Hd hO
      have hrh:=Hd (And.intro hr0 (And.intro hrv hlen))
      clear hO hF hr0 hrv hlen hNe e0r evr;go_wp2_with fail
      replace hO:=hOh.out;clear hOh a0 a1 a2 a3 a4 a5 a6 hcc c_b1
      refine rstepN (notes_regW _ _ _) hO hK (reg_write_r B p false S2 r0 m (k+1) _ hP hok0 ⟨by omega,hm0⟩) ?_
      clear hO hK hP;intro u o3 S3 w3 hlf _ hnn hP hk1 hK hO;replace hD:=Nat.lt_of_le_of_lt hlf hD;replace hn0:=Nat.le_trans hnn hn0;replace hreg:=hreg.keep hk1;replace b1:=b1.keep hk1;clear hk1 hlf hnn
      obtain⟨_,_,_,_,_,hcc⟩:=hP.cell
      have hOh:=Hd hO;clear hO
      go_upto_if 39 with fail
      go_cut [] (fun wx=>∃ (o4:Bool) (S4:TS),RAt B wx p o4 S4/\KeepR B p w wx/\HeldR wx p z (.cells #[V Z alg,V Z N,V Z mode,V Z base,V Z loc,V Z room] 23)/\RegsAt [3,4,5] wx p b rs/\S4.left<D/\S4.nts.length<=100001/\Hid (ROwes R encI B p w ((forP (fun j _=>filWait (regAt rs j) rv m ((k:Int)+1) D) (ranksFrom m N 0) ()).bind F) o4 S4))
      case first =>
       cases o3 with
       | true =>
         go_wp2_with fail
         go_meet
         exact⟨true,S3,hP,hK,b1,hreg,hD,hn0,hOh.out.any _⟩
       | false =>
         have hcv:=hreg.nth hrh.out.2.1
         rw [show (N+k)*7=(N-1+(k+1))*7 from by omega] at hcv
         obtain⟨e0,e1,e2,e3,e4,e5,e6⟩:=hcv
         have c_b1:=b1.cells;go_wp2_with fail
         replace hO:=hOh.out;clear hOh c_b1 e0 e1 e2 e3 e4 e5 e6 hcc
         refine rstepN (notes_regW _ _ _) hO hK (reg_write_r B p false S3 rv m (m+1) _ hP hokv ⟨by omega,hmv⟩) ?_
         clear hO hK hP;intro u o4 S4 w4 hlf _ hnn hP hk1 hK hO;replace hD:=Nat.lt_of_le_of_lt hlf hD;replace hn0:=Nat.le_trans hnn hn0;replace hreg:=hreg.keep hk1;replace b1:=b1.keep hk1;have hOh:=Hd hO;clear hk1 hlf hnn hO;go_wp2_with fail
         go_meet
         exact⟨o4,S4,hP,hK,b1,hreg,hD,hn0,hOh⟩
      case rest =>
       clear hP hK b1 hreg hD hn0 hOh hcc
       obtain⟨o4,S4,hP,hK,b1,hreg,hD,hn0,hO⟩:=hcut
       go_wp2_with fail
       go_loopw [9] (fun i wr=>∃ (j:Nat) (o5:Bool) (S5:TS),i=V Z j/\j<=N/\RAt B wr p o5 S5/\KeepR B p w wr/\HeldR wr p z (.cells #[V Z alg,V Z N,V Z mode,V Z base,V Z loc,V Z room] 23)/\RegsAt [3,4,5] wr p b rs/\S5.left<D/\S5.nts.length<=100001/\Hid (ROwes R encI B p w ((forP (fun j _=>filWait (regAt rs j) rv m ((k:Int)+1) D) (ranksFrom m (N-j) j) ()).bind F) o5 S5)) (fun i _=>N-(intOf i).toNat)
       case atStart=>exact⟨0,o4,S4,rfl,by omega,hP,hK,b1,hreg,hD,hn0,hO⟩
       case round =>
        clear hP hK hreg b1 hD hn0 hO
        obtain⟨j,o5,S5,rfl,hj,hP,hK,b1,hreg,hD,hn0,hO⟩:=hrel
        replace hO:=hO.out
        obtain⟨_,_,_,_,_,hcc⟩:=hP.cell
        have c_b1:=b1.cells
        by_cases hjN:j<N
        · cases o5 with
          | true =>
            have hf:=Hd (hO.any ((forP (fun level _=>filLevel D rs N m level) (ranksFrom (-1) (M-(k+1)) (((k+1:Nat):Int)+1)) ()).bind fun _=>(nt 3).bind fun _=>Prog.ret (0:Int)))
            clear hO;go_wp2_with fail
            refine⟨⟨k+1,true,S5,by go_num,by omega,hP,hK,b1,hreg,hD,hn0,hf⟩,?_⟩
            simp [intOf];omega
          | false =>
            obtain⟨g,hg⟩:∃ g,N-j=g+1:=⟨N-j-1,by omega⟩
            by_cases hjm:j=m
            · subst hjm
              rw [hg,ranks_skip,show g=N-(j+1) from by omega] at hO
              clear hg
              have hf:=Hd hO
              clear hO;go_wp2_with fail
              refine⟨⟨j+1,false,S5,by go_num,by omega,hP,hK,b1,hreg,hD,hn0,hf⟩,?_⟩
              simp [intOf];omega
            · have djm:((j:Int) != (m:Int))=true:=by rw [bne_iff_ne];omega
              obtain⟨rj,hrj⟩:∃ r,rs[j]?=some r:=⟨_,List.getElem?_eq_getElem (by omega)⟩
              have hokj:=(hok _ (List.mem_of_getElem? hrj)).1
              have hmj:(m:Int)<rj.n:=by rw [(hok _ (List.mem_of_getElem? hrj)).2];omega
              have htj:=htold j rj hrj hjm (by omega)
              rw [hg,ranks_cons _ _ _ (by omega),forP_consB,regAt_of rfl hrj,show g=N-(j+1) from by omega] at hO
              have hjl:j<rs.length:=by omega
              have hrjh:=Hd hrj
              have hOh:=Hd hO;clear hg hrj hO;go_wp2_with fail
              have hS:∀ w',RegsAt [3,4,5] w' p b rs->HeldR w' p z (.cells #[V Z alg,V Z N,V Z mode,V Z base,V Z loc,V Z room] 23)->((w'.cell? ⟨b,j*7,none⟩=some (V Z rj.kind)/\w'.cell? ⟨b,j*7+1,none⟩=some (V Z rj.base)/\w'.cell? ⟨b,j*7+2,none⟩=some (V Z rj.loc)/\w'.cell? ⟨b,j*7+3,none⟩=some (V Z rj.n)/\w'.cell? ⟨b,j*7+4,none⟩=some (V Z rj.wr)/\w'.cell? ⟨b,j*7+5,none⟩=some (V Z rj.rd)/\w'.cell? ⟨b,j*7+6,none⟩=some (V Z rj.top))/\(w'.cell? ⟨b,(N-1+(k+1))*7,none⟩=some (V Z rv.kind)/\w'.cell? ⟨b,(N-1+(k+1))*7+1,none⟩=some (V Z rv.base)/\w'.cell? ⟨b,(N-1+(k+1))*7+2,none⟩=some (V Z rv.loc)/\w'.cell? ⟨b,(N-1+(k+1))*7+3,none⟩=some (V Z rv.n)/\w'.cell? ⟨b,(N-1+(k+1))*7+4,none⟩=some (V Z rv.wr)/\w'.cell? ⟨b,(N-1+(k+1))*7+5,none⟩=some (V Z rv.rd)/\w'.cell? ⟨b,(N-1+(k+1))*7+6,none⟩=some (V Z rv.top))/\(∀ i,w'.cell? ⟨z,i,none⟩=(#[V Z alg,V Z N,V Z mode,V Z base,V Z loc,V Z room]:Array Value)[i]?)):=fun w' y1 y2=>by
               obtain⟨t0,t1,t2,t3,t4,t5,t6⟩:=y1.nth hrjh.out
               have hcv:=y1.nth hrh.out.2.1
               rw [show (N+k)*7=(N-1+(k+1))*7 from by omega] at hcv
               obtain⟨e0,e1,e2,e3,e4,e5,e6⟩:=hcv
               exact⟨⟨t0,t1,t2,t3,t4,t5,t6⟩,⟨e0,e1,e2,e3,e4,e5,e6⟩,y2.cells⟩
              clear hcc c_b1;replace hO:=hOh.out;clear hOh;replace hP:=hP.drew;replace hK:=hK.drew;replace b1:=b1.drew
              replace hreg:=hreg.extL (Ext.refl _).drew hP.lt
              have hw1:=IntWalk.i64_in ((N:Int)-1) (by omega)
              have hw2:=IntWalk.i64_in ((N:Int)-1+((k:Int)+1)) (by omega)
              have hi2:(N:Int)-1+((k:Int)+1)<(rs.length:Int):=by omega
              have hi0:0<=(N:Int)-1+((k:Int)+1):=by omega
              have hi1:((N:Int)-1+((k:Int)+1)).toNat=N-1+(k+1):=by omega
              refine wp_region_held_drew (S:=fun w'=>((w'.cell? ⟨b,j*7,none⟩=some (V Z rj.kind)/\w'.cell? ⟨b,j*7+1,none⟩=some (V Z rj.base)/\w'.cell? ⟨b,j*7+2,none⟩=some (V Z rj.loc)/\w'.cell? ⟨b,j*7+3,none⟩=some (V Z rj.n)/\w'.cell? ⟨b,j*7+4,none⟩=some (V Z rj.wr)/\w'.cell? ⟨b,j*7+5,none⟩=some (V Z rj.rd)/\w'.cell? ⟨b,j*7+6,none⟩=some (V Z rj.top))/\(w'.cell? ⟨b,(N-1+(k+1))*7,none⟩=some (V Z rv.kind)/\w'.cell? ⟨b,(N-1+(k+1))*7+1,none⟩=some (V Z rv.base)/\w'.cell? ⟨b,(N-1+(k+1))*7+2,none⟩=some (V Z rv.loc)/\w'.cell? ⟨b,(N-1+(k+1))*7+3,none⟩=some (V Z rv.n)/\w'.cell? ⟨b,(N-1+(k+1))*7+4,none⟩=some (V Z rv.wr)/\w'.cell? ⟨b,(N-1+(k+1))*7+5,none⟩=some (V Z rv.rd)/\w'.cell? ⟨b,(N-1+(k+1))*7+6,none⟩=some (V Z rv.top))/\(∀ i,w'.cell? ⟨z,i,none⟩=(#[V Z alg,V Z N,V Z mode,V Z base,V Z loc,V Z room]:Array Value)[i]?))) rfl (hS _ hreg b1) (fun hHeld=>?_)
              refine tkb 0 ?_
              iterate 15
               refine tkn (v:=?_) rfl (by kernel_rfl) (fun _ _ _ h=>h) (by assumption) ?_ ?_
               rotate_left
               · (intro w hSw;(try dsimp only at hSw);go_simp;try with_reducible rfl)
               try simp only [put_pack]
              refine tke ?_
              refine wpAnyH_ready (rs:=[15]) (by kernel_rfl) (by simp) ?_
              refine AllReadyH.cons rfl (fun K hKK=>?_) (AllReadyH.nil)
              go_simp
              refine rstepN (notes_filWait _ _ _ _ _) hO hK (filwait_r B p D false S5 rj rv m (k+1) _ hP hokj hokv (by omega) (by omega) hmj hmv htj (fun _=>hD)) ?_
              clear hO hK hP;intro u o6 S6 w6 hlf _ hnn hP hk1 hK hO;replace hD:=Nat.lt_of_le_of_lt hlf hD;replace hn0:=Nat.le_trans hnn hn0;replace hreg:=hreg.keep hk1;replace b1:=b1.keep hk1;clear hk1 hlf hnn
              refine hKK.out _ _ (hS _ hreg b1) (fun hHeld=>?_)
              clear hKK K
              try dsimp only
              refine wpAnyH_done (by kernel_rfl) ?_ _
              go_simp
              have hf:=Hd hO
              clear hO hS;go_wp2_with fail
              refine⟨⟨j+1,o6,S6,by go_num,by omega,hP,hK,b1,hreg,hD,hn0,hf⟩,?_⟩
              simp [intOf];omega
        · obtain rfl:j=N:=by omega
          rw [Nat.sub_self,ranks_zero,forP_nilB,hFh.out] at hO
          have hf:=Hd (show ROwes R encI B p w ((forP (fun level _=>filLevel D rs j m level) (ranksFrom (-1) (M-(k+1)) (((k+1:Nat):Int)+1)) ()).bind fun _=>(nt 3).bind fun _=>Prog.ret (0:Int)) o5 S5 from by
           rw [show (((k+1:Nat):Int)+1)=(k:Int)+1+1 from by omega]
           exact hO)
          clear hO;go_wp2_with fail
          refine⟨⟨k+1,o5,S5,by go_num,by omega,hP,hK,b1,hreg,hD,hn0,hf⟩,?_⟩
          simp [intOf];omega
  · obtain rfl:k=M:=by omega
    have dlt:decide ((k:Int)+1<(N:Int))=false:=by rw [decide_eq_false_iff_not];have:=hNM.out;omega
    rw [Nat.sub_self,ranks_zero,forP_nilB] at hO;have hOh:=Hd hO;clear hO;go_wp2_with fail
    replace hO:=hOh.out;clear hcc c_b1
    refine rstepN (notes_nt 3) hO hK (note_r B p o2 S2 3 _ hP (by unfold maxAns;omega)) ?_
    clear hO hK hP;intro u o3 S3 w3 _ _ _ hP _ hK hO
    have hf:R (.returned (encI 0)) w3:=hO.ret hP hK
    clear hO hP hK hOh;go_wp2_with fail
    first | exact hf | (go_ret;exact hf)
set_option maxRecDepth 100000 in
theorem filrel_r (B p N:Nat)(o:Bool)(S:TS)(alg mode base loc room:Int)(m:Nat)(rs:List Reg)(w:World)(h:RAt B w p o S)(h1:1<=N)(h2:N<=8)(hm1:m<N)(hl:layM (filWants N) N mode base loc=some rs)
  (hok:∀ r∈rs,r.ok/\r.n=N)(hn0:S.nts.length<=100000) :
  Calls Tryz.prog 118 #[.pointer (some ⟨p,0,none⟩),.agg #[V Z alg,V Z N,V Z mode,V Z base,V Z loc,V Z room],V Z m] w (RPost encU B p w (filR rs m) o S):=by
 have hlen:=layM_len hl
 rw [filWants_len] at hlen
 generalize hR:RPost encU B p w (filR rs m) o S=R
 have hO:ROwes R encU B p w (filR rs m) o S:=hR▸rowes _ _ _ _ _ _ _
 clear hR
 obtain⟨b1,hK,hP⟩:=h.entry (.cells #[V Z alg,V Z N,V Z mode,V Z base,V Z loc,V Z room] 23)
 have c_b1:=b1.cells;clear h;unfold filR at hO
 obtain⟨r0,hr0⟩:∃ r,rs[m]?=some r:=⟨_,List.getElem?_eq_getElem (by omega)⟩
 have hok0:=(hok _ (List.mem_of_getElem? hr0)).1
 have hm0:(m:Int)<r0.n:=by rw [(hok _ (List.mem_of_getElem? hr0)).2];omega
 have hml:m<rs.length:=by omega
 rw [regAt_of rfl hr0] at hO
 have hrh:=Hd hr0
 have hlM:=Hd hl
 clear hlen hr0 hok hl
 go_enter Tryz.func118,Tryz.ntmps118
 go_wp2_with fail
 refine rstepN (notes_nt 5) hO hK (note_r B p o S 5 _ hP (by unfold maxAns;omega)) ?_
 clear hO hK hP c_b1;intro u o1 S1 w2 _ _ _ hP hk hK hO;replace b1:=b1.keep hk;have c_b1:=b1.cells;clear hk;go_wp2_with fail
 refine (filregs_r alg mode base loc room N rs _ h1 h2 hlM.out).mono ?_
 rintro e w1 ⟨b,c,rfl,hge,hb,hcells,q1,q2,hx⟩
 have hreg:RegsAt [3,4,5] w1 p b rs:=⟨hb,hP.fresh hx hge,hcells⟩
 replace hK:=hK.trans (Keep.of_ext hx hP.lt hP.le);replace hP:=hP.ext hx;clear hx hcells hge hb c_b1 b1
 obtain⟨a0,a1,a2,a3,a4,a5,a6⟩:=hreg.nth hrh.out
 go_wp2_with fail
 clear a0 a1 a2 a3 a4 a5 a6 hrh hreg
 refine rlast hO hK (reg_write_r B p o1 S1 r0 m 0 _ hP hok0 ⟨by omega,hm0⟩) ?_
 clear hO hK hP;intro u o2 S2 w3 hP hk hK hO
 have hf:R (.returned (encU u)) w3:=hO.ret hP hK
 clear hO hP hK hk;go_wp2_with fail
 first | exact hf | (refine bodyPost_ret (results_none rfl _ _ _) rfl ?_;exact hf)
end Go.Proofs.YtbaajjkopdjbgaaGreat
