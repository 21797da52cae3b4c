/-
  RwRowSaid: part 8 of its proof.
-/
import Derived.Test.YtbaajjkopdjbgaaGreatJRwRowSaid7
import Derived.BigQuiet
import Derived.Deep.QuietTactic
import Derived.Deep.CutBlock
import Derived.Deep.DeepCutAuto
import Derived.Laws.Rows
import Derived.Laws.Cells
import Derived.Deep.WholeRow
import Derived.ProofKit
import Derived.Deep.MidRow
import Derived.Laws.MakeOwn
open Go.Value renaming int -> V
open Go.IntKind renaming i64 -> Z
namespace Go.Proofs.YtbaajjkopdjbgaaGreat
open Go.RowKit Kv
theorem onethr_p (alg N mode base loc room:Int)(w:World)(h1:1<=N/\N<=8) :
  Calls Tryz.prog 373 #[.agg #[V Z alg,V Z N,V Z mode,V Z base,V Z loc,V Z room]] w fun e w'=>e=.returned (V Z N)/\Ext w w':=by
 have e1:min (max N 1) 8=N:=by omega
 have hX:=Ext.refl w
 have b1:=Blk.new w (.cells #[V Z alg,V Z N,V Z mode,V Z base,V Z loc,V Z room] 23)
 replace hX:=hX.alloc (.cells #[V Z alg,V Z N,V Z mode,V Z base,V Z loc,V Z room] 23)
 have c_b1:=b1.cells
 go_enter Tryz.func373,Tryz.ntmps373
 go_wp2_with fail
 first | go_ret2 | go_ret
 exact⟨rfl,hX⟩
set_option maxRecDepth 100000 in
set_option maxHeartbeats 4000000 in
theorem oneacq_p (B p N D:Nat)(S:TS)(alg mode base loc room:Int)(m:Nat)(w:World)(h:Plays B w p S)(h1:1<=N)(h2:N<=8)(hm1:m<N)(hba:0<=base/\base<=32768)
  (hD:S.left<D)(hn0:S.nts.length<=100000) :
  Calls Tryz.prog 370 #[.pointer (some ⟨p,0,none⟩),.agg #[V Z alg,V Z N,V Z mode,V Z base,V Z loc,V Z room],V Z m] w (Post encI B p w ((oneA D base N m).run S)):=by
 generalize hR:Post encI B p w ((oneA D base N m).run S)=R
 have hO:Owes R encI B p w ((oneA D base N m).run S):=hR▸owes _ _ _ _ _
 clear hR
 obtain⟨b1,hK,hP⟩:=h.entry (.cells #[V Z alg,V Z N,V Z mode,V Z base,V Z loc,V Z room] 23)
 have c_b1:=b1.cells;clear h;unfold oneA at hO
 have hth:=fun w=>onethr_p alg N mode base loc room w (by omega)
 have hw2:=IntWalk.i64_in (base+(m:Int)) (by omega)
 have hOh:=Hd hO;clear hO
 go_enter Tryz.func370,Tryz.ntmps370
 obtain⟨F,hF⟩:∃ F:Unit->Prog Int,F=fun _=>(nt 2).bind fun _=>(forP (fun j _=>zeroC (base+j) D) (ranksFrom (-1) (N-1-m) ((m:Int)+1)) ()).bind fun _=>(nt 3).bind fun _=>.ret 0:=⟨_,rfl⟩
 have hFh:=Hd hF
 have hOh2:Hid (Owes R encI B p w (((nt 1).bind fun _=>(wr (base+m) 1).bind fun _=>(oneUp D base m D 0).bind F).run S)):=by rw [hF];exact hOh
 clear hF hOh;have hOh:=hOh2;clear hOh2;go_wp2_with fail
 generalize w.heap.size=z at *
 obtain⟨J0,hJ0⟩:∃ J0:World->Prop,∀ wr',J0 wr'↔∃ (k:Nat) (S2:TS),Plays B wr' p S2/\KeepP B p w wr'/\HeldP wr' p z (.cells #[V Z alg,V Z N,V Z mode,V Z base,V Z loc,V Z room] 23)/\S2.left<D/\S2.nts.length<=100001/\S2.left<k/\Hid (Owes R encI B p w (((wr (base+m) 1).bind fun _=>(oneUp D base m k 0).bind F).run S2)):=⟨_,fun _=>Iff.rfl⟩
 refine wp_scope_fall (fun l a wr=>a.defers=[]/\a.tmps.size=68/\a.tmps[0]?=some (.pointer (some ⟨p,0,none⟩))/\a.tmps[2]?=some (V Z m)/\a.tmps[4]?=some (.pointer (some ⟨z,0,none⟩))/\a.tmps[7]?=some (V Z N)/\l=0/\J0 wr) (fun _ _ wr=>leftW 1 3 wr p) ?pass ?first
 case first =>
  intro hfall
  refine (fun (hfall:Hid _)=>?_) (Hd hfall)
  go_wp2_with fail
  refine (hth _).mono ?_
  rintro e w1 ⟨rfl,hx⟩
  replace hK:=hK.trans (Keep.of_ext hx hP.lt hP.le);replace b1:=b1.ext hx hP.lt;replace hP:=hP.ext hx;clear hx c_b1 hth;go_wp2_with fail
  refine tstepA (notes_nt 1) hOh.out hK (noteO hP (by unfold maxAns;omega)) (fun _ h=>⟨rfl,h⟩) ?_
  clear hOh hK hP;intro u S1 wn hrun hlf hla hnn hP hk hK hO;replace hD:=Nat.lt_of_le_of_lt hlf hD
  replace hn0:S1.nts.length<=100001:=by omega
  replace b1:=b1.keep hk;clear hk hnn hrun;clear hla hlf;have hOh:=Hd hO;clear hO;go_wp2_with fail
  try refine wp_label ?_
  rename_i hKK
  replace hKK:=Hd hKK
  refine hKK.out _ _ ?_
  exact hfall.out 0 _ _ _ rfl ⟨rfl,rfl,rfl,rfl,rfl,rfl,rfl,(hJ0 _).2 ⟨D,S1,hP,hK,b1,hD,hn0,hD,hOh⟩⟩
 case pass =>
  clear hP hK b1 hOh hD hn0 c_b1 hth
  rintro l a wq ⟨ha,hs,f0,f2,f4,f7,rfl,hrel⟩
  try dsimp only
  refine fr_act 68 (fun a'=>a'.tmps[0]?=some (.pointer (some ⟨p,0,none⟩))->a'.tmps[2]?=some (V Z m)->a'.tmps[4]?=some (.pointer (some ⟨z,0,none⟩))->a'.tmps[7]?=some (V Z N)->∃ rest,findLabel _ 0=some (.seq .skip rest)/\rest.wp _ _ a' wq) ?_ a ha hs f0 f2 f4 f7
  clear f0 f2 f4 f7;clear ha hs a
  dsimp only [Fr]
  intro u0 u1 u2 u3 u4 u5 u6 u7 u8 u9 u10 u11 u12 u13 u14 u15 u16 u17 u18 u19 u20 u21 u22 u23 u24 u25 u26 u27 u28 u29 u30 u31 u32 u33 u34 u35 u36 u37 u38 u39 u40 u41 u42 u43 u44 u45 u46 u47 u48 u49 u50 u51 u52 u53 u54 u55 u56 u57 u58 u59 u60 u61 u62 u63 u64 u65 u66 u67 f0 f2 f4 f7
  obtain rfl:=Option.some.inj f0
  obtain rfl:=Option.some.inj f2
  obtain rfl:=Option.some.inj f4
  obtain rfl:=Option.some.inj f7
  clear f0 f2 f4 f7;rw [hJ0] at hrel
  obtain⟨k,S2,hP,hK,b1,hD,hn0,hkk,hOh⟩:=hrel
  refine⟨_,rfl,?_⟩
  have hlw:=Hd hP.left
  have hmin:min (m:Int) (N:Int)=(m:Int):=by omega
  have hmax:max (m:Int) (-1)=(m:Int):=by omega
  have hw3:=IntWalk.i64_in ((m:Int)+1) (by omega)
  have c_b1:=b1.cells;go_wp2_with fail
  clear c_b1
  refine tstepA (notes_wr _ _) hOh.out hK (write_p B p S2 _ _ _ hP) (fun _ h=>⟨rfl,h⟩) ?_
  clear hOh hK hP;intro u S3 wn hrun hlf hla hnn hP hk hK hO
  have hlt3:=hla (asks_wr _ _)
  replace hD:=Nat.lt_of_le_of_lt hlf hD
  replace hn0:S3.nts.length<=100001:=by omega
  replace b1:=b1.keep hk;clear hk hnn hrun
  have hk3:S3.left<k:=by omega
  clear hkk hla hlf;have hOh:=Hd hO;clear hO;go_wp2_with fail
  go_loopw [23] (fun i wr'=>∃ (j k:Nat) (S5:TS),i=V Z j/\j<=m/\Plays B wr' p S5/\KeepP B p w wr'/\HeldP wr' p z (.cells #[V Z alg,V Z N,V Z mode,V Z base,V Z loc,V Z room] 23)/\S5.left<D/\S5.nts.length<=100001/\S5.left<k/\S5.left<S2.left/\Hid (Owes R encI B p w (((oneUp D base m k j).bind F).run S5))) (fun i _=>m-(intOf i).toNat)
  case atStart=>exact⟨0,k,S3,rfl,by omega,hP,hK,b1,hD,hn0,hk3,hlt3,hOh⟩
  case round =>
   clear hP hK b1 hD hn0 hOh hk3 hlt3
   obtain⟨j,k,S5,rfl,hj,hP,hK,b1,hD,hn0,hk5,hlt5,hOh⟩:=hrel
   by_cases hjm:j<m
   · have dj:decide ((j:Int)<(m:Int))=true:=by rw [decide_eq_true_eq];omega
     have hw4:=IntWalk.i64_in (base+(j:Int)) (by omega)
     cases k with
     | zero=>omega
     | succ k =>
       replace hO:=hOh.out;rw [oneUp_lt D base m k j hjm] at hO;clear hOh;have hOh:=Hd hO;clear hO;have c_b1:=b1.cells;go_wp2_with fail
       clear c_b1
       refine tstepA (notes_rd _) hOh.out hK (read_p B p S5 _ _ hP) (fun _ h=>⟨rfl,h⟩) ?_
       clear hOh hK hP;intro x S6 wn hrun hlf hla hnn hP hk hK hO
       have hlt6:=hla (asks_rd _)
       replace hD:=Nat.lt_of_le_of_lt hlf hD
       replace hn0:S6.nts.length<=100001:=by omega
       replace b1:=b1.keep hk;clear hk hnn hrun;clear hla hlf
       by_cases hx:x=0
       · have dx:(x==0)=true:=by simpa using hx
         rw [if_pos hx] at hO;have hOh:=Hd hO;clear hO hx;go_wp2_with fail
         refine⟨⟨j+1,k,S6,by go_num,by omega,hP,hK,b1,hD,hn0,by omega,by omega,hOh⟩,?_⟩
         simp [intOf];omega
       · have dx:(x==0)=false:=by simpa using hx
         rw [if_neg hx] at hO;have hOh:=Hd hO;clear hO hx;have c_b1:=b1.cells;go_wp2_with fail
         clear c_b1
         refine tstepA (notes_wr _ _) hOh.out hK (write_p B p S6 _ _ _ hP) (fun _ h=>⟨rfl,h⟩) ?_
         clear hOh hK hP;intro u S7 wn hrun hlf hla hnn hP hk hK hO
         have hlt7:=hla (asks_wr _ _)
         replace hD:=Nat.lt_of_le_of_lt hlf hD
         replace hn0:S7.nts.length<=100001:=by omega
         replace b1:=b1.keep hk;clear hk hnn hrun;clear hla hlf;have hOh:=Hd hO;clear hO
         have hk7:S7.left<k:=by omega
         have hs7:S7.left<S2.left:=by omega
         clear hlt7 hlt6 hlt5 hk5;go_wp2_with fail
         go_loopw [] (fun wr'=>∃ (n:Nat) (S8:TS),Plays B wr' p S8/\KeepP B p w wr'/\HeldP wr' p z (.cells #[V Z alg,V Z N,V Z mode,V Z base,V Z loc,V Z room] 23)/\S8.left<D/\S8.nts.length<=100001/\S8.left<k/\S8.left<S2.left/\S8.left<n/\Hid (Owes R encI B p w (((zeroC (base+j) n).bind fun _=>(Kv.wr (base+m) 1).bind fun _=>(oneUp D base m k 0).bind F).run S8))) (fun wr'=>leftW 1 3 wr' p)
         case atStart=>exact⟨D,S7,hP,hK,b1,hD,hn0,hk7,hs7,hD,hOh⟩
         case round =>
          clear hP hK b1 hD hn0 hOh hk7 hs7
          obtain⟨n,S8,hP,hK,b1,hD,hn0,hk8,hs8,hn8,hOh⟩:=hrel
          cases n with
          | zero=>omega
          | succ n =>
            replace hO:=hOh.out;rw [zeroC_bind] at hO;clear hOh;have hOh:=Hd hO;clear hO
            have hlw8:=Hd hP.left
            have c_b1:=b1.cells;go_wp2_with fail
            clear c_b1
            refine tstepA (notes_rd _) hOh.out hK (read_p B p S8 _ _ hP) (fun _ h=>⟨rfl,h⟩) ?_
            clear hOh hK hP;intro x S9 wn hrun hlf hla hnn hP hk hK hO
            have hlt9:=hla (asks_rd _)
            replace hD:=Nat.lt_of_le_of_lt hlf hD
            replace hn0:S9.nts.length<=100001:=by omega
            replace b1:=b1.keep hk;clear hk hnn hrun;clear hla hlf
            have hlw9:=Hd hP.left
            by_cases hx:x=0
            · have dx:(x != 0)=false:=by simpa using hx
              rw [if_pos hx] at hO;have hOh:=Hd hO;clear hO hx;go_wp2_with fail
              first | refine wp_goto ?_ | skip
              refine And.intro ⟨rfl,rfl,rfl,rfl,rfl,rfl,rfl,(hJ0 _).2 ⟨k,S9,hP,hK,b1,hD,hn0,by omega,hOh⟩⟩ ?_
              rw [hlw.out,hlw9.out]
              omega
            · have dx:(x != 0)=true:=by simpa using hx
              rw [if_neg hx] at hO;have hOh:=Hd hO;clear hO hx;go_wp2_with fail
              refine⟨⟨n,S9,hP,hK,b1,hD,hn0,by omega,by omega,by omega,hOh⟩,?_⟩
              rw [hlw8.out,hlw9.out]
              omega
   · obtain rfl:m=j:=by omega
     have dj:decide ((m:Int)<(m:Int))=false:=by simp
     replace hO:=hOh.out;rw [oneUp_ge D base m k,hFh.out] at hO;clear hOh hlt5 hk5;have hOh:=Hd hO;clear hO;go_wp2_with fail
     refine tstepA (notes_nt 2) hOh.out hK (noteO hP (by unfold maxAns;omega)) (fun _ h=>⟨rfl,h⟩) ?_
     clear hOh hK hP;intro u S6 wn hrun hlf hla hnn hP hk hK hO;replace hD:=Nat.lt_of_le_of_lt hlf hD
     replace hn0:S6.nts.length<=100002:=by omega
     replace b1:=b1.keep hk;clear hk hnn hrun;clear hla hlf
     obtain⟨G,hG⟩:∃ G:Unit->Prog Int,G=fun _=>(nt 3).bind fun _=>.ret 0:=⟨_,rfl⟩
     rw [<- hG] at hO
     have hOh:=Hd hO
     have hGh:=Hd hG
     clear hO hG
     have hl0:Hid (∀ L:Nat,L=N-1-m->m+1+L=N):=Hd (fun L h=>by omega)
     obtain⟨L,hL⟩:∃ L,L=N-1-m:=⟨_,rfl⟩
     have hLN:=hl0.out L hL
     rw [<- hL] at hOh
     clear hl0 hL
     have hLh:=Hd hLN
     clear hLN;go_wp2_with fail
     go_loopw [9] (fun i wr'=>∃ (q:Nat) (S7:TS),i=V Z ((m:Int)+1+q)/\q<=L/\Plays B wr' p S7/\KeepP B p w wr'/\HeldP wr' p z (.cells #[V Z alg,V Z N,V Z mode,V Z base,V Z loc,V Z room] 23)/\S7.left<D/\S7.nts.length<=100002/\Hid (Owes R encI B p w (((forP (fun j _=>zeroC (base+j) D) (ranksFrom (-1) (L-q) ((m:Int)+1+q)) ()).bind G).run S7))) (fun i _=>N-(intOf i).toNat)
     case atStart=>exact⟨0,S6,by simp,by omega,hP,hK,b1,hD,hn0,by simpa using hOh⟩
     case round =>
      clear hP hK b1 hD hn0 hOh
      obtain⟨q,S7,rfl,hq,hP,hK,b1,hD,hn0,hOh⟩:=hrel
      by_cases hqL:q<L
      · have dq:decide ((m:Int)+1+(q:Int)<(N:Int))=true:=by rw [decide_eq_true_eq];have:=hLh.out;omega
        have hw5:=IntWalk.i64_in (base+((m:Int)+1+(q:Int))) (by have:=hLh.out;omega)
        have hw6:=IntWalk.i64_in ((m:Int)+1+(q:Int)+1) (by have:=hLh.out;omega)
        obtain⟨g,hg⟩:∃ g,L-q=g+1:=⟨L-q-1,by omega⟩
        replace hO:=hOh.out
        rw [hg,ranks_cons _ _ _ (by omega),forP_consB,show g=L-(q+1) from by omega] at hO
        obtain⟨H,hH⟩:∃ H:Unit->Prog Int,H=fun _=>(forP (fun j _=>zeroC (base+j) D) (ranksFrom (-1) (L-(q+1)) ((m:Int)+1+q+1)) ()).bind G:=⟨_,rfl⟩
        rw [<- hH] at hO
        have hHh:=Hd hH
        have hOh2:=Hd hO
        clear hO hOh hg hH;go_wp2_with fail
        go_loopw [] (fun wr'=>∃ (n:Nat) (S8:TS),Plays B wr' p S8/\KeepP B p w wr'/\HeldP wr' p z (.cells #[V Z alg,V Z N,V Z mode,V Z base,V Z loc,V Z room] 23)/\S8.left<D/\S8.nts.length<=100002/\S8.left<n/\Hid (Owes R encI B p w (((zeroC (base+((m:Int)+1+q)) n).bind H).run S8))) (fun wr'=>leftW 1 3 wr' p)
        case atStart=>exact⟨D,S7,hP,hK,b1,hD,hn0,hD,hOh2⟩
        case round =>
         clear hP hK b1 hD hn0 hOh2
         obtain⟨n,S8,hP,hK,b1,hD,hn0,hn8,hOh⟩:=hrel
         cases n with
         | zero=>omega
         | succ n =>
           replace hO:=hOh.out;rw [zeroC_bind] at hO;clear hOh;have hOh:=Hd hO;clear hO
           have hlw8:=Hd hP.left
           have c_b1:=b1.cells;go_wp2_with fail
           clear c_b1
           refine tstepA (notes_rd _) hOh.out hK (read_p B p S8 _ _ hP) (fun _ h=>⟨rfl,h⟩) ?_
           clear hOh hK hP;intro x S9 wn hrun hlf hla hnn hP hk hK hO
           have hlt9:=hla (asks_rd _)
           replace hD:=Nat.lt_of_le_of_lt hlf hD
           replace hn0:S9.nts.length<=100002:=by omega
           replace b1:=b1.keep hk;clear hk hnn hrun;clear hla hlf
           have hlw9:=Hd hP.left
           by_cases hx:x=0
           · have dx:(x != 0)=false:=by simpa using hx
             rw [if_pos hx,hHh.out] at hO;have hOh:=Hd hO;clear hO hx;go_wp2_with fail
             refine⟨⟨q+1,S9,by go_num,by omega,hP,hK,b1,hD,hn0,?_⟩,?_⟩
             · rw [show (m:Int)+1+((q+1:Nat):Int)=(m:Int)+1+q+1 from by omega]
               exact hOh
             · simp [intOf];have:=hLh.out;omega
           · have dx:(x != 0)=true:=by simpa using hx
             rw [if_neg hx] at hO;have hOh:=Hd hO;clear hO hx;go_wp2_with fail
             refine⟨⟨n,S9,hP,hK,b1,hD,hn0,by omega,hOh⟩,?_⟩
             rw [hlw8.out,hlw9.out]
             omega
      · obtain rfl:q=L:=by omega
        have dq:decide ((m:Int)+1+(q:Int)<(N:Int))=false:=by rw [decide_eq_false_iff_not];have:=hLh.out;omega
        replace hO:=hOh.out;rw [Nat.sub_self,ranks_zero,forP_nilB,hGh.out] at hO
        have hOh2:=Hd hO
        clear hO hOh;go_wp2_with fail
        refine tstepN (notes_nt 3) hOh2.out hK (noteO hP (by unfold maxAns;omega)) (fun _ h=>⟨rfl,h⟩) ?_
        clear hOh2 hK hP;intro u S9 w9 _ _ _ hP _ hK hO
        have hf:=hO.done (v:=(0:Int)) hP hK
        clear hO hP hK;go_wp2_with fail
        first | exact hf | (go_ret;exact hf)
theorem onerel_p (B p N:Nat)(S:TS)(alg mode base loc room:Int)(m:Nat)(w:World)(h:Plays B w p S)(h2:N<=8)(hm1:m<N)(hba:0<=base/\base<=32768)(hn0:S.nts.length<=100000) :
  Calls Tryz.prog 371 #[.pointer (some ⟨p,0,none⟩),.agg #[V Z alg,V Z N,V Z mode,V Z base,V Z loc,V Z room],V Z m] w (Post encU B p w ((oneR base m).run S)):=by
 generalize hR:Post encU B p w ((oneR base m).run S)=R
 have hO:Owes R encU B p w ((oneR base m).run S):=hR▸owes _ _ _ _ _
 clear hR
 obtain⟨b1,hK,hP⟩:=h.entry (.cells #[V Z alg,V Z N,V Z mode,V Z base,V Z loc,V Z room] 23)
 have c_b1:=b1.cells;clear h;unfold oneR at hO
 have hw2:=IntWalk.i64_in (base+(m:Int)) (by omega)
 have hOh:=Hd hO;clear hO
 go_enter Tryz.func371,Tryz.ntmps371
 go_wp2_with fail
 generalize w.heap.size=z at *
 refine tstepN (notes_nt 5) hOh.out hK (noteO hP (by unfold maxAns;omega)) (fun _ h=>⟨rfl,h⟩) ?_
 clear hOh hK hP;intro u S1 w2 _ _ _ hP hk hK hO;replace b1:=b1.keep hk;clear hk c_b1;have hOh:=Hd hO;clear hO;have c_b1:=b1.cells;go_wp2_with fail
 clear c_b1
 refine tlast hOh.out hK (write_p B p S1 _ _ _ hP) (fun _ h=>⟨rfl,h⟩) ?_
 clear hOh hK hP;intro u S3 w4 hr hP hk hK hO
 have hf:=hO.done hP hK
 clear hO hP hK hr hk b1;go_wp2_with fail
 first | exact hf | (refine bodyPost_ret (results_none rfl _ _ _) rfl ?_;exact hf)
set_option maxRecDepth 100000 in
theorem of1_p (w:World):Calls Tryz.prog 107 #[V Z 1] w fun e w'=>e=.returned (.iface 157 (.agg #[]))/\Ext w w':=by
 have hX:=(Ext.refl w).alloc (.cells #[V Z 1] 3)
 go_enter Tryz.func107,Tryz.ntmps107
 go_wp2_with fail
 go_ret
 exact⟨rfl,hX⟩
set_option maxRecDepth 100000 in
theorem of2_p (w:World):Calls Tryz.prog 107 #[V Z 2] w fun e w'=>e=.returned (.iface 158 (.agg #[]))/\Ext w w':=by
 have hX:=(Ext.refl w).alloc (.cells #[V Z 2] 3)
 go_enter Tryz.func107,Tryz.ntmps107
 go_wp2_with fail
 go_ret
 exact⟨rfl,hX⟩
set_option maxRecDepth 100000 in
theorem of3_p (w:World):Calls Tryz.prog 107 #[V Z 3] w fun e w'=>e=.returned (.iface 160 (.agg #[.func (.func 185) #[] #[],V Z 1,.func (.func 186) #[] #[],.func (.func 187) #[] #[]]))/\Ext w w':=by
 have hX:=(Ext.refl w).alloc (.cells #[V Z 3] 3)
 go_enter Tryz.func107,Tryz.ntmps107
 go_wp2_with fail
 go_ret
 exact⟨rfl,hX⟩
set_option maxRecDepth 100000 in
theorem of4_p (w:World):Calls Tryz.prog 107 #[V Z 4] w fun e w'=>e=.returned (.iface 160 (.agg #[.func (.func 188) #[] #[],V Z 0,.func (.func 189) #[] #[],.func (.func 190) #[] #[]]))/\Ext w w':=by
 have hX:=(Ext.refl w).alloc (.cells #[V Z 4] 3)
 go_enter Tryz.func107,Tryz.ntmps107
 go_wp2_with fail
 go_ret
 exact⟨rfl,hX⟩
set_option maxRecDepth 100000 in
theorem of5_p (w:World):Calls Tryz.prog 107 #[V Z 5] w fun e w'=>e=.returned (.iface 160 (.agg #[.func (.func 191) #[] #[],V Z 0,.func (.func 192) #[] #[],.func (.func 193) #[] #[]]))/\Ext w w':=by
 have hX:=(Ext.refl w).alloc (.cells #[V Z 5] 3)
 go_enter Tryz.func107,Tryz.ntmps107
 go_wp2_with fail
 go_ret
 exact⟨rfl,hX⟩
set_option maxRecDepth 100000 in
theorem of6_p (w:World):Calls Tryz.prog 107 #[V Z 6] w fun e w'=>∃ x:Nat,e=.returned (.iface 160 (.agg #[.func (.func 194) #[] #[.pointer (some ⟨x,0,none⟩)],V Z 0,.func (.func 195) #[] #[],.func (.func 196) #[] #[]]))/\Ext w w':=by
 have hX:=(Ext.refl w).alloc (.cells #[V Z 6] 3)
 go_enter Tryz.func107,Tryz.ntmps107
 go_wp2_with fail
 go_ret
 exact⟨_,rfl,hX⟩
set_option maxRecDepth 100000 in
theorem of7_p (w:World):Calls Tryz.prog 107 #[V Z 7] w fun e w'=>∃ x:Nat,e=.returned (.iface 160 (.agg #[.func (.func 194) #[] #[.pointer (some ⟨x,0,none⟩)],V Z 0,.func (.func 195) #[] #[],.func (.func 196) #[] #[]]))/\Ext w w':=by
 have hX:=(Ext.refl w).alloc (.cells #[V Z 7] 3)
 go_enter Tryz.func107,Tryz.ntmps107
 go_wp2_with fail
 go_ret
 exact⟨_,rfl,hX⟩
set_option maxRecDepth 100000 in
theorem of8_p (w:World):Calls Tryz.prog 107 #[V Z 8] w fun e w'=>e=.returned (.iface 160 (.agg #[.func (.func 98) #[] #[],V Z 1,.func (.func 15) #[] #[],.func (.func 19) #[] #[]]))/\Ext w w':=by
 have hX:=(Ext.refl w).alloc (.cells #[V Z 8] 3)
 go_enter Tryz.func107,Tryz.ntmps107
 go_wp2_with fail
 go_ret
 exact⟨rfl,hX⟩
theorem laidacq_p (F G W0:FuncId)(cp:Array Value)(mo:Int)(hcf:∀ (args:Array Value) (w:World),(callFunc F args).run Tryz.prog w=.ok (.enter F args) w)(B p:Nat)(S:TS)(alg mode base loc room:Int)(N m:Nat)(T:Prog Int)(w:World)(h:Plays B w p S)
  (hq:∀ W,Plays B W p S->Calls Tryz.prog F #[.pointer (some ⟨p,0,none⟩),.agg #[V Z alg,V Z N,V Z mode,V Z base,V Z loc,V Z room],V Z m] W (Post encI B p W (T.run S))) :
  Calls Tryz.prog 374 #[.agg #[.func (.func W0) #[] cp,V Z mo,.func (.func F) #[] #[],.func (.func G) #[] #[]],.pointer (some ⟨p,0,none⟩),.agg #[V Z alg,V Z N,V Z mode,V Z base,V Z loc,V Z room],V Z m] w (Post encI B p w (T.run S)):=by
 generalize hR:Post encI B p w ((T).run S)=R
 have hO:Owes R encI B p w ((T).run S):=hR▸owes _ _ _ _ _
 clear hR
 obtain⟨b1,b2,hK,hP⟩:=h.entry2 (.cells #[.func (.func W0) #[] cp,V Z mo,.func (.func F) #[] #[],.func (.func G) #[] #[]] 160) (.cells #[V Z alg,V Z N,V Z mode,V Z base,V Z loc,V Z room] 23)
 have c_b1:=b1.cells;have c_b2:=b2.cells;clear h
 go_enter Tryz.func374,Tryz.ntmps374
 go_wp2_with fail
 refine tlast hO hK (hq _ hP) (fun _ h=>⟨rfl,h⟩) ?_
 clear hO hK hP hq c_b1 c_b2;intro u S9 w9 hr9 hP hk9 hK hO
 have hf:=hO.done hP hK
 clear hO hP hK hr9 hk9;go_wp2_with fail
 first | exact hf | (refine bodyPost_ret (results_none rfl _ _ _) rfl ?_;exact hf) | (go_ret;exact hf)
theorem bakeriesacq_p (B p:Nat)(S:TS)(alg mode base loc room:Int)(N m:Nat)(T:Prog Int)(w:World)(h:Plays B w p S)
  (hq:∀ W,Plays B W p S->Calls Tryz.prog 360 #[.pointer (some ⟨p,0,none⟩),.agg #[V Z alg,V Z N,V Z mode,V Z base,V Z loc,V Z room],V Z m] W (Post encI B p W (T.run S))) :
  Calls Tryz.prog 356 #[.agg #[],.pointer (some ⟨p,0,none⟩),.agg #[V Z alg,V Z N,V Z mode,V Z base,V Z loc,V Z room],V Z m] w (Post encI B p w (T.run S)):=by
 generalize hR:Post encI B p w ((T).run S)=R
 have hO:Owes R encI B p w ((T).run S):=hR▸owes _ _ _ _ _
 clear hR
 obtain⟨b1,b2,hK,hP⟩:=h.entry2 (.cells #[] 157) (.cells #[V Z alg,V Z N,V Z mode,V Z base,V Z loc,V Z room] 23)
 have c_b1:=b1.cells;have c_b2:=b2.cells;clear h
 go_enter Tryz.func356,Tryz.ntmps356
 go_wp2_with fail
 refine tlast hO hK (hq _ hP) (fun _ h=>⟨rfl,h⟩) ?_
 clear hO hK hP hq c_b1 c_b2;intro u S9 w9 hr9 hP hk9 hK hO
 have hf:=hO.done hP hK
 clear hO hP hK hr9 hk9;go_wp2_with fail
 first | exact hf | (refine bodyPost_ret (results_none rfl _ _ _) rfl ?_;exact hf) | (go_ret;exact hf)
theorem bitsacq_p (B p:Nat)(S:TS)(alg mode base loc room:Int)(N m:Nat)(T:Prog Int)(w:World)(h:Plays B w p S)
  (hq:∀ W,Plays B W p S->Calls Tryz.prog 370 #[.pointer (some ⟨p,0,none⟩),.agg #[V Z alg,V Z N,V Z mode,V Z base,V Z loc,V Z room],V Z m] W (Post encI B p W (T.run S))) :
  Calls Tryz.prog 366 #[.agg #[],.pointer (some ⟨p,0,none⟩),.agg #[V Z alg,V Z N,V Z mode,V Z base,V Z loc,V Z room],V Z m] w (Post encI B p w (T.run S)):=by
 generalize hR:Post encI B p w ((T).run S)=R
 have hO:Owes R encI B p w ((T).run S):=hR▸owes _ _ _ _ _
 clear hR
 obtain⟨b1,b2,hK,hP⟩:=h.entry2 (.cells #[] 158) (.cells #[V Z alg,V Z N,V Z mode,V Z base,V Z loc,V Z room] 23)
 have c_b1:=b1.cells;have c_b2:=b2.cells;clear h
 go_enter Tryz.func366,Tryz.ntmps366
 go_wp2_with fail
 refine tlast hO hK (hq _ hP) (fun _ h=>⟨rfl,h⟩) ?_
 clear hO hK hP hq c_b1 c_b2;intro u S9 w9 hr9 hP hk9 hK hO
 have hf:=hO.done hP hK
 clear hO hP hK hr9 hk9;go_wp2_with fail
 first | exact hf | (refine bodyPost_ret (results_none rfl _ _ _) rfl ?_;exact hf) | (go_ret;exact hf)
set_option maxRecDepth 100000 in
theorem lkdacq_p (M:FuncId)(Y:TypeId)(hcf:∀ (args:Array Value) (w:World),(callFunc M args).run Tryz.prog w=.ok (.enter M args) w)(B p:Nat)(S:TS)(alg mode base loc room:Int)(N m:Nat)(T:Prog Int)(w:World)(h:Plays B w p S)
  (hof:∀ w,Calls Tryz.prog 107 #[V Z alg] w fun e w'=>∃ a,e=.returned (.iface Y (.agg a))/\Ext w w'/\(∀ w,(method 349 Y (.agg a) "kevel/lock.acquire").run Tryz.prog w=.ok (M,.agg a) w) /\
    (∀ W,Plays B W p S->Calls Tryz.prog M #[.agg a,.pointer (some ⟨p,0,none⟩),.agg #[V Z alg,V Z N,V Z mode,V Z base,V Z loc,V Z room],V Z m] W (Post encI B p W (T.run S)))) :
  Calls Tryz.prog 26 #[.pointer (some ⟨p,0,none⟩),.agg #[V Z alg,V Z N,V Z mode,V Z base,V Z loc,V Z room],V Z m] w (Post encI B p w (T.run S)):=by
 generalize hR:Post encI B p w ((T).run S)=R
 have hO:Owes R encI B p w ((T).run S):=hR▸owes _ _ _ _ _
 clear hR
 obtain⟨b1,hK,hP⟩:=h.entry (.cells #[V Z alg,V Z N,V Z mode,V Z base,V Z loc,V Z room] 23)
 have c_b1:=b1.cells;clear h
 go_enter Tryz.func26,Tryz.ntmps26
 go_wp2_with fail
 refine (hof _).mono ?_
 rintro e w1 ⟨a,rfl,hx,hmt,hq⟩
 replace hK:=hK.trans (Keep.of_ext hx hP.lt hP.le);replace b1:=b1.ext hx hP.lt;replace hP:=hP.ext hx;clear hx c_b1
 generalize w.heap.size=z at *
 have c_b1:=b1.cells;go_wp2_with fail
 refine tlast hO hK (hq _ hP) (fun _ h=>⟨rfl,h⟩) ?_
 clear hO hK hP hq c_b1;intro u S9 w9 hr9 hP hk9 hK hO
 have hf:=hO.done hP hK
 clear hO hP hK hr9 hk9;go_wp2_with fail
 first | exact hf | (refine bodyPost_ret (results_none rfl _ _ _) rfl ?_;exact hf) | (go_ret;exact hf)
theorem laidrel_p (F G W0:FuncId)(cp:Array Value)(mo:Int)(hcf:∀ (args:Array Value) (w:World),(callFunc F args).run Tryz.prog w=.ok (.enter F args) w)(B p:Nat)(S:TS)(alg mode base loc room:Int)(N m:Nat)(T:Prog Unit)(w:World)(h:Plays B w p S)
  (hq:∀ W,Plays B W p S->Calls Tryz.prog F #[.pointer (some ⟨p,0,none⟩),.agg #[V Z alg,V Z N,V Z mode,V Z base,V Z loc,V Z room],V Z m] W (Post encU B p W (T.run S))) :
  Calls Tryz.prog 375 #[.agg #[.func (.func W0) #[] cp,V Z mo,.func (.func G) #[] #[],.func (.func F) #[] #[]],.pointer (some ⟨p,0,none⟩),.agg #[V Z alg,V Z N,V Z mode,V Z base,V Z loc,V Z room],V Z m] w (Post encU B p w (T.run S)):=by
 generalize hR:Post encU B p w ((T).run S)=R
 have hO:Owes R encU B p w ((T).run S):=hR▸owes _ _ _ _ _
 clear hR
 obtain⟨b1,b2,hK,hP⟩:=h.entry2 (.cells #[.func (.func W0) #[] cp,V Z mo,.func (.func G) #[] #[],.func (.func F) #[] #[]] 160) (.cells #[V Z alg,V Z N,V Z mode,V Z base,V Z loc,V Z room] 23)
 have c_b1:=b1.cells;have c_b2:=b2.cells;clear h
 go_enter Tryz.func375,Tryz.ntmps375
 go_wp2_with fail
 refine tlast hO hK (hq _ hP) (fun _ h=>⟨rfl,h⟩) ?_
 clear hO hK hP hq c_b1 c_b2;intro u S9 w9 hr9 hP hk9 hK hO
 have hf:=hO.done (v:=()) hP hK
 clear hO hP hK hr9 hk9;go_wp2_with fail
 first | exact hf | (refine bodyPost_ret (results_none rfl _ _ _) rfl ?_;exact hf) | (go_ret;exact hf)
theorem bakeriesrel_p (B p:Nat)(S:TS)(alg mode base loc room:Int)(N m:Nat)(T:Prog Unit)(w:World)(h:Plays B w p S)
  (hq:∀ W,Plays B W p S->Calls Tryz.prog 361 #[.pointer (some ⟨p,0,none⟩),.agg #[V Z alg,V Z N,V Z mode,V Z base,V Z loc,V Z room],V Z m] W (Post encU B p W (T.run S))) :
  Calls Tryz.prog 357 #[.agg #[],.pointer (some ⟨p,0,none⟩),.agg #[V Z alg,V Z N,V Z mode,V Z base,V Z loc,V Z room],V Z m] w (Post encU B p w (T.run S)):=by
 generalize hR:Post encU B p w ((T).run S)=R
 have hO:Owes R encU B p w ((T).run S):=hR▸owes _ _ _ _ _
 clear hR
 obtain⟨b1,b2,hK,hP⟩:=h.entry2 (.cells #[] 157) (.cells #[V Z alg,V Z N,V Z mode,V Z base,V Z loc,V Z room] 23)
 have c_b1:=b1.cells;have c_b2:=b2.cells;clear h
 go_enter Tryz.func357,Tryz.ntmps357
 go_wp2_with fail
 refine tlast hO hK (hq _ hP) (fun _ h=>⟨rfl,h⟩) ?_
 clear hO hK hP hq c_b1 c_b2;intro u S9 w9 hr9 hP hk9 hK hO
 have hf:=hO.done (v:=()) hP hK
 clear hO hP hK hr9 hk9;go_wp2_with fail
 first | exact hf | (refine bodyPost_ret (results_none rfl _ _ _) rfl ?_;exact hf) | (go_ret;exact hf)
theorem bitsrel_p (B p:Nat)(S:TS)(alg mode base loc room:Int)(N m:Nat)(T:Prog Unit)(w:World)(h:Plays B w p S)
  (hq:∀ W,Plays B W p S->Calls Tryz.prog 371 #[.pointer (some ⟨p,0,none⟩),.agg #[V Z alg,V Z N,V Z mode,V Z base,V Z loc,V Z room],V Z m] W (Post encU B p W (T.run S))) :
  Calls Tryz.prog 367 #[.agg #[],.pointer (some ⟨p,0,none⟩),.agg #[V Z alg,V Z N,V Z mode,V Z base,V Z loc,V Z room],V Z m] w (Post encU B p w (T.run S)):=by
 generalize hR:Post encU B p w ((T).run S)=R
 have hO:Owes R encU B p w ((T).run S):=hR▸owes _ _ _ _ _
 clear hR
 obtain⟨b1,b2,hK,hP⟩:=h.entry2 (.cells #[] 158) (.cells #[V Z alg,V Z N,V Z mode,V Z base,V Z loc,V Z room] 23)
 have c_b1:=b1.cells;have c_b2:=b2.cells;clear h
 go_enter Tryz.func367,Tryz.ntmps367
 go_wp2_with fail
 refine tlast hO hK (hq _ hP) (fun _ h=>⟨rfl,h⟩) ?_
 clear hO hK hP hq c_b1 c_b2;intro u S9 w9 hr9 hP hk9 hK hO
 have hf:=hO.done (v:=()) hP hK
 clear hO hP hK hr9 hk9;go_wp2_with fail
 first | exact hf | (refine bodyPost_ret (results_none rfl _ _ _) rfl ?_;exact hf) | (go_ret;exact hf)
set_option maxRecDepth 100000 in
theorem lkdrel_p (M:FuncId)(Y:TypeId)(hcf:∀ (args:Array Value) (w:World),(callFunc M args).run Tryz.prog w=.ok (.enter M args) w)(B p:Nat)(S:TS)(alg mode base loc room:Int)(N m:Nat)(T:Prog Unit)(w:World)(h:Plays B w p S)
  (hof:∀ w,Calls Tryz.prog 107 #[V Z alg] w fun e w'=>∃ a,e=.returned (.iface Y (.agg a))/\Ext w w'/\(∀ w,(method 349 Y (.agg a) "kevel/lock.release").run Tryz.prog w=.ok (M,.agg a) w) /\
    (∀ W,Plays B W p S->Calls Tryz.prog M #[.agg a,.pointer (some ⟨p,0,none⟩),.agg #[V Z alg,V Z N,V Z mode,V Z base,V Z loc,V Z room],V Z m] W (Post encU B p W (T.run S)))) :
  Calls Tryz.prog 30 #[.pointer (some ⟨p,0,none⟩),.agg #[V Z alg,V Z N,V Z mode,V Z base,V Z loc,V Z room],V Z m] w (Post encU B p w (T.run S)):=by
 generalize hR:Post encU B p w ((T).run S)=R
 have hO:Owes R encU B p w ((T).run S):=hR▸owes _ _ _ _ _
 clear hR
 obtain⟨b1,hK,hP⟩:=h.entry (.cells #[V Z alg,V Z N,V Z mode,V Z base,V Z loc,V Z room] 23)
 have c_b1:=b1.cells;clear h
 go_enter Tryz.func30,Tryz.ntmps30
 go_wp2_with fail
 refine (hof _).mono ?_
 rintro e w1 ⟨a,rfl,hx,hmt,hq⟩
 replace hK:=hK.trans (Keep.of_ext hx hP.lt hP.le);replace b1:=b1.ext hx hP.lt;replace hP:=hP.ext hx;clear hx c_b1
 generalize w.heap.size=z at *
 have c_b1:=b1.cells;go_wp2_with fail
 refine tlast hO hK (hq _ hP) (fun _ h=>⟨rfl,h⟩) ?_
 clear hO hK hP hq c_b1;intro u S9 w9 hr9 hP hk9 hK hO
 have hf:=hO.done (v:=()) hP hK
 clear hO hP hK hr9 hk9;go_wp2_with fail
 first | exact hf | (refine bodyPost_ret (results_none rfl _ _ _) rfl ?_;exact hf) | (go_ret;exact hf)
theorem alg_cases {alg:Int}(h:1<=alg/\alg<=8):alg=1∨alg=2∨alg=3∨alg=4∨alg=5∨alg=6∨alg=7∨alg=8:=by omega
set_option maxRecDepth 100000 in
theorem lkacq_p (B p N D:Nat)(S:TS)(alg mode base loc room:Int)(m:Nat)(rs:List Reg)(w:World)(h:Plays B w p S)(hk:LkOk alg N mode base loc room rs)(hm:m<N)(hN:¬ (N=1/\mode=2))(hta:TameA S)(hD:S.left<D)(hn0:S.nts.length<=100000) :
  Calls Tryz.prog 26 #[.pointer (some ⟨p,0,none⟩),.agg #[V Z alg,V Z N,V Z mode,V Z base,V Z loc,V Z room],V Z m] w (Post encI B p w ((lkA D alg N base loc room rs m).run S)):=by
 rcases alg_cases hk.halg with rfl | rfl | rfl | rfl | rfl | rfl | rfl | rfl
 · exact lkdacq_p _ _ (fun _ _=>rfl) B p S 1 mode base loc room N m _ w h fun w=>(of1_p w).mono fun e w' h9=>by
    obtain⟨rfl,hx⟩:=h9
    exact⟨_,rfl,hx,fun _=>by kernel_rfl,fun W hP=>bakeriesacq_p B p S _ _ _ _ _ N m _ W hP fun W hP=>bakacq_p B p N D S 1 mode base loc room m W hP hk.hn.1 hk.hn.2 hm hk.hbase hk.hroom hta hD hn0⟩
 · exact lkdacq_p _ _ (fun _ _=>rfl) B p S 2 mode base loc room N m _ w h fun w=>(of2_p w).mono fun e w' h9=>by
    obtain⟨rfl,hx⟩:=h9
    exact⟨_,rfl,hx,fun _=>by kernel_rfl,fun W hP=>bitsacq_p B p S _ _ _ _ _ N m _ W hP fun W hP=>oneacq_p B p N D S 2 mode base loc room m W hP hk.hn.1 hk.hn.2 hm hk.hbase hD hn0⟩
 · have hl:layM (bwWants N) N mode base loc=some rs:=hk.hlay (by decide)
   exact lkdacq_p _ _ (fun _ _=>rfl) B p S 3 mode base loc room N m _ w h fun w=>(of3_p w).mono fun e w' h9=>by
    obtain⟨rfl,hx⟩:=h9
    exact⟨_,rfl,hx,fun _=>by kernel_rfl,fun W hP=>laidacq_p _ _ _ _ _ (fun _ _=>rfl) B p S _ _ _ _ _ N m _ W hP fun W hP=>bwacq_p B p N D S 3 mode base loc room m rs W hP hk.hn.1 hk.hn.2 hm hl hk.hloc (laid_all hl) (bw_told hl) hta hD hn0⟩
 · have hl:layM (filWants N) N mode base loc=some rs:=hk.hlay (by decide)
   exact lkdacq_p _ _ (fun _ _=>rfl) B p S 4 mode base loc room N m _ w h fun w=>(of4_p w).mono fun e w' h9=>by
    obtain⟨rfl,hx⟩:=h9
    exact⟨_,rfl,hx,fun _=>by kernel_rfl,fun W hP=>laidacq_p _ _ _ _ _ (fun _ _=>rfl) B p S _ _ _ _ _ N m _ W hP fun W hP=>filacq_p B p N D S 4 mode base loc room m rs W hP hP.le hk.hn.1 hk.hn.2 hm hl (laid_all hl) (fil_told hl) hD hn0⟩
 · have hl:layM (fastWants N) N mode base loc=some rs:=hk.hlay (by decide)
   obtain⟨Zq,z1,z2,z3⟩:=fast_hz (m:=m) (D:=D) hl hm
   exact lkdacq_p _ _ (fun _ _=>rfl) B p S 5 mode base loc room N m _ w h fun w=>(of5_p w).mono fun e w' h9=>by
    obtain⟨rfl,hx⟩:=h9
    exact⟨_,rfl,hx,fun _=>by kernel_rfl,fun W hP=>laidacq_p _ _ _ _ _ (fun _ _=>rfl) B p S _ _ _ _ _ N m _ W hP fun W hP=>fastacq_p B p N D S 5 mode base loc room m rs W hP hk.hn.1 hk.hn.2 hm hl (laid_all hl) (fast_told hl hN) hD hn0 Zq z1 z2 z3⟩
 · have hl:layM (treeWants (eachK 6) N) N mode base loc=some rs:=hk.hlay (by decide)
   exact lkdacq_p _ _ (fun _ _=>rfl) B p S 6 mode base loc room N m _ w h fun w=>(of6_p w).mono fun e w' h9=>by
    obtain⟨x,rfl,hx⟩:=h9
    exact⟨_,rfl,hx,fun _=>by kernel_rfl,fun W hP=>laidacq_p _ _ _ _ _ (fun _ _=>rfl) B p S _ _ _ _ _ N m _ W hP fun W hP=>treeacq_p B p N D S 6 mode base loc room m rs W hP hk.hn.1 (by have:=hk.hn.2;omega) hm hl (tree_all hl hm) hD hn0⟩
 · have hl:layM (treeWants (eachK 7) N) N mode base loc=some rs:=hk.hlay (by decide)
   exact lkdacq_p _ _ (fun _ _=>rfl) B p S 7 mode base loc room N m _ w h fun w=>(of7_p w).mono fun e w' h9=>by
    obtain⟨x,rfl,hx⟩:=h9
    exact⟨_,rfl,hx,fun _=>by kernel_rfl,fun W hP=>laidacq_p _ _ _ _ _ (fun _ _=>rfl) B p S _ _ _ _ _ N m _ W hP fun W hP=>treeacq_p B p N D S 7 mode base loc room m rs W hP hk.hn.1 (by have:=hk.hn.2;omega) hm hl (tree_all hl hm) hD hn0⟩
 · have hl:layM (adWants N) N mode base loc=some rs:=hk.hlay (by decide)
   exact lkdacq_p _ _ (fun _ _=>rfl) B p S 8 mode base loc room N m _ w h fun w=>(of8_p w).mono fun e w' h9=>by
    obtain⟨rfl,hx⟩:=h9
    exact⟨_,rfl,hx,fun _=>by kernel_rfl,fun W hP=>laidacq_p _ _ _ _ _ (fun _ _=>rfl) B p S _ _ _ _ _ N m _ W hP fun W hP=>adacq_p B p N D S 8 mode base loc room m rs W hP hk.hn.1 hk.hn.2 hm hl hk.hloc (laid_all hl) (ad_told hl hk.hn.1) hD hn0⟩
set_option maxRecDepth 100000 in
theorem lkrel_p (B p N:Nat)(S:TS)(alg mode base loc room:Int)(m:Nat)(rs:List Reg)(w:World)(h:Plays B w p S)(hk:LkOk alg N mode base loc room rs)(hm:m<N)(hn0:S.nts.length<=100000) :
  Calls Tryz.prog 30 #[.pointer (some ⟨p,0,none⟩),.agg #[V Z alg,V Z N,V Z mode,V Z base,V Z loc,V Z room],V Z m] w (Post encU B p w ((lkR alg N base loc rs m).run S)):=by
 rcases alg_cases hk.halg with rfl | rfl | rfl | rfl | rfl | rfl | rfl | rfl
 · exact lkdrel_p _ _ (fun _ _=>rfl) B p S 1 mode base loc room N m _ w h fun w=>(of1_p w).mono fun e w' h9=>by
    obtain⟨rfl,hx⟩:=h9
    exact⟨_,rfl,hx,fun _=>by kernel_rfl,fun W hP=>bakeriesrel_p B p S _ _ _ _ _ N m _ W hP fun W hP=>bakrel_p B p N S 1 mode base loc room m W hP hk.hn.1 hk.hn.2 hm hk.hbase hk.hroom hn0⟩
 · exact lkdrel_p _ _ (fun _ _=>rfl) B p S 2 mode base loc room N m _ w h fun w=>(of2_p w).mono fun e w' h9=>by
    obtain⟨rfl,hx⟩:=h9
    exact⟨_,rfl,hx,fun _=>by kernel_rfl,fun W hP=>bitsrel_p B p S _ _ _ _ _ N m _ W hP fun W hP=>onerel_p B p N S 2 mode base loc room m W hP hk.hn.2 hm hk.hbase hn0⟩
 · have hl:layM (bwWants N) N mode base loc=some rs:=hk.hlay (by decide)
   exact lkdrel_p _ _ (fun _ _=>rfl) B p S 3 mode base loc room N m _ w h fun w=>(of3_p w).mono fun e w' h9=>by
    obtain⟨rfl,hx⟩:=h9
    exact⟨_,rfl,hx,fun _=>by kernel_rfl,fun W hP=>laidrel_p _ _ _ _ _ (fun _ _=>rfl) B p S _ _ _ _ _ N m _ W hP fun W hP=>bwrel_p B p N S 3 mode base loc room m rs W hP hk.hn.1 hk.hn.2 hm hl hk.hloc (laid_all hl) hn0⟩
 · have hl:layM (filWants N) N mode base loc=some rs:=hk.hlay (by decide)
   exact lkdrel_p _ _ (fun _ _=>rfl) B p S 4 mode base loc room N m _ w h fun w=>(of4_p w).mono fun e w' h9=>by
    obtain⟨rfl,hx⟩:=h9
    exact⟨_,rfl,hx,fun _=>by kernel_rfl,fun W hP=>laidrel_p _ _ _ _ _ (fun _ _=>rfl) B p S _ _ _ _ _ N m _ W hP fun W hP=>filrel_p B p N S 4 mode base loc room m rs W hP hk.hn.1 hk.hn.2 hm hl (laid_all hl) hn0⟩
 · have hl:layM (fastWants N) N mode base loc=some rs:=hk.hlay (by decide)
   exact lkdrel_p _ _ (fun _ _=>rfl) B p S 5 mode base loc room N m _ w h fun w=>(of5_p w).mono fun e w' h9=>by
    obtain⟨rfl,hx⟩:=h9
    exact⟨_,rfl,hx,fun _=>by kernel_rfl,fun W hP=>laidrel_p _ _ _ _ _ (fun _ _=>rfl) B p S _ _ _ _ _ N m _ W hP fun W hP=>fastrel_p B p N S 5 mode base loc room m rs W hP hk.hn.1 hk.hn.2 hm hl (laid_all hl) hn0⟩
 · have hl:layM (treeWants (eachK 6) N) N mode base loc=some rs:=hk.hlay (by decide)
   exact lkdrel_p _ _ (fun _ _=>rfl) B p S 6 mode base loc room N m _ w h fun w=>(of6_p w).mono fun e w' h9=>by
    obtain⟨x,rfl,hx⟩:=h9
    exact⟨_,rfl,hx,fun _=>by kernel_rfl,fun W hP=>laidrel_p _ _ _ _ _ (fun _ _=>rfl) B p S _ _ _ _ _ N m _ W hP fun W hP=>treerel_p B p N S 6 mode base loc room m rs W hP hk.hn.1 (by have:=hk.hn.2;omega) hm hl (tree_all hl hm) hn0⟩
 · have hl:layM (treeWants (eachK 7) N) N mode base loc=some rs:=hk.hlay (by decide)
   exact lkdrel_p _ _ (fun _ _=>rfl) B p S 7 mode base loc room N m _ w h fun w=>(of7_p w).mono fun e w' h9=>by
    obtain⟨x,rfl,hx⟩:=h9
    exact⟨_,rfl,hx,fun _=>by kernel_rfl,fun W hP=>laidrel_p _ _ _ _ _ (fun _ _=>rfl) B p S _ _ _ _ _ N m _ W hP fun W hP=>treerel_p B p N S 7 mode base loc room m rs W hP hk.hn.1 (by have:=hk.hn.2;omega) hm hl (tree_all hl hm) hn0⟩
 · have hl:layM (adWants N) N mode base loc=some rs:=hk.hlay (by decide)
   exact lkdrel_p _ _ (fun _ _=>rfl) B p S 8 mode base loc room N m _ w h fun w=>(of8_p w).mono fun e w' h9=>by
    obtain⟨rfl,hx⟩:=h9
    exact⟨_,rfl,hx,fun _=>by kernel_rfl,fun W hP=>laidrel_p _ _ _ _ _ (fun _ _=>rfl) B p S _ _ _ _ _ N m _ W hP fun W hP=>adrel_p B p N S 8 mode base loc room m rs W hP hk.hn.1 hk.hn.2 hm hl hk.hloc (laid_all hl) (ad_told hl hk.hn.1) hn0⟩
end Go.Proofs.YtbaajjkopdjbgaaGreat
namespace Kv
def Prog.Ends {α:Type} (p:Prog α) (R:α->Prop):Prop:=∀ (S:TS) (a:α) (S':TS),p.run S=(some a,S')->R a
theorem Prog.Ends.ret {α:Type}{R:α->Prop}{a:α}(h:R a):(Prog.ret a).Ends R:=by
 intro S b S' hr
 injection hr with e1 e2
 injection e1 with e1
 exact e1▸h
theorem Prog.Ends.bind {α β:Type}{p:Prog α}{f:α->Prog β}{R:β->Prop}(h:∀ a,(f a).Ends R):(p.bind f).Ends R:=by
 intro S b S' hr
 obtain⟨a,S1,_,h2⟩:=Prog.bind_some hr
 exact h a S1 b S' h2
end Kv
namespace Go.Proofs.YtbaajjkopdjbgaaGreat
open Kv
theorem ends_lkA (D:Nat)(alg:Int)(N:Nat)(base loc room:Int)(rs:List Reg)(m:Nat):(lkA D alg N base loc room rs m).Ends fun e=>e=0∨e=11/\alg=1:=by
 unfold lkA
 repeat' split
 · rename_i h1
   unfold bakA
   refine .bind fun _=>.bind fun _=>.bind fun t=>?_
   unfold bakIn
   split
   · exact .bind fun _=>.bind fun _=>.ret (.inr ⟨rfl,h1⟩)
   · exact .bind fun _=>.bind fun _=>.bind fun _=>.bind fun _=>.bind fun _=>.bind fun _=>.ret (.inl rfl)
 · exact .bind fun _=>.bind fun _=>.bind fun _=>.bind fun _=>.bind fun _=>.bind fun _=>.ret (.inl rfl)
 · unfold bwA
   exact .bind fun _=>.bind fun _=>.bind fun _=>.bind fun _=>.bind fun _=>.bind fun _=>.bind fun _=>.bind fun _=>.bind fun _=>.bind fun _=>.ret (.inl rfl)
 · exact .bind fun _=>.bind fun _=>.bind fun _=>.ret (.inl rfl)
 · exact .bind fun _=>.bind fun _=>.bind fun _=>.ret (.inl rfl)
 · unfold adA
   exact .bind fun _=>.bind fun _=>.bind fun _=>.bind fun _=>.ret (.inl rfl)
 · exact .bind fun _=>.bind fun _=>.bind fun _=>.ret (.inl rfl)
theorem lkA_fail {D:Nat}{alg:Int}{N:Nat}{base loc room:Int}{rs:List Reg}{m:Nat}{S S':TS}(h:(lkA D alg N base loc room rs m).run S=(some 11,S'))(hl:S'.acc.length<=S'.ans.length):S'.left<S.left:=by
 obtain⟨_,rfl⟩:=(ends_lkA D alg N base loc room rs m S 11 S' h).resolve_left (by decide)
 exact (show (bakA D base N room loc m).Asks from .note _ (.write _ _ _)).left h hl
end Go.Proofs.YtbaajjkopdjbgaaGreat
namespace Kv
theorem run_back {α:Type}{p:Prog α}{S S':TS}{o:Option α}(h:p.run S=(o,S'))(hl:S'.acc.length<=S'.ans.length):S.acc.length<=S.ans.length:=by
 have q1:=Prog.run_len p S
 have q2:=Prog.run_ans p S
 rw [h] at q1 q2
 simp only at q1 q2
 rw [q2] at hl;omega
def Prog.Pays {α:Type} (p:Prog α) (c:Int):Prop:=∀ (S:TS) (a:α) (S':TS),p.run S=(some a,S')->S'.acc.length<=S'.ans.length->(S'.nts.length:Int)+10*S'.left<=S.nts.length+10*S.left+c
theorem Prog.Notes.pays {α:Type}{p:Prog α}{n:Nat}(h:p.Notes n):p.Pays n:=by
 intro S a S' hr _
 have h1:=h.run S
 have h2:=Prog.run_left p S
 rw [hr] at h1 h2
 simp only at h1 h2
 omega
theorem Prog.Asks.pays {α:Type}{p:Prog α}{n:Nat}(h:p.Asks)(hn:p.Notes n):p.Pays ((n:Int)-10):=by
 intro S a S' hr hl
 have h1:=hn.run S
 have h2:=h.left hr hl
 rw [hr] at h1
 simp only at h1
 omega
theorem Prog.Pays.mono {α:Type}{p:Prog α}{c d:Int}(h:p.Pays c)(hd:c<=d):p.Pays d:=fun S a S' hr hl=>by
 have:=h S a S' hr hl
 omega
theorem Prog.Pays.bind {α β:Type}{p:Prog α}{f:α->Prog β}{c d:Int}(h:p.Pays c)(hf:∀ a,(f a).Pays d):(p.bind f).Pays (c+d):=by
 intro S b S' hr hl
 obtain⟨a,S1,h1,h2⟩:=Prog.bind_some hr
 have:=h S a S1 h1 (run_back h2 hl)
 have:=hf a S1 b S' h2 hl
 omega
def inA (T:Prog Int):Nat->Prog Unit
 | 0=>.ret ()
 | n+1=>T.bind fun e=>if e=11 then inA T n else .ret ()
theorem inA_pays {T:Prog Int}(h4:T.Notes 4)(hf:∀ S S',T.run S=(some 11,S')->S'.acc.length<=S'.ans.length->S'.left<S.left):∀ n,(inA T n).Pays 4
 | 0=>(show (Prog.ret ()).Notes 4 from .ret _ _).pays
 | n+1=>by
   intro S a S' hr hl
   obtain⟨e,S1,h1,h2⟩:=Prog.bind_some hr
   have hl1:=run_back h2 hl
   have hn:=h4.run S
   have hlf:=Prog.run_left T S
   rw [h1] at hn hlf
   simp only at hn hlf
   by_cases he:e=11
   · subst he
     rw [if_pos rfl] at h2
     have:=inA_pays h4 hf n S1 a S' h2 hl
     have:=hf S S1 h1 hl1
     omega
   · rw [if_neg he] at h2
     have:=(show (Prog.ret ()).Notes 0 from .ret _ _).pays S1 a S' h2 hl
     omega
def insideA {α:Type} (I U:Prog Unit) (Q:Prog α):Prog α:=I.bind fun _=>Q.bind fun x=>U.bind fun _=>.ret x
theorem insideA_pays {α:Type}{I U:Prog Unit}{Q:Prog α}(hI:I.Pays 4)(hU:U.Notes 1)(hQ:Q.Pays (-10)):(insideA I U Q).Pays (-5) :=
 (hI.bind fun _=>hQ.bind fun x=>hU.pays.bind fun _=>(show (Prog.ret x).Notes 0 from .ret _ _).pays).mono (by omega)
theorem insideA_bind {α β:Type}(I U:Prog Unit)(Q:Prog α)(f:α->Prog β):(insideA I U Q).bind f=I.bind fun _=>Q.bind fun x=>U.bind fun _=>f x:=by
 unfold insideA
 simp only [Prog.bind_assoc]
 rfl
theorem insideA_asks {α:Type}{Q:Prog α}(I U:Prog Unit)(hQ:Q.Asks):(insideA I U Q).Asks:=Prog.Asks.then (fun _=>hQ.bind _) I
end Kv
namespace Go.Proofs.YtbaajjkopdjbgaaGreat
open Kv
structure LkUse (alg:Int) (N:Nat) (mode base loc room:Int) (rs:List Reg) (m:Nat):Prop where
 ok:LkOk alg N mode base loc room rs
 hm:m<N
 hN:¬ (N=1/\mode=2)
theorem lkA_pays (D:Nat)(alg:Int)(N:Nat)(base loc room:Int)(rs:List Reg)(m n:Nat):(inA (lkA D alg N base loc room rs m) n).Pays 4:=inA_pays (notes_lkA ..) (fun _ _ h hl=>lkA_fail h hl) n
theorem load_obj {ops:Array Oper}{rest:List Oper}{op0 op:Oper}{a:Act}{w:World}{Q:Exit->Act->World->Prop}(hg0:op0.guard=none)(y:Operand)(ho0:op0.op=.move y)(hgd:op.guard=none)(x:Operand)(ho:op.op=.load 69 x)
  (b:Nat)(hx:(a.put op0.dst (a.eval y)).eval x=.pointer (some ⟨b,0,none⟩)){cs:Array Value}{t:TypeId}{fz:Nat × Nat}(h:w.heap[b]?=some (.cells cs t fz))(hn:cs.size=23)
  (hK:wpList Tryz.prog ops Q rest ((a.put op0.dst (a.eval y)).put op.dst (.agg cs)) w):wpList Tryz.prog ops Q (op0 :: op :: rest) a w:=by
 have hv:(loadVar 69 ⟨b,0,none⟩).run Tryz.prog w=.ok (.agg cs) w:=by
  refine run_loadVar_row _ _ _ _ cs fz _ h Tryz.underlying69 rfl ?_
  rw [hn]
  kernel_rfl
 refine wpList_plain hg0 fun _ hK'=>?_
 unfold Oper.wp execOp
 simp only [ho0,Sem.run_pure]
 refine hK' _ _ ?_
 refine wpList_plain hgd fun _ hK'=>?_
 unfold Oper.wp execOp
 simp only [ho,hx,Instr.loadAt,Instr.sureAddr,Sem.run_bind,Sem.run_pure,Result.andThen_ok,hv]
 exact hK' _ _ hK
end Go.Proofs.YtbaajjkopdjbgaaGreat
namespace Go.Proofs.YtbaajjkopdjbgaaGreat
open Go.RowKit Kv
set_option maxRecDepth 100000 in
theorem in_p (B p N D:Nat)(S:TS)(alg mode base loc room:Int)(m:Nat)(rs:List Reg)(w:World)(h:Plays B w p S)(hk:LkUse alg N mode base loc room rs m)(hta:TameA S)(hD:S.left<D)(hn0:S.nts.length+10*S.left<=90000) :
  Calls Tryz.prog 48 #[.pointer (some ⟨p,0,none⟩),.agg #[V Z alg,V Z N,V Z mode,V Z base,V Z loc,V Z room],V Z m] w (Post encU B p w ((inA (lkA D alg N base loc room rs m) D).run S)):=by
 generalize hR:Post encU B p w ((inA (lkA D alg N base loc room rs m) D).run S)=R
 have hO:Owes R encU B p w ((inA (lkA D alg N base loc room rs m) D).run S):=hR▸owes _ _ _ _ _
 clear hR
 obtain⟨b1,hK,hP⟩:=h.entry (.cells #[V Z alg,V Z N,V Z mode,V Z base,V Z loc,V Z room] 23)
 have c_b1:=b1.cells;clear h
 have hacq:=Hd fun S W hP hta hD hn=>lkacq_p B p N D S alg mode base loc room m rs W hP hk.ok hk.hm hk.hN hta hD hn
 have hfail:=Hd fun S S'=>lkA_fail (D:=D) (alg:=alg) (N:=N) (base:=base) (loc:=loc) (room:=room) (rs:=rs) (m:=m) (S:=S) (S':=S')
 have hT4:=Hd (notes_lkA D alg N base loc room rs m)
 generalize lkA D alg N base loc room rs m=T at *
 have hOh:=Hd hO;clear hO hk
 go_enter Tryz.func48,Tryz.ntmps48
 go_wp2_with fail
 generalize w.heap.size=z at *
 generalize World.alloc w _=W0 at *
 clear c_b1
 go_loopw [] (fun wr'=>∃ (n:Nat) (S2:TS),Plays B wr' p S2/\KeepP B p w wr'/\HeldP wr' p z (.cells #[V Z alg,V Z N,V Z mode,V Z base,V Z loc,V Z room] 23)/\TameA S2/\S2.left<D/\S2.nts.length+10*S2.left<=90000/\S2.left<n/\Hid (Owes R encU B p w ((inA T n).run S2))) (fun wr'=>leftW 1 3 wr' p)
 case atStart=>exact⟨D,S,hP,hK,b1,hta,hD,hn0,hD,hOh⟩
 case round =>
  clear hP hK b1 hta hD hn0 hOh
  obtain⟨n,S2,hP,hK,b1,hta,hD,hn0,hn,hO⟩:=hrel
  replace hO:=hO.out
  have hlw:=Hd hP.left
  cases n with
  | zero=>omega
  | succ n =>
    rw [show inA T (n+1)=T.bind fun e=>if e=11 then inA T n else .ret () from rfl] at hO
    have hOh:=Hd hO;clear hO;have c_b1:=b1.cells;go_wp2_with fail
    clear c_b1
    refine tstepA hT4.out hOh.out hK (hacq.out S2 _ hP hta hD (by omega)) (fun _ h=>⟨rfl,h⟩) ?_
    clear hOh hK hP;intro e S3 w3 hrun hlf _ hnn hP hk hK hO
    have hlw2:=Hd hP.left
    by_cases he:e=11
    · have de:(e==11)=true:=by rw [beq_iff_eq];exact he
      have hdec:=hfail.out S2 S3 (he▸hrun) hP.1
      rw [if_pos he] at hO;have hOh:=Hd hO;replace b1:=b1.keep hk;replace hta:=hta.run hrun;clear hO hk hrun he;go_wp2_with fail
      refine⟨⟨n,S3,hP,hK,b1,hta,by omega,by omega,by omega,hOh⟩,?_⟩
      rw [hlw.out,hlw2.out]
      omega
    · have de:(e==11)=false:=by rw [beq_eq_false_iff_ne];exact he
      rw [if_neg he] at hO
      have hf:=hO.done hP hK
      clear hO hP hK hk hrun hlw hlw2 he b1;go_wp2_with fail
      first | exact hf | (refine bodyPost_ret (results_none rfl _ _ _) rfl ?_;exact hf)
set_option maxRecDepth 100000 in
theorem out_p (B p N:Nat)(S:TS)(alg mode base loc room:Int)(m:Nat)(rs:List Reg)(w:World)(h:Plays B w p S)(hk:LkUse alg N mode base loc room rs m)(hn0:S.nts.length<=100000) :
  Calls Tryz.prog 49 #[.pointer (some ⟨p,0,none⟩),.agg #[V Z alg,V Z N,V Z mode,V Z base,V Z loc,V Z room],V Z m] w (Post encU B p w ((lkR alg N base loc rs m).run S)):=by
 generalize hR:Post encU B p w ((lkR alg N base loc rs m).run S)=R
 have hO:Owes R encU B p w ((lkR alg N base loc rs m).run S):=hR▸owes _ _ _ _ _
 clear hR
 obtain⟨b1,hK,hP⟩:=h.entry (.cells #[V Z alg,V Z N,V Z mode,V Z base,V Z loc,V Z room] 23)
 have c_b1:=b1.cells;clear h
 have hq:=fun W hP=>lkrel_p B p N S alg mode base loc room m rs W hP hk.ok hk.hm hn0
 go_enter Tryz.func49,Tryz.ntmps49
 go_wp2_with fail
 refine tlast hO hK (hq _ hP) (fun _ h=>⟨rfl,h⟩) ?_
 clear hO hK hP hq c_b1;intro u S9 w9 hr9 hP hk9 hK hO
 have hf:=hO.done hP hK
 clear hO hP hK hr9 hk9;go_wp2_with fail
 first | exact hf | (refine bodyPost_ret (results_none rfl _ _ _) rfl ?_;exact hf) | (go_ret;exact hf)
def PostX {α:Type} (X:Nat->Prop) (Vq:α->World->Prop) (B p:Nat) (w0:World) (r:Option α × TS) (e:Ending) (w':World):Prop :=
 match r.1 with
 | some v=>e=.returned (.tuple #[])/\Plays B w' p r.2/\KeepX X [2,3,4] B p w0 w'/\Vq v w'
 | none=>e=stopE p/\Stops B w' p r.2/\KeepX X [2,3,4] B p w0 w'
def OwesX {α:Type} (R:Ending->World->Prop) (X:Nat->Prop) (Vq:α->World->Prop) (B p:Nat) (w0:World) (r:Option α × TS):Prop:=∀ e w',PostX X Vq B p w0 r e w'->R e w'
section
variable {α β:Type} {X:Nat->Prop} {Vq:α->World->Prop} {B p:Nat} {w0 w:World} {S:TS} {R:Ending->World->Prop}
theorem OwesX.done {v:α}{w':World}(h:OwesX R X Vq B p w0 (some v,S))(h1:Plays B w' p S)(h2:KeepX X [2,3,4] B p w0 w')(h3:Vq v w'):R (.returned (.tuple #[])) w':=h _ _ ⟨rfl,h1,h2,h3⟩
end
def encS (x:Int):Value:=.bool (x==0)
@[go_sem] theorem encS_eq (x:Int):encS x=.bool (x==0):=rfl
set_option maxRecDepth 100000 in
theorem alloc_obj (w:World)(a:Act)(op:Oper)(h:op.op=.alloc 69):∃ c:Array Value,c.size=23/\(execOp a.eval op).run Tryz.prog w=.ok (.value (.pointer (some ⟨w.heap.size,0,none⟩))) (w.alloc (.cells c 69)):=by
 refine⟨#[V Z 0,V Z 0,V Z 0,V Z 0,V Z 0,V Z 0,V Z 0,V Z 0,V Z 0,V Z 0,V Z 0,V Z 0,V Z 0,V Z 0,V Z 0,V Z 0,V Z 0,V Z 0,V Z 0,V Z 0,V Z 0,V Z 0,V Z 0],rfl,?_⟩
 unfold execOp
 rw [h]
 go_simp
theorem new_obj {ops:Array Oper}{rest:List Oper}{op0 op:Oper}{a:Act}{w:World}{Q:Exit->Act->World->Prop}(hg0:op0.guard=none)(ho0:op0.op=.alloc 69)(hgd:op.guard=none)(x y:Operand)(ho:op.op=.store 69 x y)
  (cs:Array Value)(hx:(a.put op0.dst (.pointer (some ⟨w.heap.size,0,none⟩))).eval x=.pointer (some ⟨w.heap.size,0,none⟩))(hy:(a.put op0.dst (.pointer (some ⟨w.heap.size,0,none⟩))).eval y=.agg cs)(hn:cs.size=23)(h1:cs.all (·.oneCell')=true)
  (hK:wpList Tryz.prog ops Q rest ((a.put op0.dst (.pointer (some ⟨w.heap.size,0,none⟩))).put op.dst undef) (w.alloc (.cells cs 69))):wpList Tryz.prog ops Q (op0 :: op :: rest) a w:=by
 obtain⟨c,hc,hal⟩:=alloc_obj w a op0 ho0
 refine wpList_plain hg0 fun _ hK'=>?_
 unfold Oper.wp
 rw [hal]
 refine hK' _ _ ?_
 refine wpList_plain hgd fun _ hK'=>?_
 have hst:=run_storeAt_new (P:=Tryz.prog) w 69 c cs (by rw [hn];kernel_rfl) (by rw [hc,hn]) h1
 unfold Oper.wp execOp
 simp only [ho,hx,hy,Sem.run_bind,hst,Sem.run_pure,Result.andThen_ok]
 exact hK' _ _ hK
theorem obj_run {op:Oper}{a:Act}{w:World}{x:Operand}(ho:op.op=.load 69 x)(b:Nat)(hx:a.eval x=.pointer (some ⟨b,0,none⟩)){cs:Array Value}{t:TypeId}{fz:Nat × Nat}(h:w.heap[b]?=some (.cells cs t fz))(hn:cs.size=23):(execOp a.eval op).run Tryz.prog w=.ok (.value (.agg cs)) w:=by
 have hv:(loadVar 69 ⟨b,0,none⟩).run Tryz.prog w=.ok (.agg cs) w:=by
  refine run_loadVar_row _ _ _ _ cs fz _ h Tryz.underlying69 rfl ?_
  rw [hn]
  kernel_rfl
 unfold execOp
 simp only [ho,hx,Instr.loadAt,Instr.sureAddr,Sem.run_bind,Sem.run_pure,Result.andThen_ok,hv]
theorem load_objS {ops:Array Oper}{rest:List Oper}{op:Oper}{a:Act}{w:World}{Q:Exit->Act->World->Prop}(hgd:op.guard=none)(x:Operand)(ho:op.op=.load 69 x)(b:Nat)(hx:a.eval x=.pointer (some ⟨b,0,none⟩)){cs:Array Value}{t:TypeId}{fz:Nat × Nat}(h:w.heap[b]?=some (.cells cs t fz))(hn:cs.size=23)
  (hK:wpList Tryz.prog ops Q rest (a.put op.dst (.agg cs)) w):wpList Tryz.prog ops Q (op :: rest) a w:=by
 refine wpList_plain hgd fun _ hK'=>?_
 unfold Oper.wp
 rw [obj_run ho b hx h hn]
 exact hK' _ _ hK
end Go.Proofs.YtbaajjkopdjbgaaGreat
namespace Kv
def diagL (d:Nat):Nat->List (Nat × Nat)
 | 0=>[]
 | y+1=>diagL d y++[(d-y,y)]
def triPts:Nat->List (Nat × Nat)
 | 0=>[]
 | d+1=>triPts d++diagL d (d+1)
end Kv
namespace Go.Proofs.YtbaajjkopdjbgaaGreat
open Go.RowKit Kv
def ptVals (q:Nat × Nat):List Value:=[V Z q.1,V Z q.2,.bool true]
theorem info_pt:(Tryz.prog.info? 202).map (fun i=>(i.zero,i.size,i.bytes))=some (some (.agg #[V Z 0,V Z 0,.bool false]),3,24):=by kernel_rfl
@[go_sem] theorem build_pt (a b:Int) (c:Bool) (w:World):(Instr.build 202 #[(0,V Z a),(1,V Z b),(2,.bool c)]).run Tryz.prog w=.ok (.agg #[V Z a,V Z b,.bool c]) w:=run_build w 202 _ _ (by kernel_rfl)
theorem ptRow_snoc (d y:Nat):(triPts d++diagL d (y+1)).flatMap ptVals=(triPts d++diagL d y).flatMap ptVals++ptVals (d-y,y):=by
 rw [diagL,<- List.append_assoc,List.flatMap_append]
 simp
def ptRow (d y:Nat):List Value:=(triPts d++diagL d y).flatMap ptVals
theorem ptRow_zero (d:Nat):ptRow d 0=(triPts d).flatMap ptVals:=by unfold ptRow diagL;rw [List.append_nil]
theorem ptRow_full (d:Nat):ptRow d (d+1)=ptRow (d+1) 0:=by rw [ptRow_zero];rfl
set_option maxRecDepth 100000 in
set_option maxHeartbeats 1000000 in
theorem list05_r (n:Nat)(w:World)(hn:n<=64):Calls Tryz.prog 267 #[V Z n] w fun e w'=>∃ v,e=.returned v/\w'.ownsRow w.heap.size 202 3 v (triN n) ((triPts n).flatMap ptVals)/\Ext w w':=by
 go_enter Tryz.func267,Tryz.ntmps267
 go_wp2_with fail
 go_loopw [3,4,5] (fun v i _ wr=>∃ d:Nat,i=V Z d/\d<=n/\wr.ownsRow w.heap.size 202 3 v (triN d) (ptRow d 0)/\Ext w wr) (fun _ i _ _=>n-(intOf i).toNat)
 case atStart=>exact⟨0,rfl,by omega,World.ownsRow_nil _ _ _ _,Ext.refl _⟩
 case round =>
  obtain⟨d,rfl,hd,hown,hE⟩:=hrel
  by_cases hl:d<n
  · have d1:decide ((d:Int)<(n:Int))=true:=by rw [decide_eq_true_eq];omega
    have d2:decide ((d:Int)<64)=true:=by rw [decide_eq_true_eq];omega
    have ht:=triN_64 (show d<=64 by omega)
    generalize hT:triN d=T at *
    go_wp2_with fail
    go_loopw [3,5] (fun v i wr=>∃ y:Nat,i=V Z y/\y<=d+1/\wr.ownsRow w.heap.size 202 3 v (T+y) (ptRow d y)/\Ext w wr) (fun _ i _=>d+1-(intOf i).toNat)
    case atStart=>exact⟨0,rfl,by omega,hown,hE⟩
    case round =>
     clear hown hE
     obtain⟨y,rfl,hy,hown,hE⟩:=hrel
     by_cases hyd:y<d+1
     · have d3:decide ((y:Int)<=(d:Int))=true:=by rw [decide_eq_true_eq];omega
       have hw:=IntWalk.i64_in ((d:Int)-(y:Int)) (by omega)
       go_wp2_with (at_builtin;refine append_rec info_pt Tryz.underlying198 rfl (by decide) (by decide) rfl _ _ rfl _ (T+y) _ [V Z ((d:Int)-(y:Int)),V Z y,.bool true] hE hown rfl rfl rfl (by simp [Value.oneCell']) (by omega) ?_)
       intro v' w' ho hx _
       have hoh:Hid (w'.ownsRow w.heap.size 202 3 v' (T+(y+1)) (ptRow d (y+1))):=Hd (by
        rw [ptRow,ptRow_snoc,ptVals,show ((d-y:Nat):Int)=(d:Int)-(y:Int) from by omega];exact ho)
       clear hown ho hE;go_wp2_with fail
       refine⟨⟨y+1,by go_num,by omega,hoh.out,hx⟩,?_⟩
       simp [intOf];omega
     · obtain rfl:y=d+1:=by omega
       have d3:decide (((d+1:Nat):Int)<=(d:Int))=false:=by rw [decide_eq_false_iff_not];omega
       have hoh:Hid (wr.ownsRow w.heap.size 202 3 u3 (triN (d+1)) (ptRow (d+1) 0)):=Hd (by
        rw [triN_succ,hT,<- ptRow_full];exact hown)
       clear hown;go_wp2_with fail
       refine⟨⟨d+1,by go_num,by omega,hoh.out,hE⟩,?_⟩
       simp [intOf];omega
  · obtain rfl:d=n:=by omega
    have d1:decide ((d:Int)<(d:Int))=false:=by simp
    have hoh:Hid (wr.ownsRow w.heap.size 202 3 u3 (triN d) ((triPts d).flatMap ptVals)):=Hd (by rw [<- ptRow_zero];exact hown)
    clear hown;go_wp2_with fail
    go_ret
    exact⟨_,rfl,hoh.out,hE⟩
set_option maxRecDepth 100000 in
set_option maxHeartbeats 1000000 in
theorem renwants_r (N:Nat)(w:World)(h1:1<=N)(h2:N<=8) :
  Calls Tryz.prog 213 #[V Z N] w fun e w'=>∃ v,e=.returned v/\w'.ownsRow w.heap.size 179 2 v (2*triN N) ((renW (triN N) N).flatMap wantVals)/\Ext w w':=by
 have hn:nM (N:Int)=N:=nM_id (by omega) (by omega)
 have hL:=fun w=>list05_r N w (by omega)
 have hW:=fun w=>rwants31_r N w
 rw [hn] at hW
 obtain⟨q1,q2⟩:=triN_le h1 h2
 generalize (triPts N).flatMap ptVals=pts at *
 generalize triN N=M at *
 go_enter Tryz.func213,Tryz.ntmps213
 go_wp2_with fail
 refine (rn_any ⟨0,0,0,N,0,0,0⟩ _).mono ?_
 rintro e w1 ⟨rfl,hx⟩
 try simp only
 rw [hn]
 clear hn;go_wp2_with fail
 go_loopw [4,5] (fun v i wr=>∃ j:Nat,i=V Z j/\j<=M/\wr.ownsRow w.heap.size 179 2 v (2*j) ((renW j N).flatMap wantVals)/\Ext w wr) (fun _ i _=>M-(intOf i).toNat)
 case atStart=>exact⟨0,rfl,by omega,World.ownsRow_nil _ _ _ _,hx⟩
 case round =>
  clear hx
  obtain⟨j,rfl,hj,hown,hX⟩:=hrel
  go_wp2_with fail
  refine (hL _).mono ?_
  rintro e w2 ⟨v1,rfl,hr1,hx2⟩
  obtain⟨A1,c1,rfl,-,-,-⟩:=Recs.of_row hr1
  replace hown:=row_ext hown hx2;replace hX:=hX.trans hx2;clear hx2 hr1
  by_cases hl:j<M
  · have d1:decide ((j:Int)<(M:Int))=true:=by rw [decide_eq_true_eq];omega
    go_wp2_with fail
    refine (hW _).mono ?_
    rintro e w3 ⟨v2,rfl,hr2,hx3⟩
    replace hown:=row_ext hown hx3;replace hX:=hX.trans hx3
    obtain⟨A,c,rfl,r1,r2,hV⟩:=hr2
    obtain⟨b,rfl,hb,hc⟩:=hV (by simp [wantVals])
    clear hV hx3
    go_wp2_with (at_builtin;refine append_recs info_want Tryz.underlying102 rfl (by decide) (by decide) rfl _ _ rfl _ (2*j) _ (([⟨-1,(N:Int)⟩,⟨-1,1⟩]:List Want).flatMap wantVals) ⟨b,0,none⟩ 2 c hX hown rfl rfl rfl (fun i u hu=>by rw [Addr.add_lit,Nat.zero_add];exact hc i u hu) (fun u hu=>by simp [wantVals] at hu;rcases hu with rfl | rfl | rfl | rfl <;> rfl) (by omega) (by omega) ?_)
    intro v' w' ho hx'
    have hoh:Hid (w'.ownsRow w.heap.size 179 2 v' (2*(j+1)) ((renW (j+1) N).flatMap wantVals)):=Hd (by
     rw [renW,List.flatMap_append];exact ho)
    clear hown ho hc;go_wp2_with fail
    refine⟨⟨j+1,by go_num,by omega,hoh.out,hx'⟩,?_⟩
    simp [intOf];omega
  · obtain rfl:j=M:=by omega
    have d1:decide ((j:Int)<(j:Int))=false:=by simp
    have hownh:=Hd hown
    clear hown;go_wp2_with fail
    go_ret
    exact⟨_,rfl,hownh.out,hX⟩
theorem places_r (N:Nat)(w:World)(h1:1<=N)(h2:N<=8):Calls Tryz.prog 215 #[V Z N] w fun e w'=>e=.returned (V Z (triN N))/\Ext w w':=by
 have hn:nM (N:Int)=N:=nM_id (by omega) (by omega)
 have hL:=fun w=>list05_r N w (by omega)
 generalize (triPts N).flatMap ptVals=pts at *
 generalize triN N=M at *
 go_enter Tryz.func215,Tryz.ntmps215
 go_wp2_with fail
 refine (rn_any ⟨0,0,0,N,0,0,0⟩ _).mono ?_
 rintro e w1 ⟨rfl,hx⟩
 try simp only
 rw [hn]
 clear hn;go_wp2_with fail
 refine (hL _).mono ?_
 rintro e w2 ⟨v1,rfl,hr1,hx2⟩
 obtain⟨A1,c1,rfl,-,-,-⟩:=Recs.of_row hr1
 have hf:=Hd (hx.trans hx2)
 clear hx hx2 hr1 hL;go_wp2_with fail
 go_ret
 exact⟨rfl,hf.out⟩
theorem wants28_0 (w:World):Calls Tryz.prog 241 #[V Z 0] w fun e w'=>e=.returned (.slice none 0 0)/\Ext w w':=by
 go_enter Tryz.func241,Tryz.ntmps241
 go_wp2_with fail
 go_loopw [3,4] (fun v i wr=>i=V Z 0/\v=.slice none 0 0/\Ext w wr) (fun _ _ _=>0)
 case atStart=>exact⟨rfl,rfl,Ext.refl _⟩
 case round =>
  obtain⟨rfl,rfl,hX⟩:=hrel
  go_wp2_with fail
  go_ret
  exact⟨rfl,hX⟩
theorem rtwants1_r (w:World):Calls Tryz.prog 180 #[V Z 6,V Z 1] w fun e w'=>e=.returned (.slice none 0 0)/\Ext w w':=by
 have hL:=fun w=>leaves_r 1 w (by omega)
 have hE:=fun w=>each_r 6 w
 rw [show (2 ^ levels ((1:Nat):Int):Nat)=1 from by decide] at hL
 rw [each6] at hE
 go_enter Tryz.func180,Tryz.ntmps180
 go_wp2_with fail
 refine (hE _).mono ?_
 rintro e w' ⟨rfl,rfl⟩;go_wp2_with fail
 refine (hL _).mono ?_
 rintro e w' ⟨rfl,rfl⟩;go_wp2_with fail
 refine (wants28_0 _).mono ?_
 rintro e w3 ⟨rfl,hx⟩
 go_wp2_with fail
 go_ret
 exact⟨rfl,hx⟩
set_option maxRecDepth 100000 in
set_option maxHeartbeats 1000000 in
theorem adwants_r (N:Nat)(w:World)(h1:1<=N)(h2:N<=8) :
  Calls Tryz.prog 181 #[V Z N] w fun e w'=>∃ v,e=.returned v/\WantsAt w' v (adWants N)/\Ext w w':=by
 obtain⟨q1,q2⟩:=triN_le h1 h2
 have hPl:=fun w=>places_r N w h1 h2
 have ht:=adTree_le h1 h2
 have hW:=fun w=>rtwants_r 6 (triN N) w (by omega)
 rw [each6] at hW
 have hR:=fun w=>renwants_r N w h1 h2
 have hlen:=adWants_len (N:=N)
 have had:adWants N=renW (triN N) N++List.replicate (3*(2 ^ levels (triN N:Nat)-1)) (⟨-1,1⟩:Want):=rfl
 have hLh:=Hd (show triN N≠1->3*(2 ^ levels (triN N:Nat)-1)≠0 from fun h=>tree_pos (by omega) q2)
 have hL1:=Hd (show triN N=1->3*(2 ^ levels (triN N:Nat)-1)=0 from fun h=>by rw [h];decide)
 unfold treeWants at hW
 generalize 3*(2 ^ levels (triN N:Nat)-1)=L at *
 generalize hl1:renW (triN N) N=l1 at *
 generalize triN N=M at *
 have hlenh:=Hd hlen
 have hadh:=Hd had
 clear hlen had
 go_enter Tryz.func181,Tryz.ntmps181
 go_wp2_with fail
 refine (hR _).mono ?_
 rintro e w2 ⟨v,rfl,hown,hX⟩
 go_wp2_with fail
 refine (hPl _).mono ?_
 rintro e w9 ⟨rfl,hx9⟩
 replace hown:=row_ext hown hx9;replace hX:=hX.trans hx9;clear hx9;go_wp2_with fail
 by_cases hM1:M=1
 · subst hM1
   obtain rfl:L=0:=hL1.out rfl
   clear hW
   refine (rtwants1_r _).mono ?_
   rintro e w3 ⟨rfl,hx3⟩
   replace hown:=row_ext hown hx3;replace hX:=hX.trans hx3;clear hx3
   go_wp2_with (at_builtin;refine append_none info_want Tryz.underlying102 rfl _ _ rfl w.heap.size _ (2*1) _ hown rfl rfl ?_)
   have hf:Hid (WantsAt w3 v (adWants N)):=Hd (by
    have:=Recs.of_row hown
    unfold WantsAt
    rw [hlenh.out,hadh.out]
    simpa using this)
   clear hown;go_wp2_with fail
   go_ret
   exact⟨_,rfl,hf.out,hX⟩
 · refine (hW _).mono ?_
   rintro e w3 ⟨v2,rfl,hr2,hx3⟩
   replace hown:=row_ext hown hx3;replace hX:=hX.trans hx3;clear hx3
   obtain⟨A,c,rfl,r1,r2,hV⟩:=hr2
   rw [List.length_replicate] at *
   have hfl:((List.replicate L (⟨-1,1⟩:Want)).flatMap wantVals).length=L*2:=by
    rw [List.length_flatMap]
    simp [wantVals]
   obtain⟨b,rfl,hb,hc⟩:=hV (by
    have hL0:=hLh.out hM1
    cases L with
    | zero=>exact absurd rfl hL0
    | succ L=>simp [wantVals,List.replicate])
   clear hV
   go_wp2_with (at_builtin;refine append_recs info_want Tryz.underlying102 rfl (by decide) (by decide) rfl _ _ rfl _ (2*M) _ ((List.replicate L (⟨-1,1⟩:Want)).flatMap wantVals) ⟨b,0,none⟩ L c hX hown rfl rfl hfl (fun i u hu=>by rw [Addr.add_lit,Nat.zero_add];exact hc i u hu) (fun u hu=>by
    obtain⟨q,_,hq⟩:=List.mem_flatMap.1 hu
    simp [wantVals] at hq;rcases hq with rfl | rfl <;> rfl) (by omega) (by omega) ?_)
   intro v' w' ho hx'
   have hf:Hid (WantsAt w' v' (adWants N)):=Hd (by
    have:=Recs.of_row ho
    unfold WantsAt
    rw [hlenh.out,hadh.out,List.flatMap_append]
    exact this)
   clear hown ho hc;go_wp2_with fail
   go_ret
   exact⟨_,rfl,hf.out,hx'⟩
set_option maxRecDepth 100000 in
theorem lkw3 (N:Nat)(mode base loc room:Int)(w:World)(h1:1<=N)(h2:N<=8):Calls Tryz.prog 100 #[.agg #[V Z 3,V Z N,V Z mode,V Z base,V Z loc,V Z room]] w fun e w'=>∃ v,e=.returned v/\WantsAt w' v (bwWants N)/\Ext w w':=by
 have hX:=Ext.refl w
 have b1:=Blk.new w (.cells #[V Z 3,V Z N,V Z mode,V Z base,V Z loc,V Z room] 23)
 replace hX:=hX.alloc (.cells #[V Z 3,V Z N,V Z mode,V Z base,V Z loc,V Z room] 23)
 have c_b1:=b1.cells
 go_enter Tryz.func100,Tryz.ntmps100
 go_wp2_with fail
 refine (bwwants_r N _ h1 h2).mono ?_
 rintro e w2 ⟨v,rfl,hv,hx⟩
 have hf:=Hd (And.intro hv (hX.trans hx))
 clear hv hx c_b1;go_wp2_with fail
 go_ret
 exact⟨_,rfl,hf.out.1,hf.out.2⟩
set_option maxRecDepth 100000 in
theorem lkw4 (N:Nat)(mode base loc room:Int)(w:World)(h1:1<=N)(h2:N<=8):Calls Tryz.prog 100 #[.agg #[V Z 4,V Z N,V Z mode,V Z base,V Z loc,V Z room]] w fun e w'=>∃ v,e=.returned v/\WantsAt w' v (filWants N)/\Ext w w':=by
 have hX:=Ext.refl w
 have b1:=Blk.new w (.cells #[V Z 4,V Z N,V Z mode,V Z base,V Z loc,V Z room] 23)
 replace hX:=hX.alloc (.cells #[V Z 4,V Z N,V Z mode,V Z base,V Z loc,V Z room] 23)
 have c_b1:=b1.cells
 go_enter Tryz.func100,Tryz.ntmps100
 go_wp2_with fail
 refine (filwants_r N _ h1 h2).mono ?_
 rintro e w2 ⟨v,rfl,hv,hx⟩
 have hf:=Hd (And.intro hv (hX.trans hx))
 clear hv hx c_b1;go_wp2_with fail
 go_ret
 exact⟨_,rfl,hf.out.1,hf.out.2⟩
set_option maxRecDepth 100000 in
theorem lkw5 (N:Nat)(mode base loc room:Int)(w:World)(h1:1<=N)(h2:N<=8):Calls Tryz.prog 100 #[.agg #[V Z 5,V Z N,V Z mode,V Z base,V Z loc,V Z room]] w fun e w'=>∃ v,e=.returned v/\WantsAt w' v (fastWants N)/\Ext w w':=by
 have hX:=Ext.refl w
 have b1:=Blk.new w (.cells #[V Z 5,V Z N,V Z mode,V Z base,V Z loc,V Z room] 23)
 replace hX:=hX.alloc (.cells #[V Z 5,V Z N,V Z mode,V Z base,V Z loc,V Z room] 23)
 have c_b1:=b1.cells
 go_enter Tryz.func100,Tryz.ntmps100
 go_wp2_with fail
 refine (fastwants_r N _ h1 h2).mono ?_
 rintro e w2 ⟨v,rfl,hv,hx⟩
 have hf:=Hd (And.intro hv (hX.trans hx))
 clear hv hx c_b1;go_wp2_with fail
 go_ret
 exact⟨_,rfl,hf.out.1,hf.out.2⟩
set_option maxRecDepth 100000 in
theorem lkw6 (N:Nat)(mode base loc room:Int)(w:World)(h1:1<=N)(h2:N<=8):Calls Tryz.prog 100 #[.agg #[V Z 6,V Z N,V Z mode,V Z base,V Z loc,V Z room]] w fun e w'=>∃ v,e=.returned v/\WantsAt w' v (treeWants (eachK 6) N)/\Ext w w':=by
 have hX:=Ext.refl w
 have b1:=Blk.new w (.cells #[V Z 6,V Z N,V Z mode,V Z base,V Z loc,V Z room] 23)
 replace hX:=hX.alloc (.cells #[V Z 6,V Z N,V Z mode,V Z base,V Z loc,V Z room] 23)
 have c_b1:=b1.cells
 go_enter Tryz.func100,Tryz.ntmps100
 go_wp2_with fail
 refine (rtwants_r 6 N _ (by omega)).mono ?_
 rintro e w2 ⟨v,rfl,hv,hx⟩
 have hf:=Hd (And.intro hv (hX.trans hx))
 clear hv hx c_b1;go_wp2_with fail
 go_ret
 exact⟨_,rfl,hf.out.1,hf.out.2⟩
set_option maxRecDepth 100000 in
theorem lkw7 (N:Nat)(mode base loc room:Int)(w:World)(h1:1<=N)(h2:N<=8):Calls Tryz.prog 100 #[.agg #[V Z 7,V Z N,V Z mode,V Z base,V Z loc,V Z room]] w fun e w'=>∃ v,e=.returned v/\WantsAt w' v (treeWants (eachK 7) N)/\Ext w w':=by
 have hX:=Ext.refl w
 have b1:=Blk.new w (.cells #[V Z 7,V Z N,V Z mode,V Z base,V Z loc,V Z room] 23)
 replace hX:=hX.alloc (.cells #[V Z 7,V Z N,V Z mode,V Z base,V Z loc,V Z room] 23)
 have c_b1:=b1.cells
 go_enter Tryz.func100,Tryz.ntmps100
 go_wp2_with fail
 refine (rtwants_r 7 N _ (by omega)).mono ?_
 rintro e w2 ⟨v,rfl,hv,hx⟩
 have hf:=Hd (And.intro hv (hX.trans hx))
 clear hv hx c_b1;go_wp2_with fail
 go_ret
 exact⟨_,rfl,hf.out.1,hf.out.2⟩
set_option maxRecDepth 100000 in
theorem lkw8 (N:Nat)(mode base loc room:Int)(w:World)(h1:1<=N)(h2:N<=8):Calls Tryz.prog 100 #[.agg #[V Z 8,V Z N,V Z mode,V Z base,V Z loc,V Z room]] w fun e w'=>∃ v,e=.returned v/\WantsAt w' v (adWants N)/\Ext w w':=by
 have hX:=Ext.refl w
 have b1:=Blk.new w (.cells #[V Z 8,V Z N,V Z mode,V Z base,V Z loc,V Z room] 23)
 replace hX:=hX.alloc (.cells #[V Z 8,V Z N,V Z mode,V Z base,V Z loc,V Z room] 23)
 have c_b1:=b1.cells
 go_enter Tryz.func100,Tryz.ntmps100
 go_wp2_with fail
 refine (adwants_r N _ h1 h2).mono ?_
 rintro e w2 ⟨v,rfl,hv,hx⟩
 have hf:=Hd (And.intro hv (hX.trans hx))
 clear hv hx c_b1;go_wp2_with fail
 go_ret
 exact⟨_,rfl,hf.out.1,hf.out.2⟩
theorem lkwants_r (alg:Int)(N:Nat)(mode base loc room:Int)(w:World)(ha:3<=alg/\alg<=8)(h1:1<=N)(h2:N<=8):Calls Tryz.prog 100 #[.agg #[V Z alg,V Z N,V Z mode,V Z base,V Z loc,V Z room]] w fun e w'=>∃ v,e=.returned v/\WantsAt w' v (lkWants alg N)/\Ext w w':=by
 have:alg=3∨alg=4∨alg=5∨alg=6∨alg=7∨alg=8:=by omega
 rcases this with rfl | rfl | rfl | rfl | rfl | rfl
 · exact lkw3 N mode base loc room w h1 h2
 · exact lkw4 N mode base loc room w h1 h2
 · exact lkw5 N mode base loc room w h1 h2
 · exact lkw6 N mode base loc room w h1 h2
 · exact lkw7 N mode base loc room w h1 h2
 · exact lkw8 N mode base loc room w h1 h2
theorem lkWants_le (alg:Int){N:Nat}(h1:1<=N)(h2:N<=8):(lkWants alg N).length<=300:=by
 unfold lkWants
 split
 · rw [bwWants_len];omega
 · split
   · rw [filWants_len];omega
   · split
     · rw [fastWants_len];omega
     · split
       · unfold treeWants
         rw [List.length_replicate]
         have hE:=(each_le alg).2
         have hle:=(pow_le (lev_le (show N<=64 by omega))).2
         have:=Nat.mul_le_mul hE (show 2 ^ levels (N:Int)-1<=63 by omega)
         omega
       · rw [adWants_len]
         have:=adTree_le h1 h2
         have:=(triN_le h1 h2).2
         omega
theorem size0_r (A:Option Addr)(c:Nat)(w:World):Calls Tryz.prog 182 #[.slice A 0 c] w fun e w'=>e=.returned (.tuple #[V Z 0,V Z 0])/\Ext w w':=by
 go_enter Tryz.func182,Tryz.ntmps182
 go_wp2_with fail
 go_loopw [4,5,6] (fun u v i wr=>i=V Z 0/\u=V Z 0/\v=V Z 0/\Ext w wr) (fun _ _ _ _=>0)
 case atStart=>exact⟨rfl,rfl,rfl,Ext.refl w⟩
 case round =>
  obtain⟨rfl,rfl,rfl,hX⟩:=hrel
  go_wp2_with fail
  first | go_ret2 | go_ret
  exact⟨rfl,hX⟩
theorem sizeV_r (v:Value)(rs:List Reg)(w:World)(h:RegsV w v rs)(hok:∀ r∈rs,r.ok)(hl:rs.length<=300) :
  Calls Tryz.prog 182 #[v] w fun e w'=>e=.returned (.tuple #[V Z (sumC rs),V Z (sumL rs)])/\Ext w w':=by
 obtain⟨A,c,rfl,q1,q2,hV⟩:=h
 by_cases h0:rs=[]
 · subst h0
   exact size0_r A c w
 · obtain⟨b,rfl,hb,hc⟩:=hV (by cases rs with | nil=>exact absurd rfl h0 | cons r l=>simp [regVals])
   exact size_r b c rs w hb hc hok hl
set_option maxRecDepth 100000 in
set_option maxHeartbeats 1000000 in
theorem lksize_r (alg:Int)(N:Nat)(mode base loc room:Int)(rs:List Reg)(w:World)(ha:1<=alg/\alg<=8)(h1:1<=N)(h2:N<=8)(hl:3<=alg->layM (lkWants alg N) N mode base loc=some rs) :
  Calls Tryz.prog 101 #[.agg #[V Z alg,V Z N,V Z mode,V Z base,V Z loc,V Z room]] w fun e w'=>e=.returned (.tuple #[V Z (lkC alg N rs),V Z (lkL alg rs)])/\Ext w w':=by
 have hX:=Ext.refl w
 have b1:=Blk.new w (.cells #[V Z alg,V Z N,V Z mode,V Z base,V Z loc,V Z room] 23)
 replace hX:=hX.alloc (.cells #[V Z alg,V Z N,V Z mode,V Z base,V Z loc,V Z room] 23)
 have c_b1:=b1.cells
 by_cases a1:alg=1
 · subst a1
   have hw:=IntWalk.i64_in (2*(N:Int)) (by omega)
   have e1:lkC 1 N rs=2*(N:Int):=rfl
   have e2:lkL 1 rs=1:=rfl
   rw [e1,e2]
   clear e1 e2 hl
   go_enter Tryz.func101,Tryz.ntmps101
   go_wp2_with fail
   first | go_ret2 | go_ret
   exact⟨rfl,hX⟩
 by_cases a2:alg=2
 · subst a2
   have e1:lkC 2 N rs=(N:Int):=rfl
   have e2:lkL 2 rs=0:=rfl
   rw [e1,e2]
   clear e1 e2 hl a1
   go_enter Tryz.func101,Tryz.ntmps101
   go_wp2_with fail
   first | go_ret2 | go_ret
   exact⟨rfl,hX⟩
 have hl:=hl (by omega)
 have hok:∀ r∈rs,r.ok:=fun r hr=>(laid_all hl r hr).1
 have hlen:=layM_len hl
 have hle:=lkWants_le alg h1 h2
 have hbd:=sum_bd hok rs.length (Nat.le_refl _)
 rw [List.take_length] at hbd
 have ha3:3<=alg/\alg<=8:=by omega
 have d1:(alg==1)=false:=by rw [beq_eq_false_iff_ne];exact a1
 have d2:(alg==2)=false:=by rw [beq_eq_false_iff_ne];exact a2
 have hC:lkC alg N rs=sumC rs:=by unfold lkC;rw [if_neg a1,if_neg a2]
 have hL:lkL alg rs=if alg=3∨alg=8 then sumL rs+1 else sumL rs:=by unfold lkL;rw [if_neg a1,if_neg a2]
 have hw:=IntWalk.i64_in (sumL rs+1) (by omega)
 have hCL:=Hd (And.intro hC hL)
 have hlh:=Hd hl
 have hokh:=Hd hok
 have hlen9:rs.length<=300:=by omega
 have hlenw:(lkWants alg N).length<=1000:=by omega
 have hlenh:=Hd (And.intro hlen9 hlenw)
 clear hl hok hlen hle hbd a1 a2 hC hL hlen9 hlenw
 go_enter Tryz.func101,Tryz.ntmps101
 go_wp2_with fail
 generalize w.alloc _=W at *
 have hXW:=hX;clear hX c_b1
 have hX:=(Ext.refl W).drew
 have hS:∀ w',Ext W w'->(∀ i,w'.cell? ⟨w.heap.size,i,none⟩=(#[V Z alg,V Z N,V Z mode,V Z base,V Z loc,V Z room]:Array Value)[i]?):=fun w' hx=>(b1.ext hx).cells
 go_region_held2 (fun w'=>∀ i,w'.cell? ⟨w.heap.size,i,none⟩=(#[V Z alg,V Z N,V Z mode,V Z base,V Z loc,V Z room]:Array Value)[i]?) (exact hS _ hX)
  (first
    | (go_at_call 100
       refine (lkwants_r alg N mode base loc room _ ha3 h1 h2).mono ?_
       rintro e w2 ⟨v2,rfl,hw2,hx⟩
       replace hX:=hX.trans hx
       clear hx)
    | (go_at_call 176
       refine (layr_some hlh.out _ (hw2.ext (Ext.refl _)) hlenh.out.2).mono ?_
       rintro e w3 ⟨v3,rfl,hr3,hx⟩
       replace hX:=hX.trans hx
       clear hx))
 rename_i hh
 clear hh;have hS3:=hS;clear hS;go_wp2_with fail
 refine (sizeV_r v3 rs _ hr3.1 hokh.out hlenh.out.1).mono ?_
 rintro e w4 ⟨rfl,hx4⟩
 have c_b4:=hS3 _ (hX.trans hx4)
 have hf:=Hd (hXW.trans (hX.trans hx4))
 clear hr3 hx4 hX
 by_cases a3:alg=3
 · subst a3
   go_wp2_with fail
   first | go_ret2 | go_ret
   exact⟨by rw [hCL.out.1,hCL.out.2,if_pos (by simp)];rfl,hf.out⟩
 · have d3:(alg==3)=false:=by rw [beq_eq_false_iff_ne];exact a3
   by_cases a8:alg=8
   · subst a8
     clear a3;go_wp2_with fail
     first | go_ret2 | go_ret
     exact⟨by rw [hCL.out.1,hCL.out.2,if_pos (by simp)];rfl,hf.out⟩
   · have d8:(alg==8)=false:=by rw [beq_eq_false_iff_ne];exact a8
     have hng:=Hd (show ¬ (alg=3∨alg=8) by omega)
     clear a3 a8;go_wp2_with fail
     first | go_ret2 | go_ret
     exact⟨by rw [hCL.out.1,hCL.out.2,if_neg hng.out];rfl,hf.out⟩
theorem results_cell1 {fn:Func}{p:Tmp}{ty:TypeId}(h:fn.results=#[.cell p ty])(tmps:Array Value)(P:Program)(w:World) :
  (results fn tmps).run P w=((asAddr (tmps.getD p undef)).run P w).andThen fun a w1=>(loadVar ty a).run P w1:=by
 simp only [results,h]
 simp [Sem.run_bind,Result.andThen]
theorem there_blk {w:World}{b:Nat}{cs:Array Value}{t:TypeId}(h:w.heap[b]?=some (.cells cs t (0,0))):w.there b 0 cs.size:=fun j hj=>by
 rw [Nat.zero_add]
 exact⟨by rw [cell_of_heap h];simp [hj],by simp [World.frozen?,h]⟩
@[go_sem] theorem build_thing4 (x:Int) (w:World):(Instr.build 65 #[(4,V Z x)]).run Tryz.prog w=.ok (.agg #[V Z 0,V Z 0,V Z 0,V Z 0,V Z x,V Z 0,V Z 0,V Z 0]) w:=run_build w 65 _ _ (by kernel_rfl)
@[go_sem] theorem build_obj35 (x a b c d e f g h:Int) (w:World):(Instr.build 69 #[(0,.agg #[V Z 0,V Z 0,V Z 0,V Z 0,V Z x,V Z 0,V Z 0,V Z 0]),(1,.agg #[V Z a,V Z b,V Z c,V Z d,V Z e,V Z f]),(3,V Z g),(4,V Z h)]).run Tryz.prog w=.ok (.agg #[V Z 0,V Z 0,V Z 0,V Z 0,V Z x,V Z 0,V Z 0,V Z 0,V Z a,V Z b,V Z c,V Z d,V Z e,V Z f,V Z 0,V Z 0,V Z 0,V Z 0,V Z 0,V Z 0,V Z 0,V Z g,V Z h]) w:=run_build w 69 _ _ (by kernel_rfl)
set_option maxRecDepth 100000 in
theorem put_r (arg alg:Int)(N:Nat)(mode base loc room:Int)(rs:List Reg)(w:World)(hk:LkOk alg N mode 0 0 room rs) :
  Calls Tryz.prog 42 #[.agg #[V Z alg,V Z N,V Z mode,V Z base,V Z loc,V Z room],V Z arg] w fun e w'=>e=.returned (.agg #[V Z 0,V Z 0,V Z 0,V Z 0,V Z arg,V Z 0,V Z 0,V Z 0,V Z alg,V Z N,V Z mode,V Z 0,V Z 0,V Z room,V Z 0,V Z 0,V Z 0,V Z 0,V Z 0,V Z 0,V Z 0,V Z (lkC alg N rs),V Z (lkL alg rs)])/\Ext w w':=by
 have hsz:=fun w=>lksize_r alg N mode 0 0 room rs w hk.halg hk.hn.1 hk.hn.2 hk.hlay
 have b1:=Blk.new w (.cells #[V Z alg,V Z N,V Z mode,V Z 0,V Z 0,V Z room] 23)
 have hX:=(Ext.refl w).alloc (.cells #[V Z alg,V Z N,V Z mode,V Z 0,V Z 0,V Z room] 23)
 replace b1:=b1.alloc (.cells #[V Z 0,V Z 0,V Z 0,V Z 0,V Z 0,V Z 0,V Z 0,V Z 0,V Z 0,V Z 0,V Z 0,V Z 0,V Z 0,V Z 0,V Z 0,V Z 0,V Z 0,V Z 0,V Z 0,V Z 0,V Z 0,V Z 0,V Z 0] 69)
 have b2:=Blk.new (w.alloc (.cells #[V Z alg,V Z N,V Z mode,V Z 0,V Z 0,V Z room] 23)) (.cells #[V Z 0,V Z 0,V Z 0,V Z 0,V Z 0,V Z 0,V Z 0,V Z 0,V Z 0,V Z 0,V Z 0,V Z 0,V Z 0,V Z 0,V Z 0,V Z 0,V Z 0,V Z 0,V Z 0,V Z 0,V Z 0,V Z 0,V Z 0] 69)
 replace hX:=hX.alloc (.cells #[V Z 0,V Z 0,V Z 0,V Z 0,V Z 0,V Z 0,V Z 0,V Z 0,V Z 0,V Z 0,V Z 0,V Z 0,V Z 0,V Z 0,V Z 0,V Z 0,V Z 0,V Z 0,V Z 0,V Z 0,V Z 0,V Z 0,V Z 0] 69)
 simp only [World.size_alloc] at b2
 clear hk
 generalize lkC alg N rs=C at *
 generalize lkL alg rs=L at *
 go_enter Tryz.func42,Tryz.ntmps42
 go_wp2_with fail
 generalize (World.alloc w (.cells #[V Z alg,V Z N,V Z mode,V Z 0,V Z 0,V Z room] 23)).alloc (.cells #[V Z 0,V Z 0,V Z 0,V Z 0,V Z 0,V Z 0,V Z 0,V Z 0,V Z 0,V Z 0,V Z 0,V Z 0,V Z 0,V Z 0,V Z 0,V Z 0,V Z 0,V Z 0,V Z 0,V Z 0,V Z 0,V Z 0,V Z 0] 69)=W at *
 refine (hsz _).mono ?_
 rintro e w1 ⟨rfl,hx⟩
 have c_b1:=(b1.ext hx).cells
 replace b2:=b2.ext hx;replace hX:=hX.trans hx;clear hx b1 hsz
 go_upto_region 4 with fail
 refine wp_region_lit ?_
 refine wpList_plain rfl fun K hK=>?_
 unfold Oper.wp execOp
 go_simp
 refine hK _ _ ?_
 clear hK K
 refine wpList_plain rfl fun K hK=>?_
 unfold Oper.wp execOp
 go_simp
 refine hK _ _ ?_
 clear hK K
 refine wpList_plain rfl fun K hK=>?_
 unfold Oper.wp execOp
 go_simp
 refine hK _ _ ?_
 clear hK K
 refine wpList_plain rfl fun K hK=>?_
 unfold Oper.wp execOp
 go_simp
 refine hK _ _ ?_
 clear hK K
 refine wpList_plain rfl fun K hK=>?_
 unfold Oper.wp execOp
 go_simp
 refine hK _ _ ?_
 clear hK K
 refine wpList_plain rfl fun K hK=>?_
 unfold Oper.wp execOp
 go_simp
 refine hK _ _ ?_
 clear hK K
 obtain⟨OL,hOL⟩:∃ OL:List Value,OL=[V Z 0,V Z 0,V Z 0,V Z 0,V Z arg,V Z 0,V Z 0,V Z 0,V Z alg,V Z N,V Z mode,V Z 0,V Z 0,V Z room,V Z 0,V Z 0,V Z 0,V Z 0,V Z 0,V Z 0,V Z 0,V Z C,V Z L]:=⟨_,rfl⟩
 have hst:=there_blk b2
 refine wpList_store_mid rfl _ _ _ rfl (w.heap.size+1) 0 OL.toArray rfl (by rw [hOL];rfl) (by rw [hOL];exact hst) (by rw [hOL];kernel_rfl) (by rw [hOL];kernel_rfl) ?_
 have hz:=heap_setCells_all b2 OL (by rw [hOL];rfl)
 have hXs:=hX.setCells (Nat.le_succ w.heap.size) OL 0
 clear hst b2 hX c_b1
 generalize w1.setCells _ _ _=W6 at *
 refine wpList_nil ?_
 have hld:(loadVar 69 ⟨w.heap.size+1,0,none⟩).run Tryz.prog W6=.ok (.agg OL.toArray) W6:=run_loadVar_row _ _ _ _ _ _ _ hz Tryz.underlying69 rfl (by rw [hOL];kernel_rfl)
 rename_i hKK
 refine hKK _ _ ?_
 clear hKK
 refine wp_ret ?_
 refine bodyPost_ret (v:=.agg OL.toArray) ?_ rfl ⟨by rw [hOL],hXs⟩
 rw [results_cell1 (p:=4) (ty:=69) rfl]
 simp [asAddr,Result.andThen,hld,Act.put]
end Go.Proofs.YtbaajjkopdjbgaaGreat
namespace Kv
def zeros (n:Nat):List Int:=List.replicate n 0
end Kv
namespace Go.Proofs.YtbaajjkopdjbgaaGreat
open Go.RowKit Kv
theorem make_ints (l:Int)(k:Nat)(hl:l=k)(hk:k<=100000)(w:World) :
  (Instr.makeSlice 25 (V Z l) (V Z l)).run Tryz.prog w=.ok (.slice (some ⟨w.heap.size,0,none⟩) k k) (w.alloc (.cells ((zeros k).map (V Z)).toArray 3)):=by
 subst hl
 obtain⟨i0,hi,hz0,hz1,hz2⟩:=info_parts info_int
 have hr:=run_makeSlice (P:=Tryz.prog) w 25 3 i0 (V Z 0) Tryz.underlying25 hi hz0 .i64 .i64 k k (by omega) (by omega) (by rw [hz1];simp;omega) (by rw [hz2];omega) (by omega)
 rw [Int.toNat_natCast,hz1,Nat.mul_one] at hr
 have he:madeCells (V Z 0).cells k=((zeros k).map (V Z)).toArray:=by
  unfold zeros madeCells
  apply Array.ext'
  rw [List.map_replicate]
  apply List.ext_getElem?
  intro j
  by_cases hj:j<k
  · simp [hj,Nat.mod_one,Value.cells]
  · simp [hj]
 rw [hr,he]
theorem use35:LkUse 2 1 1 0 0 1 [] 0:=⟨⟨by decide,by decide,by decide,by decide,by decide,by decide,fun h=>absurd h (by decide),by decide,by decide⟩,by decide,by decide⟩
theorem shortL_at (L:List Int)(i:Nat):(shortL L).getD i 0=L.getD i 0:=by
 unfold shortL
 by_cases h:i<shortN L L.length
 · simp [List.getD,h]
 · rw [shortL_zero L i (by omega)]
   simp [List.getD,List.getElem?_take,h]
def enterA (c t P:Int):Prog Bool:=(rd (c+1)).bind fun h=>if h=t then (rd c).bind fun x=>if x<P then (wr c (wrap64 (x+1))).bind fun _=>(wr (c+1) (wrap64 (t+1))).bind fun _=>.ret true else .ret false else .ret false
def enterW (I U:Prog Unit) (c t P:Int):Nat->Prog Unit
 | 0=>.ret ()
 | n+1=>(insideA I U (enterA c t P)).bind fun g=>if g=true then .ret () else enterW I U c t P n
end Go.Proofs.YtbaajjkopdjbgaaGreat
namespace Kv
def TS.told (S:TS) (v:Int) (a:Acc):TS:={ S with ans:=S.ans++[v],acc:=S.acc++[a] }
inductive Sol {α:Type}:Prog α->TS->List Int->Nat->Prog α->TS->List Int->Prop
 | refl (T:Prog α) (S:TS) (M:List Int):Sol T S M 0 T S M
 | read (c:Nat) {k:Int->Prog α} {S:TS} {M:List Int} {v:Int} {n:Nat} {T':Prog α} {S':TS} {M':List Int} (h:M[c]?=some v) (t:Sol (k v) (S.told v ⟨1,c,0⟩) M n T' S' M'):Sol (.read c k) S M (n+1) T' S' M'
 | write (c:Nat) (v:Int) {k:Unit->Prog α} {S:TS} {M:List Int} {n:Nat} {T':Prog α} {S':TS} {M':List Int} (h:c<M.length) (t:Sol (k ()) (S.told v ⟨2,c,v⟩) (M.set c v) n T' S' M'):Sol (.write c v k) S M (n+1) T' S' M'
 | get (i:Int) {k:Int->Prog α} {S:TS} {M:List Int} {n:Nat} {T':Prog α} {S':TS} {M':List Int} (t:Sol (k (S.got i)) S M n T' S' M'):Sol (.get i k) S M n T' S' M'
 | set (i v:Int) {k:Unit->Prog α} {S:TS} {M:List Int} {n:Nat} {T':Prog α} {S':TS} {M':List Int} (t:Sol (k ()) (S.upd i v) M n T' S' M'):Sol (.set i v k) S M n T' S' M'
 | note (m:Int) {k:Unit->Prog α} {S:TS} {M:List Int} {n:Nat} {T':Prog α} {S':TS} {M':List Int} (t:Sol (k ()) (S.noted m) M n T' S' M'):Sol (.note m k) S M n T' S' M'
namespace Sol
theorem trans {α:Type}{T T1 T2:Prog α}{S S1 S2:TS}{M M1 M2:List Int}{n m:Nat}(h:Sol T S M n T1 S1 M1)(g:Sol T1 S1 M1 m T2 S2 M2):Sol T S M (n+m) T2 S2 M2:=by
 induction h with
 | refl T S M=>rw [Nat.zero_add];exact g
 | read c h _ ih=>rw [Nat.add_right_comm];exact .read c h (ih g)
 | write c v h _ ih=>rw [Nat.add_right_comm];exact .write c v h (ih g)
 | get i _ ih=>exact .get i (ih g)
 | set i v _ ih=>exact .set i v (ih g)
 | note m _ ih=>exact .note m (ih g)
theorem bindl {α β:Type}{T T1:Prog α}{S S1:TS}{M M1:List Int}{n:Nat}(h:Sol T S M n T1 S1 M1)(f:α->Prog β):Sol (T.bind f) S M n (T1.bind f) S1 M1:=by
 induction h with
 | refl T S M=>exact .refl _ _ _
 | read c h _ ih=>exact .read c h ih
 | write c v h _ ih=>exact .write c v h ih
 | get i _ ih=>exact .get i ih
 | set i v _ ih=>exact .set i v ih
 | note m _ ih=>exact .note m ih
theorem bind {α β:Type}{T:Prog α}{a:α}{f:α->Prog β}{T2:Prog β}{S S1 S2:TS}{M M1 M2:List Int}{n m:Nat}(h:Sol T S M n (.ret a) S1 M1)(g:Sol (f a) S1 M1 m T2 S2 M2):Sol (T.bind f) S M (n+m) T2 S2 M2:=(h.bindl f).trans g
theorem len {α:Type}{T T1:Prog α}{S S1:TS}{M M1:List Int}{n:Nat}(h:Sol T S M n T1 S1 M1):S1.acc.length=S.acc.length+n/\S1.ans.length=S.ans.length+n:=by
 induction h with
 | refl T S M=>exact⟨rfl,rfl⟩
 | read c h _ ih=>simp only [TS.told,List.length_append,List.length_cons,List.length_nil] at ih;omega
 | write c v h _ ih=>simp only [TS.told,List.length_append,List.length_cons,List.length_nil] at ih;omega
 | get i _ ih=>exact ih
 | set i v _ ih=>rw [TS.upd_acc,TS.upd_ans] at ih;exact ih
 | note m _ ih=>exact ih
end Sol
theorem Sol.pre {α:Type}{T T1:Prog α}{S S1:TS}{M M1:List Int}{n:Nat}(h:Sol T S M n T1 S1 M1):∃ x,S1.ans=S.ans++x:=by
 induction h with
 | refl T S M=>exact⟨[],by simp⟩
 | read c h _ ih=>obtain⟨x,e⟩:=ih;exact⟨_ :: x,by rw [e];simp [TS.told];rfl⟩
 | write c v h _ ih=>obtain⟨x,e⟩:=ih;exact⟨_ :: x,by rw [e];simp [TS.told];rfl⟩
 | get i _ ih=>exact ih
 | set i v _ ih=>rw [TS.upd_ans] at ih;exact ih
 | note m _ ih=>exact ih
def Res {α:Type} (T:Prog α) (S:TS) (T':Prog α) (S':TS):Prop:=∀ x,T.run { S with ans:=S'.ans++x }=T'.run { S' with ans:=S'.ans++x }
theorem upd_with (S:TS)(l:List Int)(i v:Int):({ S with ans:=l }:TS).upd i v={ S.upd i v with ans:=l }:=by
 unfold TS.upd
 split <;> rfl
theorem Sol.stop {α:Type}{T T':Prog α}{S S':TS}{M M':List Int}{a:α}{n:Nat}(h:Sol T S M n T' S' M')(hn:n=0)(ha:T'=.ret a):T.run S=(some a,S')/\M'=M:=by
 induction h with
 | refl T S M=>subst ha;exact⟨rfl,rfl⟩
 | read c h _ ih=>omega
 | write c v h _ ih=>omega
 | get i _ ih=>exact ih hn ha
 | set i v _ ih=>exact ih hn ha
 | note m _ ih=>exact ih hn ha
theorem Sol.next {α:Type}{T T':Prog α}{S S':TS}{M M':List Int}{n:Nat}(h:Sol T S M n T' S' M'):∀ m,n=m+1->S.ans.length=S.acc.length->∃ (c:Nat) (a:Acc) (v:Int) (T1:Prog α) (S1 S2:TS) (M1:List Int),a.cell=c/\c<M.length /\
  (a.kind=1/\M1=M∨a.kind=2/\M1=M.set c a.val)/\M1[c]?=some v/\T.run S=(none,S1)/\S1.acc=S.acc++[a]/\S2.ans=S.ans++[v]/\S2.acc=S.acc++[a]/\Sol T1 S2 M1 m T' S' M'/\Res T S T1 S2:=by
 induction h with
 | refl T S M=>intro m h;omega
 | @read c k S M v n T' S' M' h t ih =>
   intro m hm hl
   have hnx:S.next=none:=by unfold TS.next;rw [List.getElem?_eq_none (by omega)]
   refine⟨c,⟨1,c,0⟩,v,k v,S.put ⟨1,c,0⟩,S.told v ⟨1,c,0⟩,M,rfl,(List.getElem?_eq_some_iff.1 h).1,.inl ⟨rfl,rfl⟩,h,?_,rfl,rfl,rfl,?_,?_⟩
   · simp only [Prog.run,hnx]
   · obtain rfl:n=m:=by omega
     exact t
   · intro x
     have hnx:({ S with ans:=(S.told v ⟨1,c,0⟩).ans++x }:TS).next=some v:=by
      unfold TS.next
      simp only [TS.told,List.append_assoc]
      rw [List.getElem?_append_right (by omega),<- hl,Nat.sub_self]
      rfl
     simp only [Prog.run,hnx]
     rfl
 | @write c v k S M n T' S' M' h t ih =>
   intro m hm hl
   have hnx:S.next=none:=by unfold TS.next;rw [List.getElem?_eq_none (by omega)]
   refine⟨c,⟨2,c,v⟩,v,k (),S.put ⟨2,c,v⟩,S.told v ⟨2,c,v⟩,M.set c v,rfl,h,.inr ⟨rfl,rfl⟩,by simp [h],?_,rfl,rfl,rfl,?_,?_⟩
   · simp only [Prog.run,hnx]
   · obtain rfl:n=m:=by omega
     exact t
   · intro x
     have hnx:({ S with ans:=(S.told v ⟨2,c,v⟩).ans++x }:TS).next=some v:=by
      unfold TS.next
      simp only [TS.told,List.append_assoc]
      rw [List.getElem?_append_right (by omega),<- hl,Nat.sub_self]
      rfl
     simp only [Prog.run,hnx]
     rfl
 | get i t ih=>intro m hm hl;exact ih m hm hl
 | @set i v k S M n T' S' M' t ih =>
   intro m hm hl
   obtain⟨c,a,u,T1,S1,S2,M1,h1,h2,h3,h4,h5,h6,h7,h8,h9,h10⟩:=ih m hm (by rw [TS.upd_acc,TS.upd_ans];exact hl)
   rw [TS.upd_acc] at h6 h8
   rw [TS.upd_ans] at h7
   refine⟨c,a,u,T1,S1,S2,M1,h1,h2,h3,h4,h5,h6,h7,h8,h9,fun x=>?_⟩
   have:=h10 x
   rw [<- upd_with] at this
   exact this
 | note q t ih=>intro m hm hl;exact ih m hm hl
theorem Res.refl {α:Type}(T:Prog α)(S:TS):Res T S T S:=fun _=>rfl
theorem Res.trans {α:Type}{T T1 T2:Prog α}{S S1 S2:TS}{v:Int}(h:Res T S T1 S1)(g:Res T1 S1 T2 S2)(hv:S2.ans=S1.ans++[v]):Res T S T2 S2:=fun x=>by
 have:=h (v :: x)
 rw [<- g x,hv,List.append_assoc]
 exact this
theorem Res.now {α:Type}{T T':Prog α}{S S':TS}(h:Res T S T' S'):T.run { S with ans:=S'.ans }=T'.run S':=by
 have:=h []
 rw [List.append_nil] at this
 exact this
end Kv
namespace Go.Proofs.YtbaajjkopdjbgaaGreat
open Kv
def Does {α:Type} (T:Prog α) (loc:Nat->Int) (M:List Int) (n:Nat) (a:α) (loc':Nat->Int) (M':List Int):Prop :=
 ∀ S:TS,S.loc=loc->TameA S->∃ S',Sol T S M n (.ret a) S' M'/\S'.loc=loc'/\TameA S'
theorem told_tame {S:TS}(h:TameA S){v:Int}(hv:0<=v/\v<=1048576)(a:Acc):TameA (S.told v a):=by
 intro x hx
 rcases List.mem_append.1 hx with hx | hx
 · exact h x hx
 · rw [List.mem_singleton.1 hx];exact hv
theorem Does.ret {α:Type}(a:α)(loc:Nat->Int)(M:List Int):Does (.ret a) loc M 0 a loc M:=fun S h1 h2=>⟨S,.refl _ _ _,h1,h2⟩
theorem Does.bind {α β:Type}{T:Prog α}{f:α->Prog β}{l l1 l2:Nat->Int}{M M1 M2:List Int}{n m:Nat}{a:α}{b:β}(h:Does T l M n a l1 M1)(g:Does (f a) l1 M1 m b l2 M2):Does (T.bind f) l M (n+m) b l2 M2:=by
 intro S h1 h2
 obtain⟨S1,q1,q2,q3⟩:=h S h1 h2
 obtain⟨S2,r1,r2,r3⟩:=g S1 q2 q3
 exact⟨S2,q1.bind r1,r2,r3⟩
theorem Does.rd {c:Int}{k:Nat}{loc:Nat->Int}{M:List Int}{v:Int}(hc:c=k)(h:M[k]?=some v)(hv:0<=v/\v<=1048576):Does (rd c) loc M 1 v loc M:=by
 subst hc
 exact fun S h1 h2=>⟨_,.read k h (.refl _ _ _),h1,told_tame h2 hv _⟩
theorem Does.wr {c:Int}{k:Nat}{loc:Nat->Int}{M:List Int}{v:Int}(hc:c=k)(h:k<M.length)(hv:0<=v/\v<=1048576):Does (wr c v) loc M 1 () loc (M.set k v):=by
 subst hc
 exact fun S h1 h2=>⟨_,.write k v h (.refl _ _ _),h1,told_tame h2 hv _⟩
theorem Does.gt {l:Int}{k:Nat}{loc:Nat->Int}{M:List Int}(hl:l=k):Does (gt l) loc M 0 (loc k) loc M:=by
 subst hl;intro S h1 h2
 have e:S.got (k:Int)=loc k:=by
  unfold TS.got
  rw [if_neg (by omega),h1]
  rfl
 exact⟨S,.get _ (e▸.refl _ _ _),h1,h2⟩
def putF (loc:Nat->Int) (k:Nat) (v:Int):Nat->Int:=fun j=>if j=k then v else loc j
theorem Does.st {l:Int}{k:Nat}{loc:Nat->Int}{M:List Int}{v:Int}(hl:l=k)(hk:k<32768):Does (st l v) loc M 0 () (putF loc k v) M:=by
 subst hl;intro S h1 h2
 refine⟨S.upd k v,.set _ _ (.refl _ _ _),?_,?_⟩
 · unfold TS.upd
   rw [if_pos (by omega)]
   simp only [Int.toNat_natCast,h1]
   rfl
 · intro x hx
   rw [TS.upd_ans] at hx
   exact h2 x hx
theorem Does.nt {m:Int}{loc:Nat->Int}{M:List Int}:Does (nt m) loc M 0 () loc M:=fun _ h1 h2=>⟨_,.note _ (.refl _ _ _),h1,h2⟩
theorem Does.cast {α:Type}{T:Prog α}{l l':Nat->Int}{M M' M2:List Int}{n m:Nat}{a b:α}(h:Does T l M n a l' M')(hn:n=m)(ha:a=b)(hM:M'=M2):Does T l M m b l' M2:=by
 subst hn ha hM;exact h
theorem does_zeroC {c:Int}{k D:Nat}{loc:Nat->Int}{M:List Int}(hc:c=k)(h:M[k]?=some 0):Does (zeroC c (D+1)) loc M 1 () loc M:=by
 refine ((Does.rd hc h (by decide)).bind (m:=0) ?_).cast rfl rfl rfl
 exact Does.ret _ _ _
theorem does_oneUp {D me:Nat}{loc:Nat->Int}{M:List Int}(h:∀ j,j<me->M[j]?=some 0):∀ (f j:Nat),j<=me->me-j<f->Does (oneUp D 0 me f j) loc M (me-j) () loc M
 | 0,j,_,hf=>absurd hf (by omega)
 | f+1,j,hj,hf=>by
   by_cases he:j<me
   · rw [show oneUp D 0 me (f+1) j=(rd (0+(j:Int))).bind fun x=>if x=0 then oneUp D 0 me f (j+1) else
      (wr (0+(me:Int)) 0).bind fun _=>(zeroC (0+(j:Int)) D).bind fun _=>(wr (0+(me:Int)) 1).bind fun _=>oneUp D 0 me f 0 from if_pos he]
     refine ((Does.rd (k:=j) (by omega) (h j he) (by decide)).bind (m:=me-(j+1)) ?_).cast (by omega) rfl rfl
     rw [if_pos rfl]
     exact does_oneUp h f (j+1) (by omega) (by omega)
   · obtain rfl:j=me:=by omega
     rw [show oneUp D 0 j (f+1) j=.ret () from if_neg he]
     exact (Does.ret _ _ _).cast (by omega) rfl rfl
theorem does_ranks {D:Nat}{loc:Nat->Int}{M:List Int}:∀ (n s:Nat),(∀ j,s<=j->j<s+n->M[j]?=some 0)->Does (forP (fun j _=>zeroC (0+j) (D+1)) (ranksFrom (-1) n s) ()) loc M n () loc M
 | 0,s,_=>Does.ret _ _ _
 | n+1,s,h=>by
   rw [show ranksFrom (-1) (n+1) (s:Int)=(s:Int) :: ranksFrom (-1) n ((s+1:Nat):Int) from by
    show (if (s:Int)=-1 then _ else _)=_
    rw [if_neg (by omega)]
    rfl]
   refine ((does_zeroC (k:=s) (by omega) (h s (by omega) (by omega))).bind (m:=n) ?_).cast (by omega) rfl rfl
   exact does_ranks n (s+1) fun j h1 h2=>h j (by omega) (by omega)
theorem does_one {D N me:Nat}{loc:Nat->Int}{M:List Int}(hm:me<N)(hD:me<D+1)(h:∀ j,j<N->M[j]?=some 0):Does (oneA (D+1) 0 N me) loc M N 0 loc (M.set me 1):=by
 have hl:me<M.length:=(List.getElem?_eq_some_iff.1 (h me hm)).1
 have hs:∀ j,j<N->j≠me->(M.set me 1)[j]?=some 0:=fun j h1 h2=>by rw [List.getElem?_set_ne (by omega)];exact h j h1
 unfold oneA
 refine (Does.nt.bind (m:=N) ?_).cast (by omega) rfl rfl
 refine ((Does.wr (k:=me) (by omega) hl (by decide)).bind (m:=N-1) ?_).cast (by omega) rfl rfl
 refine ((does_oneUp (fun j hj=>hs j (by omega) (by omega)) (D+1) 0 (by omega) (by omega)).bind (m:=N-1-me) ?_).cast (by omega) rfl rfl
 refine (Does.nt.bind (m:=N-1-me) ?_).cast (by omega) rfl rfl
 have hr:=does_ranks (D:=D) (loc:=loc) (N-1-me) (me+1) fun j h1 h2=>hs j (by omega) (by omega)
 rw [show ((me+1:Nat):Int)=(me:Int)+1 from by omega] at hr
 refine (hr.bind (m:=0) ?_).cast (by omega) rfl rfl
 refine (Does.nt.bind (m:=0) ?_).cast rfl rfl rfl
 exact Does.ret _ _ _
theorem does_in {T:Prog Int}{l l':Nat->Int}{M M':List Int}{n D:Nat}(h:Does T l M n 0 l' M'):Does (inA T (D+1)) l M n () l' M':=by
 refine (h.bind (m:=0) ?_).cast (by omega) rfl rfl
 rw [if_neg (by decide)]
 exact Does.ret _ _ _
theorem does_inside {α:Type}{Q:Prog α}{D N me q:Nat}{l l':Nat->Int}{M M1:List Int}{x:α}(hm:me<N)(hD:me<D+1)(h:∀ j,j<N->M[j]?=some 0)(hq:Does Q l (M.set me 1) q x l' M1)(hl:M1.length=M.length) :
  Does (insideA (inA (lkA (D+1) 2 N 0 0 1 [] me) (D+1)) (lkR 2 N 0 0 [] me) Q) l M (N+q+1) x l' (M1.set me 0):=by
 have hml:me<M.length:=(List.getElem?_eq_some_iff.1 (h me hm)).1
 unfold insideA
 refine ((does_in (show Does (lkA (D+1) 2 N 0 0 1 [] me) l M N 0 l (M.set me 1) from does_one hm hD h)).bind (m:=q+1) ?_).cast (by omega) rfl rfl
 refine (hq.bind (m:=1) ?_).cast (by omega) rfl rfl
 have hr:Does (lkR 2 N 0 0 [] me) l' M1 1 () l' (M1.set me 0):=(Does.nt.bind (m:=1) (Does.wr (k:=me) (by omega) (by omega) (by decide))).cast rfl rfl rfl
 refine (hr.bind (m:=0) ?_).cast rfl rfl rfl
 exact Does.ret _ _ _
theorem Sol.take {α:Type}{T T':Prog α}{S S':TS}{M M':List Int}{n:Nat}(h:Sol T S M n T' S' M'):∀ m,m<=n->∃ T1 S1 M1 x,Sol T S M m T1 S1 M1/\S'.ans=S1.ans++x:=by
 induction h with
 | refl T S M =>
   intro m hm
   obtain rfl:m=0:=by omega
   exact⟨T,S,M,[],.refl _ _ _,by simp⟩
 | @read c k S M v n T' S' M' h t ih =>
   intro m hm
   cases m with
   | zero =>
     obtain⟨x,hx⟩:=t.pre
     exact⟨_,S,M,v :: x,.refl _ _ _,by rw [hx];simp [TS.told]⟩
   | succ m =>
     obtain⟨T1,S1,M1,x,h1,h2⟩:=ih m (by omega)
     exact⟨T1,S1,M1,x,.read c h h1,h2⟩
 | @write c v k S M n T' S' M' h t ih =>
   intro m hm
   cases m with
   | zero =>
     obtain⟨x,hx⟩:=t.pre
     exact⟨_,S,M,v :: x,.refl _ _ _,by rw [hx];simp [TS.told]⟩
   | succ m =>
     obtain⟨T1,S1,M1,x,h1,h2⟩:=ih m (by omega)
     exact⟨T1,S1,M1,x,.write c v h h1,h2⟩
 | get i t ih=>intro m hm;obtain⟨T1,S1,M1,x,h1,h2⟩:=ih m hm;exact⟨T1,S1,M1,x,.get i h1,h2⟩
 | set i v t ih=>intro m hm;obtain⟨T1,S1,M1,x,h1,h2⟩:=ih m hm;exact⟨T1,S1,M1,x,.set i v h1,h2⟩
 | note q t ih=>intro m hm;obtain⟨T1,S1,M1,x,h1,h2⟩:=ih m hm;exact⟨T1,S1,M1,x,.note q h1,h2⟩
end Go.Proofs.YtbaajjkopdjbgaaGreat
namespace Go.Proofs.YtbaajjkopdjbgaaGreat
open Go.RowKit Kv
theorem set_bit0 {M:List Int}{m:Nat}(hm:M[m]?=some 0):(M.set m 1).set m 0=M:=by
 apply List.ext_getElem?
 intro i
 have hl:=(List.getElem?_eq_some_iff.1 hm).1
 simp only [List.getElem?_set,List.length_set]
 by_cases h1:m=i
 · subst h1
   simp [hl,(List.getElem?_eq_some_iff.1 hm).2]
 · simp [h1]
def cellsM (N:Nat) (l:List Int):List Int:=List.replicate N 0++l
theorem cellsM_bit {N:Nat}{l:List Int}{j:Nat}(h:j<N):(cellsM N l)[j]?=some 0:=by
 unfold cellsM
 rw [List.getElem?_append_left (by simpa using h)]
 simp [h]
theorem cellsM_at {N:Nat}{l:List Int}(k:Nat):(cellsM N l)[N+k]?=l[k]?:=by
 unfold cellsM
 rw [List.getElem?_append_right (by simp)]
 simp
theorem cellsM_set {N:Nat}{l:List Int}(k:Nat)(v:Int):(cellsM N l).set (N+k) v=cellsM N (l.set k v):=by
 unfold cellsM
 rw [List.set_append_right _ _ (by simp)]
 simp
theorem cellsM_len (N:Nat)(l:List Int):(cellsM N l).length=N+l.length:=by simp [cellsM]
theorem held_at {N m:Nat}{l:List Int}(hm:m<N)(k:Nat):((cellsM N l).set m 1)[N+k]?=l[k]?:=by
 rw [List.getElem?_set_ne (by omega),cellsM_at]
theorem held_set {N m:Nat}{l:List Int}(hm:m<N)(k:Nat)(v:Int):((cellsM N l).set m 1).set (N+k) v=(cellsM N (l.set k v)).set m 1:=by
 rw [List.set_comm _ _ (by omega),cellsM_set]
theorem held_len {N m:Nat}{l:List Int}:((cellsM N l).set m 1).length=N+l.length:=by rw [List.length_set,cellsM_len]
theorem does_within {α:Type}{Q:Prog α}{D N m q:Nat}{loc loc':Nat->Int}{l l':List Int}{x:α}(hm:m<N)(hD:m<D+1)(hq:Does Q loc ((cellsM N l).set m 1) q x loc' ((cellsM N l').set m 1))(hl:l'.length=l.length) :
  Does (insideA (inA (lkA (D+1) 2 N 0 0 1 [] m) (D+1)) (lkR 2 N 0 0 [] m) Q) loc (cellsM N l) (N+q+1) x loc' (cellsM N l'):=by
 refine (does_inside hm hD (fun j hj=>cellsM_bit hj) hq (by rw [held_len,cellsM_len,hl])).cast rfl rfl ?_
 exact set_bit0 (cellsM_bit hm)
theorem does_rdk {N m k:Nat}{c:Int}{loc:Nat->Int}{l:List Int}{v:Int}(hm:m<N)(hc:c=(N:Int)+k)(h:l[k]?=some v)(hv:0<=v/\v<=1048576):Does (rd c) loc ((cellsM N l).set m 1) 1 v loc ((cellsM N l).set m 1) :=
 Does.rd (k:=N+k) (by omega) ((held_at hm k).trans h) hv
theorem does_wrk {N m k:Nat}{c:Int}{loc:Nat->Int}{l:List Int}{v:Int}(hm:m<N)(hc:c=(N:Int)+k)(h:k<l.length)(hv:0<=v/\v<=1048576):Does (wr c v) loc ((cellsM N l).set m 1) 1 () loc ((cellsM N (l.set k v)).set m 1) :=
 (Does.wr (k:=N+k) (by omega) (by rw [held_len];omega) hv).cast rfl rfl (held_set hm k v)
section
variable {D N m:Nat} {loc:Nat->Int} {a q:Int}
theorem does_enter_no {P:Int}(hm:m<N)(hq:0<=q/\q<=1000)(ha:0<=a/\a<=100)(hP:P<=a):Does (enterA N q P) loc ((cellsM N [a,q,q+1]).set m 1) 2 false loc ((cellsM N [a,q,q+1]).set m 1):=by
 unfold enterA
 refine ((does_rdk (k:=1) hm (by omega) rfl (by omega)).bind (m:=1) ?_).cast rfl rfl rfl
 rw [if_pos rfl]
 refine ((does_rdk (k:=0) hm (by omega) rfl (by omega)).bind (m:=0) ?_).cast rfl rfl rfl
 rw [if_neg (by omega)]
 exact Does.ret _ _ _
theorem rounds {P:Int}{n:Nat}(hm:m<N)(hD:m<D+1)(hq:0<=q/\q<=1000)(ha:0<=a/\a<=100)(hP:P<=a):∀ (k:Nat) (S:TS),S.loc=loc->TameA S ->
  ∃ S',Sol (enterW (inA (lkA (D+1) 2 N 0 0 1 [] m) (D+1)) (lkR 2 N 0 0 [] m) N q P (n+k)) S (cellsM N [a,q,q+1]) (k*(N+3)) (enterW (inA (lkA (D+1) 2 N 0 0 1 [] m) (D+1)) (lkR 2 N 0 0 [] m) N q P n) S' (cellsM N [a,q,q+1])/\S'.loc=loc/\TameA S'
 | 0,S,h1,h2=>⟨S,by rw [Nat.zero_mul];exact .refl _ _ _,h1,h2⟩
 | k+1,S,h1,h2=>by
   obtain⟨S1,q1,q2,q3⟩:=(does_within (loc:=loc) hm hD (does_enter_no hm hq ha hP) rfl) S h1 h2
   obtain⟨S2,r1,r2,r3⟩:=rounds hm hD hq ha hP k S1 q2 q3
   refine⟨S2,?_,r2,r3⟩
   rw [show n+(k+1)=(n+k)+1 from by omega,show ∀ I U,enterW I U N q P ((n+k)+1)=(insideA I U (enterA N q P)).bind fun g=>if g=true then .ret () else enterW I U N q P (n+k) from fun _ _=>rfl,show (k+1)*(N+3)=(N+2+1)+k*(N+3) from by rw [Nat.add_mul];omega]
   refine q1.bind ?_
   rw [if_neg (by decide)]
   exact r1
end
end Go.Proofs.YtbaajjkopdjbgaaGreat
