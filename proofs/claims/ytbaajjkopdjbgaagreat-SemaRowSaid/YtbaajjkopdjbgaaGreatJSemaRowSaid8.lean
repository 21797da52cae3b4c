/-
  SemaRowSaid: part 8 of its proof.
-/
import Derived.Test.YtbaajjkopdjbgaaGreatJSemaRowSaid7
import Derived.BigQuiet
import Derived.Deep.QuietTactic
import Derived.Deep.CutBlock
import Derived.Deep.DeepCutAuto
import Derived.Laws.Rows
import Derived.Laws.Cells
import Derived.Deep.WholeRow
import Derived.ProofKit
import Derived.Deep.MidRow
import Derived.Laws.MakeOwn
namespace Go.Proofs.YtbaajjkopdjbgaaGreat
open Go.RowKit Kv
theorem onethr_p (alg N mode base loc room:Int)(w:World)(h1:1<=N/\N<=8) :
  Calls Tryz.prog 373 #[.agg #[.int .i64 alg,.int .i64 N,.int .i64 mode,.int .i64 base,.int .i64 loc,.int .i64 room]] w fun e w'=>e=.returned (.int .i64 N)/\Ext w w':=by
 have e1:min (max N 1) 8=N:=by omega
 have hX:=Ext.refl w
 have b1:=Blk.new w (.cells #[.int .i64 alg,.int .i64 N,.int .i64 mode,.int .i64 base,.int .i64 loc,.int .i64 room] 23)
 replace hX:=hX.alloc (.cells #[.int .i64 alg,.int .i64 N,.int .i64 mode,.int .i64 base,.int .i64 loc,.int .i64 room] 23)
 have c_b1:=b1.cells
 go_enter Tryz.func373,Tryz.ntmps373
 go_wp2_with fail
 first | go_ret2 | go_ret
 exact⟨rfl,hX⟩
set_option maxRecDepth 100000 in
set_option maxHeartbeats 4000000 in
theorem oneacq_p (B p N D:Nat)(S:TS)(alg mode base loc room:Int)(m:Nat)(w:World)(h:Plays B w p S)(h1:1<=N)(h2:N<=8)(hm1:m<N)(hba:0<=base/\base<=32768)
  (hD:S.left<D)(hn0:S.nts.length<=100000) :
  Calls Tryz.prog 370 #[.pointer (some ⟨p,0,none⟩),.agg #[.int .i64 alg,.int .i64 N,.int .i64 mode,.int .i64 base,.int .i64 loc,.int .i64 room],.int .i64 m] w (Post encI B p w ((oneA D base N m).run S)):=by
 generalize hR:Post encI B p w ((oneA D base N m).run S)=R
 have hO:Owes R encI B p w ((oneA D base N m).run S):=hR▸owes _ _ _ _ _
 clear hR
 obtain⟨b1,hK,hP⟩:=h.entry (.cells #[.int .i64 alg,.int .i64 N,.int .i64 mode,.int .i64 base,.int .i64 loc,.int .i64 room] 23)
 have c_b1:=b1.cells
 clear h
 unfold oneA at hO
 have hth:=fun w=>onethr_p alg N mode base loc room w (by omega)
 have hw2:=IntWalk.i64_in (base+(m:Int)) (by omega)
 have hOh:=Lib.hid hO
 clear hO
 go_enter Tryz.func370,Tryz.ntmps370
 obtain⟨F,hF⟩:∃ F:Unit->Prog Int,F=fun _=>(nt 2).bind fun _=>(forP (fun j _=>zeroC (base+j) D) (ranksFrom (-1) (N-1-m) ((m:Int)+1)) ()).bind fun _=>(nt 3).bind fun _=>.ret 0:=⟨_,rfl⟩
 have hFh:=Lib.hid hF
 have hOh2:Hid (Owes R encI B p w (((nt 1).bind fun _=>(wr (base+m) 1).bind fun _=>(oneUp D base m D 0).bind F).run S)):=by rw [hF];exact hOh
 clear hF hOh
 have hOh:=hOh2
 clear hOh2
 go_wp2_with fail
 generalize w.heap.size=z at *
 obtain⟨J0,hJ0⟩:∃ J0:World->Prop,∀ wr',J0 wr'↔∃ (k:Nat) (S2:TS),Plays B wr' p S2/\KeepP B p w wr'/\HeldP wr' p z (.cells #[.int .i64 alg,.int .i64 N,.int .i64 mode,.int .i64 base,.int .i64 loc,.int .i64 room] 23)/\S2.left<D/\S2.nts.length<=100001/\S2.left<k/\Hid (Owes R encI B p w (((wr (base+m) 1).bind fun _=>(oneUp D base m k 0).bind F).run S2)):=⟨_,fun _=>Iff.rfl⟩
 refine wp_scope_fall (fun l a wr=>a.defers=[]/\a.tmps.size=68/\a.tmps[0]?=some (.pointer (some ⟨p,0,none⟩))/\a.tmps[2]?=some (.int .i64 m)/\a.tmps[4]?=some (.pointer (some ⟨z,0,none⟩))/\a.tmps[7]?=some (.int .i64 N)/\l=0/\J0 wr) (fun _ _ wr=>leftW 1 3 wr p) ?pass ?first
 case first =>
  intro hfall
  refine (fun (hfall:Hid _)=>?_) (Lib.hid hfall)
  go_wp2_with fail
  refine (hth _).mono ?_
  rintro e w1 ⟨rfl,hx⟩
  replace hK:=hK.trans (Keep.of_ext hx hP.lt hP.le)
  replace b1:=b1.ext hx hP.lt
  replace hP:=hP.ext hx
  clear hx c_b1 hth
  go_wp2_with fail
  refine tstepA (notes_nt 1) hOh.out hK (noteO hP (by unfold maxAns;omega)) (fun _ h=>⟨rfl,h⟩) ?_
  clear hOh hK hP
  intro u S1 wn hrun hlf hla hnn hP hk hK hO
  replace hD:=Nat.lt_of_le_of_lt hlf hD
  replace hn0:S1.nts.length<=100001:=by omega
  replace b1:=b1.keep hk
  clear hk hnn hrun
  clear hla hlf
  have hOh:=Lib.hid hO
  clear hO
  go_wp2_with fail
  try refine wp_label ?_
  rename_i hKK
  replace hKK:=Lib.hid hKK
  refine hKK.out _ _ ?_
  exact hfall.out 0 _ _ _ rfl ⟨rfl,rfl,rfl,rfl,rfl,rfl,rfl,(hJ0 _).2 ⟨D,S1,hP,hK,b1,hD,hn0,hD,hOh⟩⟩
 case pass =>
  clear hP hK b1 hOh hD hn0 c_b1 hth
  rintro l a wq ⟨ha,hs,f0,f2,f4,f7,rfl,hrel⟩
  try dsimp only
  refine fr_act 68 (fun a'=>a'.tmps[0]?=some (.pointer (some ⟨p,0,none⟩))->a'.tmps[2]?=some (.int .i64 m)->a'.tmps[4]?=some (.pointer (some ⟨z,0,none⟩))->a'.tmps[7]?=some (.int .i64 N)->∃ rest,findLabel _ 0=some (.seq .skip rest)/\rest.wp _ _ a' wq) ?_ a ha hs f0 f2 f4 f7
  clear f0 f2 f4 f7
  clear ha hs a
  dsimp only [Fr]
  intro u0 u1 u2 u3 u4 u5 u6 u7 u8 u9 u10 u11 u12 u13 u14 u15 u16 u17 u18 u19 u20 u21 u22 u23 u24 u25 u26 u27 u28 u29 u30 u31 u32 u33 u34 u35 u36 u37 u38 u39 u40 u41 u42 u43 u44 u45 u46 u47 u48 u49 u50 u51 u52 u53 u54 u55 u56 u57 u58 u59 u60 u61 u62 u63 u64 u65 u66 u67 f0 f2 f4 f7
  obtain rfl:=Option.some.inj f0
  obtain rfl:=Option.some.inj f2
  obtain rfl:=Option.some.inj f4
  obtain rfl:=Option.some.inj f7
  clear f0 f2 f4 f7
  rw [hJ0] at hrel
  obtain⟨k,S2,hP,hK,b1,hD,hn0,hkk,hOh⟩:=hrel
  refine⟨_,rfl,?_⟩
  have hlw:=Lib.hid hP.left
  have hmin:min (m:Int) (N:Int)=(m:Int):=by omega
  have hmax:max (m:Int) (-1)=(m:Int):=by omega
  have hw3:=IntWalk.i64_in ((m:Int)+1) (by omega)
  have c_b1:=b1.cells
  go_wp2_with fail
  clear c_b1
  refine tstepA (notes_wr _ _) hOh.out hK (write_p B p S2 _ _ _ hP) (fun _ h=>⟨rfl,h⟩) ?_
  clear hOh hK hP
  intro u S3 wn hrun hlf hla hnn hP hk hK hO
  have hlt3:=hla (asks_wr _ _)
  replace hD:=Nat.lt_of_le_of_lt hlf hD
  replace hn0:S3.nts.length<=100001:=by omega
  replace b1:=b1.keep hk
  clear hk hnn hrun
  have hk3:S3.left<k:=by omega
  clear hkk hla hlf
  have hOh:=Lib.hid hO
  clear hO
  go_wp2_with fail
  go_loopw [23] (fun i wr'=>∃ (j k:Nat) (S5:TS),i=.int .i64 j/\j<=m/\Plays B wr' p S5/\KeepP B p w wr'/\HeldP wr' p z (.cells #[.int .i64 alg,.int .i64 N,.int .i64 mode,.int .i64 base,.int .i64 loc,.int .i64 room] 23)/\S5.left<D/\S5.nts.length<=100001/\S5.left<k/\S5.left<S2.left/\Hid (Owes R encI B p w (((oneUp D base m k j).bind F).run S5))) (fun i _=>m-(intOf i).toNat)
  case atStart=>exact⟨0,k,S3,rfl,by omega,hP,hK,b1,hD,hn0,hk3,hlt3,hOh⟩
  case round =>
   clear hP hK b1 hD hn0 hOh hk3 hlt3
   obtain⟨j,k,S5,rfl,hj,hP,hK,b1,hD,hn0,hk5,hlt5,hOh⟩:=hrel
   by_cases hjm:j<m
   · have dj:decide ((j:Int)<(m:Int))=true:=by rw [decide_eq_true_eq];omega
     have hw4:=IntWalk.i64_in (base+(j:Int)) (by omega)
     cases k with
     | zero=>omega
     | succ k =>
       replace hO:=hOh.out
       rw [oneUp_lt D base m k j hjm] at hO
       clear hOh
       have hOh:=Lib.hid hO
       clear hO
       have c_b1:=b1.cells
       go_wp2_with fail
       clear c_b1
       refine tstepA (notes_rd _) hOh.out hK (read_p B p S5 _ _ hP) (fun _ h=>⟨rfl,h⟩) ?_
       clear hOh hK hP
       intro x S6 wn hrun hlf hla hnn hP hk hK hO
       have hlt6:=hla (asks_rd _)
       replace hD:=Nat.lt_of_le_of_lt hlf hD
       replace hn0:S6.nts.length<=100001:=by omega
       replace b1:=b1.keep hk
       clear hk hnn hrun
       clear hla hlf
       by_cases hx:x=0
       · have dx:(x==0)=true:=by simpa using hx
         rw [if_pos hx] at hO
         have hOh:=Lib.hid hO
         clear hO hx
         go_wp2_with fail
         refine⟨⟨j+1,k,S6,by go_num,by omega,hP,hK,b1,hD,hn0,by omega,by omega,hOh⟩,?_⟩
         simp [intOf];omega
       · have dx:(x==0)=false:=by simpa using hx
         rw [if_neg hx] at hO
         have hOh:=Lib.hid hO
         clear hO hx
         have c_b1:=b1.cells
         go_wp2_with fail
         clear c_b1
         refine tstepA (notes_wr _ _) hOh.out hK (write_p B p S6 _ _ _ hP) (fun _ h=>⟨rfl,h⟩) ?_
         clear hOh hK hP
         intro u S7 wn hrun hlf hla hnn hP hk hK hO
         have hlt7:=hla (asks_wr _ _)
         replace hD:=Nat.lt_of_le_of_lt hlf hD
         replace hn0:S7.nts.length<=100001:=by omega
         replace b1:=b1.keep hk
         clear hk hnn hrun
         clear hla hlf
         have hOh:=Lib.hid hO
         clear hO
         have hk7:S7.left<k:=by omega
         have hs7:S7.left<S2.left:=by omega
         clear hlt7 hlt6 hlt5 hk5
         go_wp2_with fail
         go_loopw [] (fun wr'=>∃ (n:Nat) (S8:TS),Plays B wr' p S8/\KeepP B p w wr'/\HeldP wr' p z (.cells #[.int .i64 alg,.int .i64 N,.int .i64 mode,.int .i64 base,.int .i64 loc,.int .i64 room] 23)/\S8.left<D/\S8.nts.length<=100001/\S8.left<k/\S8.left<S2.left/\S8.left<n/\Hid (Owes R encI B p w (((zeroC (base+j) n).bind fun _=>(Kv.wr (base+m) 1).bind fun _=>(oneUp D base m k 0).bind F).run S8))) (fun wr'=>leftW 1 3 wr' p)
         case atStart=>exact⟨D,S7,hP,hK,b1,hD,hn0,hk7,hs7,hD,hOh⟩
         case round =>
          clear hP hK b1 hD hn0 hOh hk7 hs7
          obtain⟨n,S8,hP,hK,b1,hD,hn0,hk8,hs8,hn8,hOh⟩:=hrel
          cases n with
          | zero=>omega
          | succ n =>
            replace hO:=hOh.out
            rw [zeroC_bind] at hO
            clear hOh
            have hOh:=Lib.hid hO
            clear hO
            have hlw8:=Lib.hid hP.left
            have c_b1:=b1.cells
            go_wp2_with fail
            clear c_b1
            refine tstepA (notes_rd _) hOh.out hK (read_p B p S8 _ _ hP) (fun _ h=>⟨rfl,h⟩) ?_
            clear hOh hK hP
            intro x S9 wn hrun hlf hla hnn hP hk hK hO
            have hlt9:=hla (asks_rd _)
            replace hD:=Nat.lt_of_le_of_lt hlf hD
            replace hn0:S9.nts.length<=100001:=by omega
            replace b1:=b1.keep hk
            clear hk hnn hrun
            clear hla hlf
            have hlw9:=Lib.hid hP.left
            by_cases hx:x=0
            · have dx:(x != 0)=false:=by simpa using hx
              rw [if_pos hx] at hO
              have hOh:=Lib.hid hO
              clear hO hx
              go_wp2_with fail
              first | refine wp_goto ?_ | skip
              refine And.intro ⟨rfl,rfl,rfl,rfl,rfl,rfl,rfl,(hJ0 _).2 ⟨k,S9,hP,hK,b1,hD,hn0,by omega,hOh⟩⟩ ?_
              rw [hlw.out,hlw9.out]
              omega
            · have dx:(x != 0)=true:=by simpa using hx
              rw [if_neg hx] at hO
              have hOh:=Lib.hid hO
              clear hO hx
              go_wp2_with fail
              refine⟨⟨n,S9,hP,hK,b1,hD,hn0,by omega,by omega,by omega,hOh⟩,?_⟩
              rw [hlw8.out,hlw9.out]
              omega
   · obtain rfl:m=j:=by omega
     have dj:decide ((m:Int)<(m:Int))=false:=by simp
     replace hO:=hOh.out
     rw [oneUp_ge D base m k,hFh.out] at hO
     clear hOh hlt5 hk5
     have hOh:=Lib.hid hO
     clear hO
     go_wp2_with fail
     refine tstepA (notes_nt 2) hOh.out hK (noteO hP (by unfold maxAns;omega)) (fun _ h=>⟨rfl,h⟩) ?_
     clear hOh hK hP
     intro u S6 wn hrun hlf hla hnn hP hk hK hO
     replace hD:=Nat.lt_of_le_of_lt hlf hD
     replace hn0:S6.nts.length<=100002:=by omega
     replace b1:=b1.keep hk
     clear hk hnn hrun
     clear hla hlf
     obtain⟨G,hG⟩:∃ G:Unit->Prog Int,G=fun _=>(nt 3).bind fun _=>.ret 0:=⟨_,rfl⟩
     rw [<- hG] at hO
     have hOh:=Lib.hid hO
     have hGh:=Lib.hid hG
     clear hO hG
     have hl0:Hid (∀ L:Nat,L=N-1-m->m+1+L=N):=Lib.hid (fun L h=>by omega)
     obtain⟨L,hL⟩:∃ L,L=N-1-m:=⟨_,rfl⟩
     have hLN:=hl0.out L hL
     rw [<- hL] at hOh
     clear hl0 hL
     have hLh:=Lib.hid hLN
     clear hLN
     go_wp2_with fail
     go_loopw [9] (fun i wr'=>∃ (q:Nat) (S7:TS),i=.int .i64 ((m:Int)+1+q)/\q<=L/\Plays B wr' p S7/\KeepP B p w wr'/\HeldP wr' p z (.cells #[.int .i64 alg,.int .i64 N,.int .i64 mode,.int .i64 base,.int .i64 loc,.int .i64 room] 23)/\S7.left<D/\S7.nts.length<=100002/\Hid (Owes R encI B p w (((forP (fun j _=>zeroC (base+j) D) (ranksFrom (-1) (L-q) ((m:Int)+1+q)) ()).bind G).run S7))) (fun i _=>N-(intOf i).toNat)
     case atStart=>exact⟨0,S6,by simp,by omega,hP,hK,b1,hD,hn0,by simpa using hOh⟩
     case round =>
      clear hP hK b1 hD hn0 hOh
      obtain⟨q,S7,rfl,hq,hP,hK,b1,hD,hn0,hOh⟩:=hrel
      by_cases hqL:q<L
      · have dq:decide ((m:Int)+1+(q:Int)<(N:Int))=true:=by rw [decide_eq_true_eq];have:=hLh.out;omega
        have hw5:=IntWalk.i64_in (base+((m:Int)+1+(q:Int))) (by have:=hLh.out;omega)
        have hw6:=IntWalk.i64_in ((m:Int)+1+(q:Int)+1) (by have:=hLh.out;omega)
        obtain⟨g,hg⟩:∃ g,L-q=g+1:=⟨L-q-1,by omega⟩
        replace hO:=hOh.out
        rw [hg,ranks_cons _ _ _ (by omega),forP_consB,show g=L-(q+1) from by omega] at hO
        obtain⟨H,hH⟩:∃ H:Unit->Prog Int,H=fun _=>(forP (fun j _=>zeroC (base+j) D) (ranksFrom (-1) (L-(q+1)) ((m:Int)+1+q+1)) ()).bind G:=⟨_,rfl⟩
        rw [<- hH] at hO
        have hHh:=Lib.hid hH
        have hOh2:=Lib.hid hO
        clear hO hOh hg hH
        go_wp2_with fail
        go_loopw [] (fun wr'=>∃ (n:Nat) (S8:TS),Plays B wr' p S8/\KeepP B p w wr'/\HeldP wr' p z (.cells #[.int .i64 alg,.int .i64 N,.int .i64 mode,.int .i64 base,.int .i64 loc,.int .i64 room] 23)/\S8.left<D/\S8.nts.length<=100002/\S8.left<n/\Hid (Owes R encI B p w (((zeroC (base+((m:Int)+1+q)) n).bind H).run S8))) (fun wr'=>leftW 1 3 wr' p)
        case atStart=>exact⟨D,S7,hP,hK,b1,hD,hn0,hD,hOh2⟩
        case round =>
         clear hP hK b1 hD hn0 hOh2
         obtain⟨n,S8,hP,hK,b1,hD,hn0,hn8,hOh⟩:=hrel
         cases n with
         | zero=>omega
         | succ n =>
           replace hO:=hOh.out
           rw [zeroC_bind] at hO
           clear hOh
           have hOh:=Lib.hid hO
           clear hO
           have hlw8:=Lib.hid hP.left
           have c_b1:=b1.cells
           go_wp2_with fail
           clear c_b1
           refine tstepA (notes_rd _) hOh.out hK (read_p B p S8 _ _ hP) (fun _ h=>⟨rfl,h⟩) ?_
           clear hOh hK hP
           intro x S9 wn hrun hlf hla hnn hP hk hK hO
           have hlt9:=hla (asks_rd _)
           replace hD:=Nat.lt_of_le_of_lt hlf hD
           replace hn0:S9.nts.length<=100002:=by omega
           replace b1:=b1.keep hk
           clear hk hnn hrun
           clear hla hlf
           have hlw9:=Lib.hid hP.left
           by_cases hx:x=0
           · have dx:(x != 0)=false:=by simpa using hx
             rw [if_pos hx,hHh.out] at hO
             have hOh:=Lib.hid hO
             clear hO hx
             go_wp2_with fail
             refine⟨⟨q+1,S9,by go_num,by omega,hP,hK,b1,hD,hn0,?_⟩,?_⟩
             · rw [show (m:Int)+1+((q+1:Nat):Int)=(m:Int)+1+q+1 from by omega]
               exact hOh
             · simp [intOf];have:=hLh.out;omega
           · have dx:(x != 0)=true:=by simpa using hx
             rw [if_neg hx] at hO
             have hOh:=Lib.hid hO
             clear hO hx
             go_wp2_with fail
             refine⟨⟨n,S9,hP,hK,b1,hD,hn0,by omega,hOh⟩,?_⟩
             rw [hlw8.out,hlw9.out]
             omega
      · obtain rfl:q=L:=by omega
        have dq:decide ((m:Int)+1+(q:Int)<(N:Int))=false:=by rw [decide_eq_false_iff_not];have:=hLh.out;omega
        replace hO:=hOh.out
        rw [Nat.sub_self,ranks_zero,forP_nilB,hGh.out] at hO
        have hOh2:=Lib.hid hO
        clear hO hOh
        go_wp2_with fail
        refine tstepN (notes_nt 3) hOh2.out hK (noteO hP (by unfold maxAns;omega)) (fun _ h=>⟨rfl,h⟩) ?_
        clear hOh2 hK hP
        intro u S9 w9 _ _ _ hP _ hK hO
        have hf:=hO.done (v:=(0:Int)) hP hK
        clear hO hP hK
        go_wp2_with fail
        first | exact hf | (go_ret;exact hf)
theorem onerel_p (B p N:Nat)(S:TS)(alg mode base loc room:Int)(m:Nat)(w:World)(h:Plays B w p S)(h2:N<=8)(hm1:m<N)(hba:0<=base/\base<=32768)(hn0:S.nts.length<=100000) :
  Calls Tryz.prog 371 #[.pointer (some ⟨p,0,none⟩),.agg #[.int .i64 alg,.int .i64 N,.int .i64 mode,.int .i64 base,.int .i64 loc,.int .i64 room],.int .i64 m] w (Post encU B p w ((oneR base m).run S)):=by
 generalize hR:Post encU B p w ((oneR base m).run S)=R
 have hO:Owes R encU B p w ((oneR base m).run S):=hR▸owes _ _ _ _ _
 clear hR
 obtain⟨b1,hK,hP⟩:=h.entry (.cells #[.int .i64 alg,.int .i64 N,.int .i64 mode,.int .i64 base,.int .i64 loc,.int .i64 room] 23)
 have c_b1:=b1.cells
 clear h
 unfold oneR at hO
 have hw2:=IntWalk.i64_in (base+(m:Int)) (by omega)
 have hOh:=Lib.hid hO
 clear hO
 go_enter Tryz.func371,Tryz.ntmps371
 go_wp2_with fail
 generalize w.heap.size=z at *
 refine tstepN (notes_nt 5) hOh.out hK (noteO hP (by unfold maxAns;omega)) (fun _ h=>⟨rfl,h⟩) ?_
 clear hOh hK hP
 intro u S1 w2 _ _ _ hP hk hK hO
 replace b1:=b1.keep hk
 clear hk c_b1
 have hOh:=Lib.hid hO
 clear hO
 have c_b1:=b1.cells
 go_wp2_with fail
 clear c_b1
 refine tlast hOh.out hK (write_p B p S1 _ _ _ hP) (fun _ h=>⟨rfl,h⟩) ?_
 clear hOh hK hP
 intro u S3 w4 hr hP hk hK hO
 have hf:=hO.done hP hK
 clear hO hP hK hr hk b1
 go_wp2_with fail
 first | exact hf | (refine bodyPost_ret (results_none rfl _ _ _) rfl ?_;exact hf)
set_option maxRecDepth 100000 in
theorem of1_p (w:World):Calls Tryz.prog 107 #[.int .i64 1] w fun e w'=>e=.returned (.iface 157 (.agg #[]))/\Ext w w':=by
 have hX:=(Ext.refl w).alloc (.cells #[.int .i64 1] 3)
 go_enter Tryz.func107,Tryz.ntmps107
 go_wp2_with fail
 go_ret
 exact⟨rfl,hX⟩
set_option maxRecDepth 100000 in
theorem of2_p (w:World):Calls Tryz.prog 107 #[.int .i64 2] w fun e w'=>e=.returned (.iface 158 (.agg #[]))/\Ext w w':=by
 have hX:=(Ext.refl w).alloc (.cells #[.int .i64 2] 3)
 go_enter Tryz.func107,Tryz.ntmps107
 go_wp2_with fail
 go_ret
 exact⟨rfl,hX⟩
set_option maxRecDepth 100000 in
theorem of3_p (w:World):Calls Tryz.prog 107 #[.int .i64 3] w fun e w'=>e=.returned (.iface 160 (.agg #[.func (.func 185) #[] #[],.int .i64 1,.func (.func 186) #[] #[],.func (.func 187) #[] #[]]))/\Ext w w':=by
 have hX:=(Ext.refl w).alloc (.cells #[.int .i64 3] 3)
 go_enter Tryz.func107,Tryz.ntmps107
 go_wp2_with fail
 go_ret
 exact⟨rfl,hX⟩
set_option maxRecDepth 100000 in
theorem of4_p (w:World):Calls Tryz.prog 107 #[.int .i64 4] w fun e w'=>e=.returned (.iface 160 (.agg #[.func (.func 188) #[] #[],.int .i64 0,.func (.func 189) #[] #[],.func (.func 190) #[] #[]]))/\Ext w w':=by
 have hX:=(Ext.refl w).alloc (.cells #[.int .i64 4] 3)
 go_enter Tryz.func107,Tryz.ntmps107
 go_wp2_with fail
 go_ret
 exact⟨rfl,hX⟩
set_option maxRecDepth 100000 in
theorem of5_p (w:World):Calls Tryz.prog 107 #[.int .i64 5] w fun e w'=>e=.returned (.iface 160 (.agg #[.func (.func 191) #[] #[],.int .i64 0,.func (.func 192) #[] #[],.func (.func 193) #[] #[]]))/\Ext w w':=by
 have hX:=(Ext.refl w).alloc (.cells #[.int .i64 5] 3)
 go_enter Tryz.func107,Tryz.ntmps107
 go_wp2_with fail
 go_ret
 exact⟨rfl,hX⟩
set_option maxRecDepth 100000 in
theorem of6_p (w:World):Calls Tryz.prog 107 #[.int .i64 6] w fun e w'=>∃ x:Nat,e=.returned (.iface 160 (.agg #[.func (.func 194) #[] #[.pointer (some ⟨x,0,none⟩)],.int .i64 0,.func (.func 195) #[] #[],.func (.func 196) #[] #[]]))/\Ext w w':=by
 have hX:=(Ext.refl w).alloc (.cells #[.int .i64 6] 3)
 go_enter Tryz.func107,Tryz.ntmps107
 go_wp2_with fail
 go_ret
 exact⟨_,rfl,hX⟩
set_option maxRecDepth 100000 in
theorem of7_p (w:World):Calls Tryz.prog 107 #[.int .i64 7] w fun e w'=>∃ x:Nat,e=.returned (.iface 160 (.agg #[.func (.func 194) #[] #[.pointer (some ⟨x,0,none⟩)],.int .i64 0,.func (.func 195) #[] #[],.func (.func 196) #[] #[]]))/\Ext w w':=by
 have hX:=(Ext.refl w).alloc (.cells #[.int .i64 7] 3)
 go_enter Tryz.func107,Tryz.ntmps107
 go_wp2_with fail
 go_ret
 exact⟨_,rfl,hX⟩
set_option maxRecDepth 100000 in
theorem of8_p (w:World):Calls Tryz.prog 107 #[.int .i64 8] w fun e w'=>e=.returned (.iface 160 (.agg #[.func (.func 98) #[] #[],.int .i64 1,.func (.func 15) #[] #[],.func (.func 19) #[] #[]]))/\Ext w w':=by
 have hX:=(Ext.refl w).alloc (.cells #[.int .i64 8] 3)
 go_enter Tryz.func107,Tryz.ntmps107
 go_wp2_with fail
 go_ret
 exact⟨rfl,hX⟩
theorem laidacq_p (F G W0:FuncId)(cp:Array Value)(mo:Int)(hcf:∀ (args:Array Value) (w:World),(callFunc F args).run Tryz.prog w=.ok (.enter F args) w)(B p:Nat)(S:TS)(alg mode base loc room:Int)(N m:Nat)(T:Prog Int)(w:World)(h:Plays B w p S)
  (hq:∀ W,Plays B W p S->Calls Tryz.prog F #[.pointer (some ⟨p,0,none⟩),.agg #[.int .i64 alg,.int .i64 N,.int .i64 mode,.int .i64 base,.int .i64 loc,.int .i64 room],.int .i64 m] W (Post encI B p W (T.run S))) :
  Calls Tryz.prog 374 #[.agg #[.func (.func W0) #[] cp,.int .i64 mo,.func (.func F) #[] #[],.func (.func G) #[] #[]],.pointer (some ⟨p,0,none⟩),.agg #[.int .i64 alg,.int .i64 N,.int .i64 mode,.int .i64 base,.int .i64 loc,.int .i64 room],.int .i64 m] w (Post encI B p w (T.run S)):=by
 generalize hR:Post encI B p w ((T).run S)=R
 have hO:Owes R encI B p w ((T).run S):=hR▸owes _ _ _ _ _
 clear hR
 obtain⟨b1,b2,hK,hP⟩:=h.entry2 (.cells #[.func (.func W0) #[] cp,.int .i64 mo,.func (.func F) #[] #[],.func (.func G) #[] #[]] 160) (.cells #[.int .i64 alg,.int .i64 N,.int .i64 mode,.int .i64 base,.int .i64 loc,.int .i64 room] 23)
 have c_b1:=b1.cells
 have c_b2:=b2.cells
 clear h
 go_enter Tryz.func374,Tryz.ntmps374
 go_wp2_with fail
 refine tlast hO hK (hq _ hP) (fun _ h=>⟨rfl,h⟩) ?_
 clear hO hK hP hq c_b1 c_b2
 intro u S9 w9 hr9 hP hk9 hK hO
 have hf:=hO.done hP hK
 clear hO hP hK hr9 hk9
 go_wp2_with fail
 first | exact hf | (refine bodyPost_ret (results_none rfl _ _ _) rfl ?_;exact hf) | (go_ret;exact hf)
theorem bakeriesacq_p (B p:Nat)(S:TS)(alg mode base loc room:Int)(N m:Nat)(T:Prog Int)(w:World)(h:Plays B w p S)
  (hq:∀ W,Plays B W p S->Calls Tryz.prog 360 #[.pointer (some ⟨p,0,none⟩),.agg #[.int .i64 alg,.int .i64 N,.int .i64 mode,.int .i64 base,.int .i64 loc,.int .i64 room],.int .i64 m] W (Post encI B p W (T.run S))) :
  Calls Tryz.prog 356 #[.agg #[],.pointer (some ⟨p,0,none⟩),.agg #[.int .i64 alg,.int .i64 N,.int .i64 mode,.int .i64 base,.int .i64 loc,.int .i64 room],.int .i64 m] w (Post encI B p w (T.run S)):=by
 generalize hR:Post encI B p w ((T).run S)=R
 have hO:Owes R encI B p w ((T).run S):=hR▸owes _ _ _ _ _
 clear hR
 obtain⟨b1,b2,hK,hP⟩:=h.entry2 (.cells #[] 157) (.cells #[.int .i64 alg,.int .i64 N,.int .i64 mode,.int .i64 base,.int .i64 loc,.int .i64 room] 23)
 have c_b1:=b1.cells
 have c_b2:=b2.cells
 clear h
 go_enter Tryz.func356,Tryz.ntmps356
 go_wp2_with fail
 refine tlast hO hK (hq _ hP) (fun _ h=>⟨rfl,h⟩) ?_
 clear hO hK hP hq c_b1 c_b2
 intro u S9 w9 hr9 hP hk9 hK hO
 have hf:=hO.done hP hK
 clear hO hP hK hr9 hk9
 go_wp2_with fail
 first | exact hf | (refine bodyPost_ret (results_none rfl _ _ _) rfl ?_;exact hf) | (go_ret;exact hf)
theorem bitsacq_p (B p:Nat)(S:TS)(alg mode base loc room:Int)(N m:Nat)(T:Prog Int)(w:World)(h:Plays B w p S)
  (hq:∀ W,Plays B W p S->Calls Tryz.prog 370 #[.pointer (some ⟨p,0,none⟩),.agg #[.int .i64 alg,.int .i64 N,.int .i64 mode,.int .i64 base,.int .i64 loc,.int .i64 room],.int .i64 m] W (Post encI B p W (T.run S))) :
  Calls Tryz.prog 366 #[.agg #[],.pointer (some ⟨p,0,none⟩),.agg #[.int .i64 alg,.int .i64 N,.int .i64 mode,.int .i64 base,.int .i64 loc,.int .i64 room],.int .i64 m] w (Post encI B p w (T.run S)):=by
 generalize hR:Post encI B p w ((T).run S)=R
 have hO:Owes R encI B p w ((T).run S):=hR▸owes _ _ _ _ _
 clear hR
 obtain⟨b1,b2,hK,hP⟩:=h.entry2 (.cells #[] 158) (.cells #[.int .i64 alg,.int .i64 N,.int .i64 mode,.int .i64 base,.int .i64 loc,.int .i64 room] 23)
 have c_b1:=b1.cells
 have c_b2:=b2.cells
 clear h
 go_enter Tryz.func366,Tryz.ntmps366
 go_wp2_with fail
 refine tlast hO hK (hq _ hP) (fun _ h=>⟨rfl,h⟩) ?_
 clear hO hK hP hq c_b1 c_b2
 intro u S9 w9 hr9 hP hk9 hK hO
 have hf:=hO.done hP hK
 clear hO hP hK hr9 hk9
 go_wp2_with fail
 first | exact hf | (refine bodyPost_ret (results_none rfl _ _ _) rfl ?_;exact hf) | (go_ret;exact hf)
set_option maxRecDepth 100000 in
theorem lkdacq_p (M:FuncId)(Y:TypeId)(hcf:∀ (args:Array Value) (w:World),(callFunc M args).run Tryz.prog w=.ok (.enter M args) w)(B p:Nat)(S:TS)(alg mode base loc room:Int)(N m:Nat)(T:Prog Int)(w:World)(h:Plays B w p S)
  (hof:∀ w,Calls Tryz.prog 107 #[.int .i64 alg] w fun e w'=>∃ a,e=.returned (.iface Y (.agg a))/\Ext w w'/\(∀ w,(method 349 Y (.agg a) "kevel/lock.acquire").run Tryz.prog w=.ok (M,.agg a) w) /\
    (∀ W,Plays B W p S->Calls Tryz.prog M #[.agg a,.pointer (some ⟨p,0,none⟩),.agg #[.int .i64 alg,.int .i64 N,.int .i64 mode,.int .i64 base,.int .i64 loc,.int .i64 room],.int .i64 m] W (Post encI B p W (T.run S)))) :
  Calls Tryz.prog 26 #[.pointer (some ⟨p,0,none⟩),.agg #[.int .i64 alg,.int .i64 N,.int .i64 mode,.int .i64 base,.int .i64 loc,.int .i64 room],.int .i64 m] w (Post encI B p w (T.run S)):=by
 generalize hR:Post encI B p w ((T).run S)=R
 have hO:Owes R encI B p w ((T).run S):=hR▸owes _ _ _ _ _
 clear hR
 obtain⟨b1,hK,hP⟩:=h.entry (.cells #[.int .i64 alg,.int .i64 N,.int .i64 mode,.int .i64 base,.int .i64 loc,.int .i64 room] 23)
 have c_b1:=b1.cells
 clear h
 go_enter Tryz.func26,Tryz.ntmps26
 go_wp2_with fail
 refine (hof _).mono ?_
 rintro e w1 ⟨a,rfl,hx,hmt,hq⟩
 replace hK:=hK.trans (Keep.of_ext hx hP.lt hP.le)
 replace b1:=b1.ext hx hP.lt
 replace hP:=hP.ext hx
 clear hx c_b1
 generalize w.heap.size=z at *
 have c_b1:=b1.cells
 go_wp2_with fail
 refine tlast hO hK (hq _ hP) (fun _ h=>⟨rfl,h⟩) ?_
 clear hO hK hP hq c_b1
 intro u S9 w9 hr9 hP hk9 hK hO
 have hf:=hO.done hP hK
 clear hO hP hK hr9 hk9
 go_wp2_with fail
 first | exact hf | (refine bodyPost_ret (results_none rfl _ _ _) rfl ?_;exact hf) | (go_ret;exact hf)
theorem laidrel_p (F G W0:FuncId)(cp:Array Value)(mo:Int)(hcf:∀ (args:Array Value) (w:World),(callFunc F args).run Tryz.prog w=.ok (.enter F args) w)(B p:Nat)(S:TS)(alg mode base loc room:Int)(N m:Nat)(T:Prog Unit)(w:World)(h:Plays B w p S)
  (hq:∀ W,Plays B W p S->Calls Tryz.prog F #[.pointer (some ⟨p,0,none⟩),.agg #[.int .i64 alg,.int .i64 N,.int .i64 mode,.int .i64 base,.int .i64 loc,.int .i64 room],.int .i64 m] W (Post encU B p W (T.run S))) :
  Calls Tryz.prog 375 #[.agg #[.func (.func W0) #[] cp,.int .i64 mo,.func (.func G) #[] #[],.func (.func F) #[] #[]],.pointer (some ⟨p,0,none⟩),.agg #[.int .i64 alg,.int .i64 N,.int .i64 mode,.int .i64 base,.int .i64 loc,.int .i64 room],.int .i64 m] w (Post encU B p w (T.run S)):=by
 generalize hR:Post encU B p w ((T).run S)=R
 have hO:Owes R encU B p w ((T).run S):=hR▸owes _ _ _ _ _
 clear hR
 obtain⟨b1,b2,hK,hP⟩:=h.entry2 (.cells #[.func (.func W0) #[] cp,.int .i64 mo,.func (.func G) #[] #[],.func (.func F) #[] #[]] 160) (.cells #[.int .i64 alg,.int .i64 N,.int .i64 mode,.int .i64 base,.int .i64 loc,.int .i64 room] 23)
 have c_b1:=b1.cells
 have c_b2:=b2.cells
 clear h
 go_enter Tryz.func375,Tryz.ntmps375
 go_wp2_with fail
 refine tlast hO hK (hq _ hP) (fun _ h=>⟨rfl,h⟩) ?_
 clear hO hK hP hq c_b1 c_b2
 intro u S9 w9 hr9 hP hk9 hK hO
 have hf:=hO.done (v:=()) hP hK
 clear hO hP hK hr9 hk9
 go_wp2_with fail
 first | exact hf | (refine bodyPost_ret (results_none rfl _ _ _) rfl ?_;exact hf) | (go_ret;exact hf)
theorem bakeriesrel_p (B p:Nat)(S:TS)(alg mode base loc room:Int)(N m:Nat)(T:Prog Unit)(w:World)(h:Plays B w p S)
  (hq:∀ W,Plays B W p S->Calls Tryz.prog 361 #[.pointer (some ⟨p,0,none⟩),.agg #[.int .i64 alg,.int .i64 N,.int .i64 mode,.int .i64 base,.int .i64 loc,.int .i64 room],.int .i64 m] W (Post encU B p W (T.run S))) :
  Calls Tryz.prog 357 #[.agg #[],.pointer (some ⟨p,0,none⟩),.agg #[.int .i64 alg,.int .i64 N,.int .i64 mode,.int .i64 base,.int .i64 loc,.int .i64 room],.int .i64 m] w (Post encU B p w (T.run S)):=by
 generalize hR:Post encU B p w ((T).run S)=R
 have hO:Owes R encU B p w ((T).run S):=hR▸owes _ _ _ _ _
 clear hR
 obtain⟨b1,b2,hK,hP⟩:=h.entry2 (.cells #[] 157) (.cells #[.int .i64 alg,.int .i64 N,.int .i64 mode,.int .i64 base,.int .i64 loc,.int .i64 room] 23)
 have c_b1:=b1.cells
 have c_b2:=b2.cells
 clear h
 go_enter Tryz.func357,Tryz.ntmps357
 go_wp2_with fail
 refine tlast hO hK (hq _ hP) (fun _ h=>⟨rfl,h⟩) ?_
 clear hO hK hP hq c_b1 c_b2
 intro u S9 w9 hr9 hP hk9 hK hO
 have hf:=hO.done (v:=()) hP hK
 clear hO hP hK hr9 hk9
 go_wp2_with fail
 first | exact hf | (refine bodyPost_ret (results_none rfl _ _ _) rfl ?_;exact hf) | (go_ret;exact hf)
theorem bitsrel_p (B p:Nat)(S:TS)(alg mode base loc room:Int)(N m:Nat)(T:Prog Unit)(w:World)(h:Plays B w p S)
  (hq:∀ W,Plays B W p S->Calls Tryz.prog 371 #[.pointer (some ⟨p,0,none⟩),.agg #[.int .i64 alg,.int .i64 N,.int .i64 mode,.int .i64 base,.int .i64 loc,.int .i64 room],.int .i64 m] W (Post encU B p W (T.run S))) :
  Calls Tryz.prog 367 #[.agg #[],.pointer (some ⟨p,0,none⟩),.agg #[.int .i64 alg,.int .i64 N,.int .i64 mode,.int .i64 base,.int .i64 loc,.int .i64 room],.int .i64 m] w (Post encU B p w (T.run S)):=by
 generalize hR:Post encU B p w ((T).run S)=R
 have hO:Owes R encU B p w ((T).run S):=hR▸owes _ _ _ _ _
 clear hR
 obtain⟨b1,b2,hK,hP⟩:=h.entry2 (.cells #[] 158) (.cells #[.int .i64 alg,.int .i64 N,.int .i64 mode,.int .i64 base,.int .i64 loc,.int .i64 room] 23)
 have c_b1:=b1.cells
 have c_b2:=b2.cells
 clear h
 go_enter Tryz.func367,Tryz.ntmps367
 go_wp2_with fail
 refine tlast hO hK (hq _ hP) (fun _ h=>⟨rfl,h⟩) ?_
 clear hO hK hP hq c_b1 c_b2
 intro u S9 w9 hr9 hP hk9 hK hO
 have hf:=hO.done (v:=()) hP hK
 clear hO hP hK hr9 hk9
 go_wp2_with fail
 first | exact hf | (refine bodyPost_ret (results_none rfl _ _ _) rfl ?_;exact hf) | (go_ret;exact hf)
set_option maxRecDepth 100000 in
theorem lkdrel_p (M:FuncId)(Y:TypeId)(hcf:∀ (args:Array Value) (w:World),(callFunc M args).run Tryz.prog w=.ok (.enter M args) w)(B p:Nat)(S:TS)(alg mode base loc room:Int)(N m:Nat)(T:Prog Unit)(w:World)(h:Plays B w p S)
  (hof:∀ w,Calls Tryz.prog 107 #[.int .i64 alg] w fun e w'=>∃ a,e=.returned (.iface Y (.agg a))/\Ext w w'/\(∀ w,(method 349 Y (.agg a) "kevel/lock.release").run Tryz.prog w=.ok (M,.agg a) w) /\
    (∀ W,Plays B W p S->Calls Tryz.prog M #[.agg a,.pointer (some ⟨p,0,none⟩),.agg #[.int .i64 alg,.int .i64 N,.int .i64 mode,.int .i64 base,.int .i64 loc,.int .i64 room],.int .i64 m] W (Post encU B p W (T.run S)))) :
  Calls Tryz.prog 30 #[.pointer (some ⟨p,0,none⟩),.agg #[.int .i64 alg,.int .i64 N,.int .i64 mode,.int .i64 base,.int .i64 loc,.int .i64 room],.int .i64 m] w (Post encU B p w (T.run S)):=by
 generalize hR:Post encU B p w ((T).run S)=R
 have hO:Owes R encU B p w ((T).run S):=hR▸owes _ _ _ _ _
 clear hR
 obtain⟨b1,hK,hP⟩:=h.entry (.cells #[.int .i64 alg,.int .i64 N,.int .i64 mode,.int .i64 base,.int .i64 loc,.int .i64 room] 23)
 have c_b1:=b1.cells
 clear h
 go_enter Tryz.func30,Tryz.ntmps30
 go_wp2_with fail
 refine (hof _).mono ?_
 rintro e w1 ⟨a,rfl,hx,hmt,hq⟩
 replace hK:=hK.trans (Keep.of_ext hx hP.lt hP.le)
 replace b1:=b1.ext hx hP.lt
 replace hP:=hP.ext hx
 clear hx c_b1
 generalize w.heap.size=z at *
 have c_b1:=b1.cells
 go_wp2_with fail
 refine tlast hO hK (hq _ hP) (fun _ h=>⟨rfl,h⟩) ?_
 clear hO hK hP hq c_b1
 intro u S9 w9 hr9 hP hk9 hK hO
 have hf:=hO.done (v:=()) hP hK
 clear hO hP hK hr9 hk9
 go_wp2_with fail
 first | exact hf | (refine bodyPost_ret (results_none rfl _ _ _) rfl ?_;exact hf) | (go_ret;exact hf)
theorem alg_cases {alg:Int}(h:1<=alg/\alg<=8):alg=1∨alg=2∨alg=3∨alg=4∨alg=5∨alg=6∨alg=7∨alg=8:=by omega
set_option maxRecDepth 100000 in
theorem lkacq_p (B p N D:Nat)(S:TS)(alg mode base loc room:Int)(m:Nat)(rs:List Reg)(w:World)(h:Plays B w p S)(hk:LkOk alg N mode base loc room rs)(hm:m<N)(hN:¬ (N=1/\mode=2))(hta:TameA S)(hD:S.left<D)(hn0:S.nts.length<=100000) :
  Calls Tryz.prog 26 #[.pointer (some ⟨p,0,none⟩),.agg #[.int .i64 alg,.int .i64 N,.int .i64 mode,.int .i64 base,.int .i64 loc,.int .i64 room],.int .i64 m] w (Post encI B p w ((lkA D alg N base loc room rs m).run S)):=by
 rcases alg_cases hk.halg with rfl | rfl | rfl | rfl | rfl | rfl | rfl | rfl
 · exact lkdacq_p _ _ (fun _ _=>rfl) B p S 1 mode base loc room N m _ w h fun w=>(of1_p w).mono fun e w' h9=>by
    obtain⟨rfl,hx⟩:=h9
    exact⟨_,rfl,hx,fun _=>by kernel_rfl,fun W hP=>bakeriesacq_p B p S _ _ _ _ _ N m _ W hP fun W hP=>bakacq_p B p N D S 1 mode base loc room m W hP hk.hn.1 hk.hn.2 hm hk.hbase hk.hroom hta hD hn0⟩
 · exact lkdacq_p _ _ (fun _ _=>rfl) B p S 2 mode base loc room N m _ w h fun w=>(of2_p w).mono fun e w' h9=>by
    obtain⟨rfl,hx⟩:=h9
    exact⟨_,rfl,hx,fun _=>by kernel_rfl,fun W hP=>bitsacq_p B p S _ _ _ _ _ N m _ W hP fun W hP=>oneacq_p B p N D S 2 mode base loc room m W hP hk.hn.1 hk.hn.2 hm hk.hbase hD hn0⟩
 · have hl:layM (bwWants N) N mode base loc=some rs:=hk.hlay (by decide)
   exact lkdacq_p _ _ (fun _ _=>rfl) B p S 3 mode base loc room N m _ w h fun w=>(of3_p w).mono fun e w' h9=>by
    obtain⟨rfl,hx⟩:=h9
    exact⟨_,rfl,hx,fun _=>by kernel_rfl,fun W hP=>laidacq_p _ _ _ _ _ (fun _ _=>rfl) B p S _ _ _ _ _ N m _ W hP fun W hP=>bwacq_p B p N D S 3 mode base loc room m rs W hP hk.hn.1 hk.hn.2 hm hl hk.hloc (laid_all hl) (bw_told hl) hta hD hn0⟩
 · have hl:layM (filWants N) N mode base loc=some rs:=hk.hlay (by decide)
   exact lkdacq_p _ _ (fun _ _=>rfl) B p S 4 mode base loc room N m _ w h fun w=>(of4_p w).mono fun e w' h9=>by
    obtain⟨rfl,hx⟩:=h9
    exact⟨_,rfl,hx,fun _=>by kernel_rfl,fun W hP=>laidacq_p _ _ _ _ _ (fun _ _=>rfl) B p S _ _ _ _ _ N m _ W hP fun W hP=>filacq_p B p N D S 4 mode base loc room m rs W hP hP.le hk.hn.1 hk.hn.2 hm hl (laid_all hl) (fil_told hl) hD hn0⟩
 · have hl:layM (fastWants N) N mode base loc=some rs:=hk.hlay (by decide)
   obtain⟨Z,z1,z2,z3⟩:=fast_hz (m:=m) (D:=D) hl hm
   exact lkdacq_p _ _ (fun _ _=>rfl) B p S 5 mode base loc room N m _ w h fun w=>(of5_p w).mono fun e w' h9=>by
    obtain⟨rfl,hx⟩:=h9
    exact⟨_,rfl,hx,fun _=>by kernel_rfl,fun W hP=>laidacq_p _ _ _ _ _ (fun _ _=>rfl) B p S _ _ _ _ _ N m _ W hP fun W hP=>fastacq_p B p N D S 5 mode base loc room m rs W hP hk.hn.1 hk.hn.2 hm hl (laid_all hl) (fast_told hl hN) hD hn0 Z z1 z2 z3⟩
 · have hl:layM (treeWants (eachK 6) N) N mode base loc=some rs:=hk.hlay (by decide)
   exact lkdacq_p _ _ (fun _ _=>rfl) B p S 6 mode base loc room N m _ w h fun w=>(of6_p w).mono fun e w' h9=>by
    obtain⟨x,rfl,hx⟩:=h9
    exact⟨_,rfl,hx,fun _=>by kernel_rfl,fun W hP=>laidacq_p _ _ _ _ _ (fun _ _=>rfl) B p S _ _ _ _ _ N m _ W hP fun W hP=>treeacq_p B p N D S 6 mode base loc room m rs W hP hk.hn.1 (by have:=hk.hn.2;omega) hm hl (tree_all hl hm) hD hn0⟩
 · have hl:layM (treeWants (eachK 7) N) N mode base loc=some rs:=hk.hlay (by decide)
   exact lkdacq_p _ _ (fun _ _=>rfl) B p S 7 mode base loc room N m _ w h fun w=>(of7_p w).mono fun e w' h9=>by
    obtain⟨x,rfl,hx⟩:=h9
    exact⟨_,rfl,hx,fun _=>by kernel_rfl,fun W hP=>laidacq_p _ _ _ _ _ (fun _ _=>rfl) B p S _ _ _ _ _ N m _ W hP fun W hP=>treeacq_p B p N D S 7 mode base loc room m rs W hP hk.hn.1 (by have:=hk.hn.2;omega) hm hl (tree_all hl hm) hD hn0⟩
 · have hl:layM (adWants N) N mode base loc=some rs:=hk.hlay (by decide)
   exact lkdacq_p _ _ (fun _ _=>rfl) B p S 8 mode base loc room N m _ w h fun w=>(of8_p w).mono fun e w' h9=>by
    obtain⟨rfl,hx⟩:=h9
    exact⟨_,rfl,hx,fun _=>by kernel_rfl,fun W hP=>laidacq_p _ _ _ _ _ (fun _ _=>rfl) B p S _ _ _ _ _ N m _ W hP fun W hP=>adacq_p B p N D S 8 mode base loc room m rs W hP hk.hn.1 hk.hn.2 hm hl hk.hloc (laid_all hl) (ad_told hl hk.hn.1) hD hn0⟩
set_option maxRecDepth 100000 in
theorem lkrel_p (B p N:Nat)(S:TS)(alg mode base loc room:Int)(m:Nat)(rs:List Reg)(w:World)(h:Plays B w p S)(hk:LkOk alg N mode base loc room rs)(hm:m<N)(hn0:S.nts.length<=100000) :
  Calls Tryz.prog 30 #[.pointer (some ⟨p,0,none⟩),.agg #[.int .i64 alg,.int .i64 N,.int .i64 mode,.int .i64 base,.int .i64 loc,.int .i64 room],.int .i64 m] w (Post encU B p w ((lkR alg N base loc rs m).run S)):=by
 rcases alg_cases hk.halg with rfl | rfl | rfl | rfl | rfl | rfl | rfl | rfl
 · exact lkdrel_p _ _ (fun _ _=>rfl) B p S 1 mode base loc room N m _ w h fun w=>(of1_p w).mono fun e w' h9=>by
    obtain⟨rfl,hx⟩:=h9
    exact⟨_,rfl,hx,fun _=>by kernel_rfl,fun W hP=>bakeriesrel_p B p S _ _ _ _ _ N m _ W hP fun W hP=>bakrel_p B p N S 1 mode base loc room m W hP hk.hn.1 hk.hn.2 hm hk.hbase hk.hroom hn0⟩
 · exact lkdrel_p _ _ (fun _ _=>rfl) B p S 2 mode base loc room N m _ w h fun w=>(of2_p w).mono fun e w' h9=>by
    obtain⟨rfl,hx⟩:=h9
    exact⟨_,rfl,hx,fun _=>by kernel_rfl,fun W hP=>bitsrel_p B p S _ _ _ _ _ N m _ W hP fun W hP=>onerel_p B p N S 2 mode base loc room m W hP hk.hn.2 hm hk.hbase hn0⟩
 · have hl:layM (bwWants N) N mode base loc=some rs:=hk.hlay (by decide)
   exact lkdrel_p _ _ (fun _ _=>rfl) B p S 3 mode base loc room N m _ w h fun w=>(of3_p w).mono fun e w' h9=>by
    obtain⟨rfl,hx⟩:=h9
    exact⟨_,rfl,hx,fun _=>by kernel_rfl,fun W hP=>laidrel_p _ _ _ _ _ (fun _ _=>rfl) B p S _ _ _ _ _ N m _ W hP fun W hP=>bwrel_p B p N S 3 mode base loc room m rs W hP hk.hn.1 hk.hn.2 hm hl hk.hloc (laid_all hl) hn0⟩
 · have hl:layM (filWants N) N mode base loc=some rs:=hk.hlay (by decide)
   exact lkdrel_p _ _ (fun _ _=>rfl) B p S 4 mode base loc room N m _ w h fun w=>(of4_p w).mono fun e w' h9=>by
    obtain⟨rfl,hx⟩:=h9
    exact⟨_,rfl,hx,fun _=>by kernel_rfl,fun W hP=>laidrel_p _ _ _ _ _ (fun _ _=>rfl) B p S _ _ _ _ _ N m _ W hP fun W hP=>filrel_p B p N S 4 mode base loc room m rs W hP hk.hn.1 hk.hn.2 hm hl (laid_all hl) hn0⟩
 · have hl:layM (fastWants N) N mode base loc=some rs:=hk.hlay (by decide)
   exact lkdrel_p _ _ (fun _ _=>rfl) B p S 5 mode base loc room N m _ w h fun w=>(of5_p w).mono fun e w' h9=>by
    obtain⟨rfl,hx⟩:=h9
    exact⟨_,rfl,hx,fun _=>by kernel_rfl,fun W hP=>laidrel_p _ _ _ _ _ (fun _ _=>rfl) B p S _ _ _ _ _ N m _ W hP fun W hP=>fastrel_p B p N S 5 mode base loc room m rs W hP hk.hn.1 hk.hn.2 hm hl (laid_all hl) hn0⟩
 · have hl:layM (treeWants (eachK 6) N) N mode base loc=some rs:=hk.hlay (by decide)
   exact lkdrel_p _ _ (fun _ _=>rfl) B p S 6 mode base loc room N m _ w h fun w=>(of6_p w).mono fun e w' h9=>by
    obtain⟨x,rfl,hx⟩:=h9
    exact⟨_,rfl,hx,fun _=>by kernel_rfl,fun W hP=>laidrel_p _ _ _ _ _ (fun _ _=>rfl) B p S _ _ _ _ _ N m _ W hP fun W hP=>treerel_p B p N S 6 mode base loc room m rs W hP hk.hn.1 (by have:=hk.hn.2;omega) hm hl (tree_all hl hm) hn0⟩
 · have hl:layM (treeWants (eachK 7) N) N mode base loc=some rs:=hk.hlay (by decide)
   exact lkdrel_p _ _ (fun _ _=>rfl) B p S 7 mode base loc room N m _ w h fun w=>(of7_p w).mono fun e w' h9=>by
    obtain⟨x,rfl,hx⟩:=h9
    exact⟨_,rfl,hx,fun _=>by kernel_rfl,fun W hP=>laidrel_p _ _ _ _ _ (fun _ _=>rfl) B p S _ _ _ _ _ N m _ W hP fun W hP=>treerel_p B p N S 7 mode base loc room m rs W hP hk.hn.1 (by have:=hk.hn.2;omega) hm hl (tree_all hl hm) hn0⟩
 · have hl:layM (adWants N) N mode base loc=some rs:=hk.hlay (by decide)
   exact lkdrel_p _ _ (fun _ _=>rfl) B p S 8 mode base loc room N m _ w h fun w=>(of8_p w).mono fun e w' h9=>by
    obtain⟨rfl,hx⟩:=h9
    exact⟨_,rfl,hx,fun _=>by kernel_rfl,fun W hP=>laidrel_p _ _ _ _ _ (fun _ _=>rfl) B p S _ _ _ _ _ N m _ W hP fun W hP=>adrel_p B p N S 8 mode base loc room m rs W hP hk.hn.1 hk.hn.2 hm hl hk.hloc (laid_all hl) (ad_told hl hk.hn.1) hn0⟩
end Go.Proofs.YtbaajjkopdjbgaaGreat
namespace Kv
def Prog.Ends {α:Type} (p:Prog α) (R:α->Prop):Prop:=∀ (S:TS) (a:α) (S':TS),p.run S=(some a,S')->R a
theorem Prog.Ends.ret {α:Type}{R:α->Prop}{a:α}(h:R a):(Prog.ret a).Ends R:=by
 intro S b S' hr
 injection hr with e1 e2
 injection e1 with e1
 exact e1▸h
theorem Prog.Ends.bind {α β:Type}{p:Prog α}{f:α->Prog β}{R:β->Prop}(h:∀ a,(f a).Ends R):(p.bind f).Ends R:=by
 intro S b S' hr
 obtain⟨a,S1,_,h2⟩:=Prog.bind_some hr
 exact h a S1 b S' h2
end Kv
namespace Go.Proofs.YtbaajjkopdjbgaaGreat
open Kv
theorem ends_lkA (D:Nat)(alg:Int)(N:Nat)(base loc room:Int)(rs:List Reg)(m:Nat):(lkA D alg N base loc room rs m).Ends fun e=>e=0∨e=11/\alg=1:=by
 unfold lkA
 repeat' split
 · rename_i h1
   unfold bakA
   refine .bind fun _=>.bind fun _=>.bind fun t=>?_
   unfold bakIn
   split
   · exact .bind fun _=>.bind fun _=>.ret (.inr ⟨rfl,h1⟩)
   · exact .bind fun _=>.bind fun _=>.bind fun _=>.bind fun _=>.bind fun _=>.bind fun _=>.ret (.inl rfl)
 · exact .bind fun _=>.bind fun _=>.bind fun _=>.bind fun _=>.bind fun _=>.bind fun _=>.ret (.inl rfl)
 · unfold bwA
   exact .bind fun _=>.bind fun _=>.bind fun _=>.bind fun _=>.bind fun _=>.bind fun _=>.bind fun _=>.bind fun _=>.bind fun _=>.bind fun _=>.ret (.inl rfl)
 · exact .bind fun _=>.bind fun _=>.bind fun _=>.ret (.inl rfl)
 · exact .bind fun _=>.bind fun _=>.bind fun _=>.ret (.inl rfl)
 · unfold adA
   exact .bind fun _=>.bind fun _=>.bind fun _=>.bind fun _=>.ret (.inl rfl)
 · exact .bind fun _=>.bind fun _=>.bind fun _=>.ret (.inl rfl)
theorem lkA_fail {D:Nat}{alg:Int}{N:Nat}{base loc room:Int}{rs:List Reg}{m:Nat}{S S':TS}(h:(lkA D alg N base loc room rs m).run S=(some 11,S'))(hl:S'.acc.length<=S'.ans.length):S'.left<S.left:=by
 obtain⟨_,rfl⟩:=(ends_lkA D alg N base loc room rs m S 11 S' h).resolve_left (by decide)
 exact (show (bakA D base N room loc m).Asks from .note _ (.write _ _ _)).left h hl
end Go.Proofs.YtbaajjkopdjbgaaGreat
namespace Kv
theorem run_back {α:Type}{p:Prog α}{S S':TS}{o:Option α}(h:p.run S=(o,S'))(hl:S'.acc.length<=S'.ans.length):S.acc.length<=S.ans.length:=by
 have q1:=Prog.run_len p S
 have q2:=Prog.run_ans p S
 rw [h] at q1 q2
 simp only at q1 q2
 rw [q2] at hl
 omega
def Prog.Pays {α:Type} (p:Prog α) (c:Int):Prop:=∀ (S:TS) (a:α) (S':TS),p.run S=(some a,S')->S'.acc.length<=S'.ans.length->(S'.nts.length:Int)+10*S'.left<=S.nts.length+10*S.left+c
theorem Prog.Notes.pays {α:Type}{p:Prog α}{n:Nat}(h:p.Notes n):p.Pays n:=by
 intro S a S' hr _
 have h1:=h.run S
 have h2:=Prog.run_left p S
 rw [hr] at h1 h2
 simp only at h1 h2
 omega
theorem Prog.Asks.pays {α:Type}{p:Prog α}{n:Nat}(h:p.Asks)(hn:p.Notes n):p.Pays ((n:Int)-10):=by
 intro S a S' hr hl
 have h1:=hn.run S
 have h2:=h.left hr hl
 rw [hr] at h1
 simp only at h1
 omega
theorem Prog.Pays.mono {α:Type}{p:Prog α}{c d:Int}(h:p.Pays c)(hd:c<=d):p.Pays d:=fun S a S' hr hl=>by
 have:=h S a S' hr hl
 omega
theorem Prog.Pays.bind {α β:Type}{p:Prog α}{f:α->Prog β}{c d:Int}(h:p.Pays c)(hf:∀ a,(f a).Pays d):(p.bind f).Pays (c+d):=by
 intro S b S' hr hl
 obtain⟨a,S1,h1,h2⟩:=Prog.bind_some hr
 have:=h S a S1 h1 (run_back h2 hl)
 have:=hf a S1 b S' h2 hl
 omega
def inA (T:Prog Int):Nat->Prog Unit
 | 0=>.ret ()
 | n+1=>T.bind fun e=>if e=11 then inA T n else .ret ()
theorem inA_pays {T:Prog Int}(h4:T.Notes 4)(hf:∀ S S',T.run S=(some 11,S')->S'.acc.length<=S'.ans.length->S'.left<S.left):∀ n,(inA T n).Pays 4
 | 0=>(show (Prog.ret ()).Notes 4 from .ret _ _).pays
 | n+1=>by
   intro S a S' hr hl
   obtain⟨e,S1,h1,h2⟩:=Prog.bind_some hr
   have hl1:=run_back h2 hl
   have hn:=h4.run S
   have hlf:=Prog.run_left T S
   rw [h1] at hn hlf
   simp only at hn hlf
   by_cases he:e=11
   · subst he
     rw [if_pos rfl] at h2
     have:=inA_pays h4 hf n S1 a S' h2 hl
     have:=hf S S1 h1 hl1
     omega
   · rw [if_neg he] at h2
     have:=(show (Prog.ret ()).Notes 0 from .ret _ _).pays S1 a S' h2 hl
     omega
def insideA {α:Type} (I U:Prog Unit) (Q:Prog α):Prog α:=I.bind fun _=>Q.bind fun x=>U.bind fun _=>.ret x
theorem insideA_pays {α:Type}{I U:Prog Unit}{Q:Prog α}(hI:I.Pays 4)(hU:U.Notes 1)(hQ:Q.Pays (-10)):(insideA I U Q).Pays (-5) :=
 (hI.bind fun _=>hQ.bind fun x=>hU.pays.bind fun _=>(show (Prog.ret x).Notes 0 from .ret _ _).pays).mono (by omega)
theorem insideA_bind {α β:Type}(I U:Prog Unit)(Q:Prog α)(f:α->Prog β):(insideA I U Q).bind f=I.bind fun _=>Q.bind fun x=>U.bind fun _=>f x:=by
 unfold insideA
 simp only [Prog.bind_assoc]
 rfl
theorem insideA_asks {α:Type}{Q:Prog α}(I U:Prog Unit)(hQ:Q.Asks):(insideA I U Q).Asks:=Prog.Asks.then (fun _=>hQ.bind _) I
end Kv
namespace Go.Proofs.YtbaajjkopdjbgaaGreat
open Kv
structure LkUse (alg:Int) (N:Nat) (mode base loc room:Int) (rs:List Reg) (m:Nat):Prop where
 ok:LkOk alg N mode base loc room rs
 hm:m<N
 hN:¬ (N=1/\mode=2)
theorem lkA_pays (D:Nat)(alg:Int)(N:Nat)(base loc room:Int)(rs:List Reg)(m n:Nat):(inA (lkA D alg N base loc room rs m) n).Pays 4:=inA_pays (notes_lkA ..) (fun _ _ h hl=>lkA_fail h hl) n
theorem load_obj {ops:Array Oper}{rest:List Oper}{op0 op:Oper}{a:Act}{w:World}{Q:Exit->Act->World->Prop}(hg0:op0.guard=none)(y:Operand)(ho0:op0.op=.move y)(hgd:op.guard=none)(x:Operand)(ho:op.op=.load 69 x)
  (b:Nat)(hx:(a.put op0.dst (a.eval y)).eval x=.pointer (some ⟨b,0,none⟩)){cs:Array Value}{t:TypeId}{fz:Nat × Nat}(h:w.heap[b]?=some (.cells cs t fz))(hn:cs.size=23)
  (hK:wpList Tryz.prog ops Q rest ((a.put op0.dst (a.eval y)).put op.dst (.agg cs)) w):wpList Tryz.prog ops Q (op0 :: op :: rest) a w:=by
 have hv:(loadVar 69 ⟨b,0,none⟩).run Tryz.prog w=.ok (.agg cs) w:=by
  refine run_loadVar_row _ _ _ _ cs fz _ h Tryz.underlying69 rfl ?_
  rw [hn]
  kernel_rfl
 refine wpList_plain hg0 fun _ hK'=>?_
 unfold Oper.wp execOp
 simp only [ho0,Sem.run_pure]
 refine hK' _ _ ?_
 refine wpList_plain hgd fun _ hK'=>?_
 unfold Oper.wp execOp
 simp only [ho,hx,Instr.loadAt,Instr.sureAddr,Sem.run_bind,Sem.run_pure,Result.andThen_ok,hv]
 exact hK' _ _ hK
end Go.Proofs.YtbaajjkopdjbgaaGreat
namespace Go.Proofs.YtbaajjkopdjbgaaGreat
open Go.RowKit Kv
set_option maxRecDepth 100000 in
theorem in_p (B p N D:Nat)(S:TS)(alg mode base loc room:Int)(m:Nat)(rs:List Reg)(w:World)(h:Plays B w p S)(hk:LkUse alg N mode base loc room rs m)(hta:TameA S)(hD:S.left<D)(hn0:S.nts.length+10*S.left<=90000) :
  Calls Tryz.prog 48 #[.pointer (some ⟨p,0,none⟩),.agg #[.int .i64 alg,.int .i64 N,.int .i64 mode,.int .i64 base,.int .i64 loc,.int .i64 room],.int .i64 m] w (Post encU B p w ((inA (lkA D alg N base loc room rs m) D).run S)):=by
 generalize hR:Post encU B p w ((inA (lkA D alg N base loc room rs m) D).run S)=R
 have hO:Owes R encU B p w ((inA (lkA D alg N base loc room rs m) D).run S):=hR▸owes _ _ _ _ _
 clear hR
 obtain⟨b1,hK,hP⟩:=h.entry (.cells #[.int .i64 alg,.int .i64 N,.int .i64 mode,.int .i64 base,.int .i64 loc,.int .i64 room] 23)
 have c_b1:=b1.cells
 clear h
 have hacq:=Lib.hid fun S W hP hta hD hn=>lkacq_p B p N D S alg mode base loc room m rs W hP hk.ok hk.hm hk.hN hta hD hn
 have hfail:=Lib.hid fun S S'=>lkA_fail (D:=D) (alg:=alg) (N:=N) (base:=base) (loc:=loc) (room:=room) (rs:=rs) (m:=m) (S:=S) (S':=S')
 have hT4:=Lib.hid (notes_lkA D alg N base loc room rs m)
 generalize lkA D alg N base loc room rs m=T at *
 have hOh:=Lib.hid hO
 clear hO hk
 go_enter Tryz.func48,Tryz.ntmps48
 go_wp2_with fail
 generalize w.heap.size=z at *
 generalize World.alloc w _=W0 at *
 clear c_b1
 go_loopw [] (fun wr'=>∃ (n:Nat) (S2:TS),Plays B wr' p S2/\KeepP B p w wr'/\HeldP wr' p z (.cells #[.int .i64 alg,.int .i64 N,.int .i64 mode,.int .i64 base,.int .i64 loc,.int .i64 room] 23)/\TameA S2/\S2.left<D/\S2.nts.length+10*S2.left<=90000/\S2.left<n/\Hid (Owes R encU B p w ((inA T n).run S2))) (fun wr'=>leftW 1 3 wr' p)
 case atStart=>exact⟨D,S,hP,hK,b1,hta,hD,hn0,hD,hOh⟩
 case round =>
  clear hP hK b1 hta hD hn0 hOh
  obtain⟨n,S2,hP,hK,b1,hta,hD,hn0,hn,hO⟩:=hrel
  replace hO:=hO.out
  have hlw:=Lib.hid hP.left
  cases n with
  | zero=>omega
  | succ n =>
    rw [show inA T (n+1)=T.bind fun e=>if e=11 then inA T n else .ret () from rfl] at hO
    have hOh:=Lib.hid hO
    clear hO
    have c_b1:=b1.cells
    go_wp2_with fail
    clear c_b1
    refine tstepA hT4.out hOh.out hK (hacq.out S2 _ hP hta hD (by omega)) (fun _ h=>⟨rfl,h⟩) ?_
    clear hOh hK hP
    intro e S3 w3 hrun hlf _ hnn hP hk hK hO
    have hlw2:=Lib.hid hP.left
    by_cases he:e=11
    · have de:(e==11)=true:=by rw [beq_iff_eq];exact he
      have hdec:=hfail.out S2 S3 (he▸hrun) hP.1
      rw [if_pos he] at hO
      have hOh:=Lib.hid hO
      replace b1:=b1.keep hk
      replace hta:=hta.run hrun
      clear hO hk hrun he
      go_wp2_with fail
      refine⟨⟨n,S3,hP,hK,b1,hta,by omega,by omega,by omega,hOh⟩,?_⟩
      rw [hlw.out,hlw2.out]
      omega
    · have de:(e==11)=false:=by rw [beq_eq_false_iff_ne];exact he
      rw [if_neg he] at hO
      have hf:=hO.done hP hK
      clear hO hP hK hk hrun hlw hlw2 he b1
      go_wp2_with fail
      first | exact hf | (refine bodyPost_ret (results_none rfl _ _ _) rfl ?_;exact hf)
set_option maxRecDepth 100000 in
theorem out_p (B p N:Nat)(S:TS)(alg mode base loc room:Int)(m:Nat)(rs:List Reg)(w:World)(h:Plays B w p S)(hk:LkUse alg N mode base loc room rs m)(hn0:S.nts.length<=100000) :
  Calls Tryz.prog 49 #[.pointer (some ⟨p,0,none⟩),.agg #[.int .i64 alg,.int .i64 N,.int .i64 mode,.int .i64 base,.int .i64 loc,.int .i64 room],.int .i64 m] w (Post encU B p w ((lkR alg N base loc rs m).run S)):=by
 generalize hR:Post encU B p w ((lkR alg N base loc rs m).run S)=R
 have hO:Owes R encU B p w ((lkR alg N base loc rs m).run S):=hR▸owes _ _ _ _ _
 clear hR
 obtain⟨b1,hK,hP⟩:=h.entry (.cells #[.int .i64 alg,.int .i64 N,.int .i64 mode,.int .i64 base,.int .i64 loc,.int .i64 room] 23)
 have c_b1:=b1.cells
 clear h
 have hq:=fun W hP=>lkrel_p B p N S alg mode base loc room m rs W hP hk.ok hk.hm hn0
 go_enter Tryz.func49,Tryz.ntmps49
 go_wp2_with fail
 refine tlast hO hK (hq _ hP) (fun _ h=>⟨rfl,h⟩) ?_
 clear hO hK hP hq c_b1
 intro u S9 w9 hr9 hP hk9 hK hO
 have hf:=hO.done hP hK
 clear hO hP hK hr9 hk9
 go_wp2_with fail
 first | exact hf | (refine bodyPost_ret (results_none rfl _ _ _) rfl ?_;exact hf) | (go_ret;exact hf)
def PostX {α:Type} (X:Nat->Prop) (V:α->World->Prop) (B p:Nat) (w0:World) (r:Option α × TS) (e:Ending) (w':World):Prop :=
 match r.1 with
 | some v=>e=.returned (.tuple #[])/\Plays B w' p r.2/\KeepX X [2,3,4] B p w0 w'/\V v w'
 | none=>e=stopE p/\Stops B w' p r.2/\KeepX X [2,3,4] B p w0 w'
def OwesX {α:Type} (R:Ending->World->Prop) (X:Nat->Prop) (V:α->World->Prop) (B p:Nat) (w0:World) (r:Option α × TS):Prop:=∀ e w',PostX X V B p w0 r e w'->R e w'
section
variable {α β:Type} {X:Nat->Prop} {V:α->World->Prop} {B p:Nat} {w0 w:World} {S:TS} {R:Ending->World->Prop}
theorem OwesX.done {v:α}{w':World}(h:OwesX R X V B p w0 (some v,S))(h1:Plays B w' p S)(h2:KeepX X [2,3,4] B p w0 w')(h3:V v w'):R (.returned (.tuple #[])) w':=h _ _ ⟨rfl,h1,h2,h3⟩
end
def encS (x:Int):Value:=.bool (x==0)
@[go_sem] theorem encS_eq (x:Int):encS x=.bool (x==0):=rfl
set_option maxRecDepth 100000 in
theorem alloc_obj (w:World)(a:Act)(op:Oper)(h:op.op=.alloc 69):∃ c:Array Value,c.size=23/\(execOp a.eval op).run Tryz.prog w=.ok (.value (.pointer (some ⟨w.heap.size,0,none⟩))) (w.alloc (.cells c 69)):=by
 refine⟨#[.int .i64 0,.int .i64 0,.int .i64 0,.int .i64 0,.int .i64 0,.int .i64 0,.int .i64 0,.int .i64 0,.int .i64 0,.int .i64 0,.int .i64 0,.int .i64 0,.int .i64 0,.int .i64 0,.int .i64 0,.int .i64 0,.int .i64 0,.int .i64 0,.int .i64 0,.int .i64 0,.int .i64 0,.int .i64 0,.int .i64 0],rfl,?_⟩
 unfold execOp
 rw [h]
 go_simp
theorem new_obj {ops:Array Oper}{rest:List Oper}{op0 op:Oper}{a:Act}{w:World}{Q:Exit->Act->World->Prop}(hg0:op0.guard=none)(ho0:op0.op=.alloc 69)(hgd:op.guard=none)(x y:Operand)(ho:op.op=.store 69 x y)
  (cs:Array Value)(hx:(a.put op0.dst (.pointer (some ⟨w.heap.size,0,none⟩))).eval x=.pointer (some ⟨w.heap.size,0,none⟩))(hy:(a.put op0.dst (.pointer (some ⟨w.heap.size,0,none⟩))).eval y=.agg cs)(hn:cs.size=23)(h1:cs.all (·.oneCell')=true)
  (hK:wpList Tryz.prog ops Q rest ((a.put op0.dst (.pointer (some ⟨w.heap.size,0,none⟩))).put op.dst undef) (w.alloc (.cells cs 69))):wpList Tryz.prog ops Q (op0 :: op :: rest) a w:=by
 obtain⟨c,hc,hal⟩:=alloc_obj w a op0 ho0
 refine wpList_plain hg0 fun _ hK'=>?_
 unfold Oper.wp
 rw [hal]
 refine hK' _ _ ?_
 refine wpList_plain hgd fun _ hK'=>?_
 have hst:=run_storeAt_new (P:=Tryz.prog) w 69 c cs (by rw [hn];kernel_rfl) (by rw [hc,hn]) h1
 unfold Oper.wp execOp
 simp only [ho,hx,hy,Sem.run_bind,hst,Sem.run_pure,Result.andThen_ok]
 exact hK' _ _ hK
theorem wpList_wanted {P:Program}{ops:Array Oper}{rest:List Oper}{o:Oper}{a:Act}{w:World}{Q:Exit->Act->World->Prop}(hw:Region.wanted o (yielded ops a.tmps)=true)
  (h:∀ K:Act->World->Prop,(∀ a w,wpList P ops Q rest a w->K a w)->o.wp P a w K Q):wpList P ops Q (o :: rest) a w :=
 wpList_step fun K hK=>by simp only [hw,if_true];exact h K hK
theorem load_objG {ops:Array Oper}{rest:List Oper}{op:Oper}{a:Act}{w:World}{Q:Exit->Act->World->Prop}(hw:Region.wanted op (yielded ops a.tmps)=true)(x:Operand)(ho:op.op=.load 69 x)
  (b:Nat)(hx:a.eval x=.pointer (some ⟨b,0,none⟩)){cs:Array Value}{t:TypeId}{fz:Nat × Nat}(h:w.heap[b]?=some (.cells cs t fz))(hn:cs.size=23)
  (hK:wpList Tryz.prog ops Q rest (a.put op.dst (.agg cs)) w):wpList Tryz.prog ops Q (op :: rest) a w:=by
 have hv:(loadVar 69 ⟨b,0,none⟩).run Tryz.prog w=.ok (.agg cs) w:=by
  refine run_loadVar_row _ _ _ _ cs fz _ h Tryz.underlying69 rfl ?_
  rw [hn]
  kernel_rfl
 refine wpList_wanted hw fun _ hK'=>?_
 unfold Oper.wp execOp
 simp only [ho,hx,Instr.loadAt,Instr.sureAddr,Sem.run_bind,Sem.run_pure,Result.andThen_ok,hv]
 exact hK' _ _ hK
end Go.Proofs.YtbaajjkopdjbgaaGreat
namespace Kv
def diagL (d:Nat):Nat->List (Nat × Nat)
 | 0=>[]
 | y+1=>diagL d y++[(d-y,y)]
def triPts:Nat->List (Nat × Nat)
 | 0=>[]
 | d+1=>triPts d++diagL d (d+1)
end Kv
namespace Go.Proofs.YtbaajjkopdjbgaaGreat
open Go.RowKit Kv
def ptVals (q:Nat × Nat):List Value:=[.int .i64 q.1,.int .i64 q.2,.bool true]
theorem info_pt:(Tryz.prog.info? 202).map (fun i=>(i.zero,i.size,i.bytes))=some (some (.agg #[.int .i64 0,.int .i64 0,.bool false]),3,24):=by kernel_rfl
@[go_sem] theorem build_pt (a b:Int) (c:Bool) (w:World):(Instr.build 202 #[(0,.int .i64 a),(1,.int .i64 b),(2,.bool c)]).run Tryz.prog w=.ok (.agg #[.int .i64 a,.int .i64 b,.bool c]) w:=run_build w 202 _ _ (by kernel_rfl)
theorem ptRow_snoc (d y:Nat):(triPts d++diagL d (y+1)).flatMap ptVals=(triPts d++diagL d y).flatMap ptVals++ptVals (d-y,y):=by
 rw [diagL,<- List.append_assoc,List.flatMap_append]
 simp
def ptRow (d y:Nat):List Value:=(triPts d++diagL d y).flatMap ptVals
theorem ptRow_zero (d:Nat):ptRow d 0=(triPts d).flatMap ptVals:=by unfold ptRow diagL;rw [List.append_nil]
theorem ptRow_full (d:Nat):ptRow d (d+1)=ptRow (d+1) 0:=by rw [ptRow_zero];rfl
set_option maxRecDepth 100000 in
set_option maxHeartbeats 1000000 in
theorem list05_r (n:Nat)(w:World)(hn:n<=64):Calls Tryz.prog 267 #[.int .i64 n] w fun e w'=>∃ v,e=.returned v/\w'.ownsRow w.heap.size 202 3 v (triN n) ((triPts n).flatMap ptVals)/\Ext w w':=by
 go_enter Tryz.func267,Tryz.ntmps267
 go_wp2_with fail
 go_loopw [3,4,5] (fun v i _ wr=>∃ d:Nat,i=.int .i64 d/\d<=n/\wr.ownsRow w.heap.size 202 3 v (triN d) (ptRow d 0)/\Ext w wr) (fun _ i _ _=>n-(intOf i).toNat)
 case atStart=>exact⟨0,rfl,by omega,World.ownsRow_nil _ _ _ _,Ext.refl _⟩
 case round =>
  obtain⟨d,rfl,hd,hown,hE⟩:=hrel
  by_cases hl:d<n
  · have d1:decide ((d:Int)<(n:Int))=true:=by rw [decide_eq_true_eq];omega
    have d2:decide ((d:Int)<64)=true:=by rw [decide_eq_true_eq];omega
    have ht:=triN_64 (show d<=64 by omega)
    generalize hT:triN d=T at *
    go_wp2_with fail
    go_loopw [3,5] (fun v i wr=>∃ y:Nat,i=.int .i64 y/\y<=d+1/\wr.ownsRow w.heap.size 202 3 v (T+y) (ptRow d y)/\Ext w wr) (fun _ i _=>d+1-(intOf i).toNat)
    case atStart=>exact⟨0,rfl,by omega,hown,hE⟩
    case round =>
     clear hown hE
     obtain⟨y,rfl,hy,hown,hE⟩:=hrel
     by_cases hyd:y<d+1
     · have d3:decide ((y:Int)<=(d:Int))=true:=by rw [decide_eq_true_eq];omega
       have hw:=IntWalk.i64_in ((d:Int)-(y:Int)) (by omega)
       go_wp2_with (at_builtin;refine append_rec info_pt Tryz.underlying198 rfl (by decide) (by decide) rfl _ _ rfl _ (T+y) _ [.int .i64 ((d:Int)-(y:Int)),.int .i64 y,.bool true] hE hown rfl rfl rfl (by simp [Value.oneCell']) (by omega) ?_)
       intro v' w' ho hx _
       have hoh:Hid (w'.ownsRow w.heap.size 202 3 v' (T+(y+1)) (ptRow d (y+1))):=Lib.hid (by
        rw [ptRow,ptRow_snoc,ptVals,show ((d-y:Nat):Int)=(d:Int)-(y:Int) from by omega];exact ho)
       clear hown ho hE
       go_wp2_with fail
       refine⟨⟨y+1,by go_num,by omega,hoh.out,hx⟩,?_⟩
       simp [intOf];omega
     · obtain rfl:y=d+1:=by omega
       have d3:decide (((d+1:Nat):Int)<=(d:Int))=false:=by rw [decide_eq_false_iff_not];omega
       have hoh:Hid (wr.ownsRow w.heap.size 202 3 u3 (triN (d+1)) (ptRow (d+1) 0)):=Lib.hid (by
        rw [triN_succ,hT,<- ptRow_full];exact hown)
       clear hown
       go_wp2_with fail
       refine⟨⟨d+1,by go_num,by omega,hoh.out,hE⟩,?_⟩
       simp [intOf];omega
  · obtain rfl:d=n:=by omega
    have d1:decide ((d:Int)<(d:Int))=false:=by simp
    have hoh:Hid (wr.ownsRow w.heap.size 202 3 u3 (triN d) ((triPts d).flatMap ptVals)):=Lib.hid (by rw [<- ptRow_zero];exact hown)
    clear hown
    go_wp2_with fail
    go_ret
    exact⟨_,rfl,hoh.out,hE⟩
set_option maxRecDepth 100000 in
set_option maxHeartbeats 1000000 in
theorem renwants_r (N:Nat)(w:World)(h1:1<=N)(h2:N<=8) :
  Calls Tryz.prog 213 #[.int .i64 N] w fun e w'=>∃ v,e=.returned v/\w'.ownsRow w.heap.size 179 2 v (2*triN N) ((renW (triN N) N).flatMap wantVals)/\Ext w w':=by
 have hn:nM (N:Int)=N:=nM_id (by omega) (by omega)
 have hL:=fun w=>list05_r N w (by omega)
 have hW:=fun w=>rwants31_r N w
 rw [hn] at hW
 obtain⟨q1,q2⟩:=triN_le h1 h2
 generalize (triPts N).flatMap ptVals=pts at *
 generalize triN N=M at *
 go_enter Tryz.func213,Tryz.ntmps213
 go_wp2_with fail
 refine (rn_any ⟨0,0,0,N,0,0,0⟩ _).mono ?_
 rintro e w1 ⟨rfl,hx⟩
 try simp only
 rw [hn]
 clear hn
 go_wp2_with fail
 go_loopw [4,5] (fun v i wr=>∃ j:Nat,i=.int .i64 j/\j<=M/\wr.ownsRow w.heap.size 179 2 v (2*j) ((renW j N).flatMap wantVals)/\Ext w wr) (fun _ i _=>M-(intOf i).toNat)
 case atStart=>exact⟨0,rfl,by omega,World.ownsRow_nil _ _ _ _,hx⟩
 case round =>
  clear hx
  obtain⟨j,rfl,hj,hown,hX⟩:=hrel
  go_wp2_with fail
  refine (hL _).mono ?_
  rintro e w2 ⟨v1,rfl,hr1,hx2⟩
  obtain⟨A1,c1,rfl,-,-,-⟩:=Recs.of_row hr1
  replace hown:=row_ext hown hx2
  replace hX:=hX.trans hx2
  clear hx2 hr1
  by_cases hl:j<M
  · have d1:decide ((j:Int)<(M:Int))=true:=by rw [decide_eq_true_eq];omega
    go_wp2_with fail
    refine (hW _).mono ?_
    rintro e w3 ⟨v2,rfl,hr2,hx3⟩
    replace hown:=row_ext hown hx3
    replace hX:=hX.trans hx3
    obtain⟨A,c,rfl,r1,r2,hV⟩:=hr2
    obtain⟨b,rfl,hb,hc⟩:=hV (by simp [wantVals])
    clear hV hx3
    go_wp2_with (at_builtin;refine append_recs info_want Tryz.underlying102 rfl (by decide) (by decide) rfl _ _ rfl _ (2*j) _ (([⟨-1,(N:Int)⟩,⟨-1,1⟩]:List Want).flatMap wantVals) ⟨b,0,none⟩ 2 c hX hown rfl rfl rfl (fun i u hu=>by rw [Addr.add_lit,Nat.zero_add];exact hc i u hu) (fun u hu=>by simp [wantVals] at hu;rcases hu with rfl | rfl | rfl | rfl <;> rfl) (by omega) (by omega) ?_)
    intro v' w' ho hx'
    have hoh:Hid (w'.ownsRow w.heap.size 179 2 v' (2*(j+1)) ((renW (j+1) N).flatMap wantVals)):=Lib.hid (by
     rw [renW,List.flatMap_append];exact ho)
    clear hown ho hc
    go_wp2_with fail
    refine⟨⟨j+1,by go_num,by omega,hoh.out,hx'⟩,?_⟩
    simp [intOf];omega
  · obtain rfl:j=M:=by omega
    have d1:decide ((j:Int)<(j:Int))=false:=by simp
    have hownh:=Lib.hid hown
    clear hown
    go_wp2_with fail
    go_ret
    exact⟨_,rfl,hownh.out,hX⟩
theorem places_r (N:Nat)(w:World)(h1:1<=N)(h2:N<=8):Calls Tryz.prog 215 #[.int .i64 N] w fun e w'=>e=.returned (.int .i64 (triN N))/\Ext w w':=by
 have hn:nM (N:Int)=N:=nM_id (by omega) (by omega)
 have hL:=fun w=>list05_r N w (by omega)
 generalize (triPts N).flatMap ptVals=pts at *
 generalize triN N=M at *
 go_enter Tryz.func215,Tryz.ntmps215
 go_wp2_with fail
 refine (rn_any ⟨0,0,0,N,0,0,0⟩ _).mono ?_
 rintro e w1 ⟨rfl,hx⟩
 try simp only
 rw [hn]
 clear hn
 go_wp2_with fail
 refine (hL _).mono ?_
 rintro e w2 ⟨v1,rfl,hr1,hx2⟩
 obtain⟨A1,c1,rfl,-,-,-⟩:=Recs.of_row hr1
 have hf:=Lib.hid (hx.trans hx2)
 clear hx hx2 hr1 hL
 go_wp2_with fail
 go_ret
 exact⟨rfl,hf.out⟩
theorem wants28_0 (w:World):Calls Tryz.prog 241 #[.int .i64 0] w fun e w'=>e=.returned (.slice none 0 0)/\Ext w w':=by
 go_enter Tryz.func241,Tryz.ntmps241
 go_wp2_with fail
 go_loopw [3,4] (fun v i wr=>i=.int .i64 0/\v=.slice none 0 0/\Ext w wr) (fun _ _ _=>0)
 case atStart=>exact⟨rfl,rfl,Ext.refl _⟩
 case round =>
  obtain⟨rfl,rfl,hX⟩:=hrel
  go_wp2_with fail
  go_ret
  exact⟨rfl,hX⟩
theorem rtwants1_r (w:World):Calls Tryz.prog 180 #[.int .i64 6,.int .i64 1] w fun e w'=>e=.returned (.slice none 0 0)/\Ext w w':=by
 have hL:=fun w=>leaves_r 1 w (by omega)
 have hE:=fun w=>each_r 6 w
 rw [show (2 ^ levels ((1:Nat):Int):Nat)=1 from by decide] at hL
 rw [each6] at hE
 go_enter Tryz.func180,Tryz.ntmps180
 go_wp2_with fail
 refine (hE _).mono ?_
 rintro e w' ⟨rfl,rfl⟩
 go_wp2_with fail
 refine (hL _).mono ?_
 rintro e w' ⟨rfl,rfl⟩
 go_wp2_with fail
 refine (wants28_0 _).mono ?_
 rintro e w3 ⟨rfl,hx⟩
 go_wp2_with fail
 go_ret
 exact⟨rfl,hx⟩
set_option maxRecDepth 100000 in
set_option maxHeartbeats 1000000 in
theorem adwants_r (N:Nat)(w:World)(h1:1<=N)(h2:N<=8) :
  Calls Tryz.prog 181 #[.int .i64 N] w fun e w'=>∃ v,e=.returned v/\WantsAt w' v (adWants N)/\Ext w w':=by
 obtain⟨q1,q2⟩:=triN_le h1 h2
 have hPl:=fun w=>places_r N w h1 h2
 have ht:=adTree_le h1 h2
 have hW:=fun w=>rtwants_r 6 (triN N) w (by omega)
 rw [each6] at hW
 have hR:=fun w=>renwants_r N w h1 h2
 have hlen:=adWants_len (N:=N)
 have had:adWants N=renW (triN N) N++List.replicate (3*(2 ^ levels (triN N:Nat)-1)) (⟨-1,1⟩:Want):=rfl
 have hLh:=Lib.hid (show triN N≠1->3*(2 ^ levels (triN N:Nat)-1)≠0 from fun h=>tree_pos (by omega) q2)
 have hL1:=Lib.hid (show triN N=1->3*(2 ^ levels (triN N:Nat)-1)=0 from fun h=>by rw [h];decide)
 unfold treeWants at hW
 generalize 3*(2 ^ levels (triN N:Nat)-1)=L at *
 generalize hl1:renW (triN N) N=l1 at *
 generalize triN N=M at *
 have hlenh:=Lib.hid hlen
 have hadh:=Lib.hid had
 clear hlen had
 go_enter Tryz.func181,Tryz.ntmps181
 go_wp2_with fail
 refine (hR _).mono ?_
 rintro e w2 ⟨v,rfl,hown,hX⟩
 go_wp2_with fail
 refine (hPl _).mono ?_
 rintro e w9 ⟨rfl,hx9⟩
 replace hown:=row_ext hown hx9
 replace hX:=hX.trans hx9
 clear hx9
 go_wp2_with fail
 by_cases hM1:M=1
 · subst hM1
   obtain rfl:L=0:=hL1.out rfl
   clear hW
   refine (rtwants1_r _).mono ?_
   rintro e w3 ⟨rfl,hx3⟩
   replace hown:=row_ext hown hx3
   replace hX:=hX.trans hx3
   clear hx3
   go_wp2_with (at_builtin;refine append_none info_want Tryz.underlying102 rfl _ _ rfl w.heap.size _ (2*1) _ hown rfl rfl ?_)
   have hf:Hid (WantsAt w3 v (adWants N)):=Lib.hid (by
    have:=Recs.of_row hown
    unfold WantsAt
    rw [hlenh.out,hadh.out]
    simpa using this)
   clear hown
   go_wp2_with fail
   go_ret
   exact⟨_,rfl,hf.out,hX⟩
 · refine (hW _).mono ?_
   rintro e w3 ⟨v2,rfl,hr2,hx3⟩
   replace hown:=row_ext hown hx3
   replace hX:=hX.trans hx3
   clear hx3
   obtain⟨A,c,rfl,r1,r2,hV⟩:=hr2
   rw [List.length_replicate] at *
   have hfl:((List.replicate L (⟨-1,1⟩:Want)).flatMap wantVals).length=L*2:=by
    rw [List.length_flatMap]
    simp [wantVals]
   obtain⟨b,rfl,hb,hc⟩:=hV (by
    have hL0:=hLh.out hM1
    cases L with
    | zero=>exact absurd rfl hL0
    | succ L=>simp [wantVals,List.replicate])
   clear hV
   go_wp2_with (at_builtin;refine append_recs info_want Tryz.underlying102 rfl (by decide) (by decide) rfl _ _ rfl _ (2*M) _ ((List.replicate L (⟨-1,1⟩:Want)).flatMap wantVals) ⟨b,0,none⟩ L c hX hown rfl rfl hfl (fun i u hu=>by rw [Addr.add_lit,Nat.zero_add];exact hc i u hu) (fun u hu=>by
    obtain⟨q,_,hq⟩:=List.mem_flatMap.1 hu
    simp [wantVals] at hq;rcases hq with rfl | rfl <;> rfl) (by omega) (by omega) ?_)
   intro v' w' ho hx'
   have hf:Hid (WantsAt w' v' (adWants N)):=Lib.hid (by
    have:=Recs.of_row ho
    unfold WantsAt
    rw [hlenh.out,hadh.out,List.flatMap_append]
    exact this)
   clear hown ho hc
   go_wp2_with fail
   go_ret
   exact⟨_,rfl,hf.out,hx'⟩
set_option maxRecDepth 100000 in
theorem lkw3 (N:Nat)(mode base loc room:Int)(w:World)(h1:1<=N)(h2:N<=8):Calls Tryz.prog 100 #[.agg #[.int .i64 3,.int .i64 N,.int .i64 mode,.int .i64 base,.int .i64 loc,.int .i64 room]] w fun e w'=>∃ v,e=.returned v/\WantsAt w' v (bwWants N)/\Ext w w':=by
 have hX:=Ext.refl w
 have b1:=Blk.new w (.cells #[.int .i64 3,.int .i64 N,.int .i64 mode,.int .i64 base,.int .i64 loc,.int .i64 room] 23)
 replace hX:=hX.alloc (.cells #[.int .i64 3,.int .i64 N,.int .i64 mode,.int .i64 base,.int .i64 loc,.int .i64 room] 23)
 have c_b1:=b1.cells
 go_enter Tryz.func100,Tryz.ntmps100
 go_wp2_with fail
 refine (bwwants_r N _ h1 h2).mono ?_
 rintro e w2 ⟨v,rfl,hv,hx⟩
 have hf:=Lib.hid (And.intro hv (hX.trans hx))
 clear hv hx c_b1
 go_wp2_with fail
 go_ret
 exact⟨_,rfl,hf.out.1,hf.out.2⟩
set_option maxRecDepth 100000 in
theorem lkw4 (N:Nat)(mode base loc room:Int)(w:World)(h1:1<=N)(h2:N<=8):Calls Tryz.prog 100 #[.agg #[.int .i64 4,.int .i64 N,.int .i64 mode,.int .i64 base,.int .i64 loc,.int .i64 room]] w fun e w'=>∃ v,e=.returned v/\WantsAt w' v (filWants N)/\Ext w w':=by
 have hX:=Ext.refl w
 have b1:=Blk.new w (.cells #[.int .i64 4,.int .i64 N,.int .i64 mode,.int .i64 base,.int .i64 loc,.int .i64 room] 23)
 replace hX:=hX.alloc (.cells #[.int .i64 4,.int .i64 N,.int .i64 mode,.int .i64 base,.int .i64 loc,.int .i64 room] 23)
 have c_b1:=b1.cells
 go_enter Tryz.func100,Tryz.ntmps100
 go_wp2_with fail
 refine (filwants_r N _ h1 h2).mono ?_
 rintro e w2 ⟨v,rfl,hv,hx⟩
 have hf:=Lib.hid (And.intro hv (hX.trans hx))
 clear hv hx c_b1
 go_wp2_with fail
 go_ret
 exact⟨_,rfl,hf.out.1,hf.out.2⟩
set_option maxRecDepth 100000 in
theorem lkw5 (N:Nat)(mode base loc room:Int)(w:World)(h1:1<=N)(h2:N<=8):Calls Tryz.prog 100 #[.agg #[.int .i64 5,.int .i64 N,.int .i64 mode,.int .i64 base,.int .i64 loc,.int .i64 room]] w fun e w'=>∃ v,e=.returned v/\WantsAt w' v (fastWants N)/\Ext w w':=by
 have hX:=Ext.refl w
 have b1:=Blk.new w (.cells #[.int .i64 5,.int .i64 N,.int .i64 mode,.int .i64 base,.int .i64 loc,.int .i64 room] 23)
 replace hX:=hX.alloc (.cells #[.int .i64 5,.int .i64 N,.int .i64 mode,.int .i64 base,.int .i64 loc,.int .i64 room] 23)
 have c_b1:=b1.cells
 go_enter Tryz.func100,Tryz.ntmps100
 go_wp2_with fail
 refine (fastwants_r N _ h1 h2).mono ?_
 rintro e w2 ⟨v,rfl,hv,hx⟩
 have hf:=Lib.hid (And.intro hv (hX.trans hx))
 clear hv hx c_b1
 go_wp2_with fail
 go_ret
 exact⟨_,rfl,hf.out.1,hf.out.2⟩
set_option maxRecDepth 100000 in
theorem lkw6 (N:Nat)(mode base loc room:Int)(w:World)(h1:1<=N)(h2:N<=8):Calls Tryz.prog 100 #[.agg #[.int .i64 6,.int .i64 N,.int .i64 mode,.int .i64 base,.int .i64 loc,.int .i64 room]] w fun e w'=>∃ v,e=.returned v/\WantsAt w' v (treeWants (eachK 6) N)/\Ext w w':=by
 have hX:=Ext.refl w
 have b1:=Blk.new w (.cells #[.int .i64 6,.int .i64 N,.int .i64 mode,.int .i64 base,.int .i64 loc,.int .i64 room] 23)
 replace hX:=hX.alloc (.cells #[.int .i64 6,.int .i64 N,.int .i64 mode,.int .i64 base,.int .i64 loc,.int .i64 room] 23)
 have c_b1:=b1.cells
 go_enter Tryz.func100,Tryz.ntmps100
 go_wp2_with fail
 refine (rtwants_r 6 N _ (by omega)).mono ?_
 rintro e w2 ⟨v,rfl,hv,hx⟩
 have hf:=Lib.hid (And.intro hv (hX.trans hx))
 clear hv hx c_b1
 go_wp2_with fail
 go_ret
 exact⟨_,rfl,hf.out.1,hf.out.2⟩
set_option maxRecDepth 100000 in
theorem lkw7 (N:Nat)(mode base loc room:Int)(w:World)(h1:1<=N)(h2:N<=8):Calls Tryz.prog 100 #[.agg #[.int .i64 7,.int .i64 N,.int .i64 mode,.int .i64 base,.int .i64 loc,.int .i64 room]] w fun e w'=>∃ v,e=.returned v/\WantsAt w' v (treeWants (eachK 7) N)/\Ext w w':=by
 have hX:=Ext.refl w
 have b1:=Blk.new w (.cells #[.int .i64 7,.int .i64 N,.int .i64 mode,.int .i64 base,.int .i64 loc,.int .i64 room] 23)
 replace hX:=hX.alloc (.cells #[.int .i64 7,.int .i64 N,.int .i64 mode,.int .i64 base,.int .i64 loc,.int .i64 room] 23)
 have c_b1:=b1.cells
 go_enter Tryz.func100,Tryz.ntmps100
 go_wp2_with fail
 refine (rtwants_r 7 N _ (by omega)).mono ?_
 rintro e w2 ⟨v,rfl,hv,hx⟩
 have hf:=Lib.hid (And.intro hv (hX.trans hx))
 clear hv hx c_b1
 go_wp2_with fail
 go_ret
 exact⟨_,rfl,hf.out.1,hf.out.2⟩
set_option maxRecDepth 100000 in
theorem lkw8 (N:Nat)(mode base loc room:Int)(w:World)(h1:1<=N)(h2:N<=8):Calls Tryz.prog 100 #[.agg #[.int .i64 8,.int .i64 N,.int .i64 mode,.int .i64 base,.int .i64 loc,.int .i64 room]] w fun e w'=>∃ v,e=.returned v/\WantsAt w' v (adWants N)/\Ext w w':=by
 have hX:=Ext.refl w
 have b1:=Blk.new w (.cells #[.int .i64 8,.int .i64 N,.int .i64 mode,.int .i64 base,.int .i64 loc,.int .i64 room] 23)
 replace hX:=hX.alloc (.cells #[.int .i64 8,.int .i64 N,.int .i64 mode,.int .i64 base,.int .i64 loc,.int .i64 room] 23)
 have c_b1:=b1.cells
 go_enter Tryz.func100,Tryz.ntmps100
 go_wp2_with fail
 refine (adwants_r N _ h1 h2).mono ?_
 rintro e w2 ⟨v,rfl,hv,hx⟩
 have hf:=Lib.hid (And.intro hv (hX.trans hx))
 clear hv hx c_b1
 go_wp2_with fail
 go_ret
 exact⟨_,rfl,hf.out.1,hf.out.2⟩
theorem lkwants_r (alg:Int)(N:Nat)(mode base loc room:Int)(w:World)(ha:3<=alg/\alg<=8)(h1:1<=N)(h2:N<=8):Calls Tryz.prog 100 #[.agg #[.int .i64 alg,.int .i64 N,.int .i64 mode,.int .i64 base,.int .i64 loc,.int .i64 room]] w fun e w'=>∃ v,e=.returned v/\WantsAt w' v (lkWants alg N)/\Ext w w':=by
 have:alg=3∨alg=4∨alg=5∨alg=6∨alg=7∨alg=8:=by omega
 rcases this with rfl | rfl | rfl | rfl | rfl | rfl
 · exact lkw3 N mode base loc room w h1 h2
 · exact lkw4 N mode base loc room w h1 h2
 · exact lkw5 N mode base loc room w h1 h2
 · exact lkw6 N mode base loc room w h1 h2
 · exact lkw7 N mode base loc room w h1 h2
 · exact lkw8 N mode base loc room w h1 h2
theorem lkWants_le (alg:Int){N:Nat}(h1:1<=N)(h2:N<=8):(lkWants alg N).length<=300:=by
 unfold lkWants
 split
 · rw [bwWants_len];omega
 · split
   · rw [filWants_len];omega
   · split
     · rw [fastWants_len];omega
     · split
       · unfold treeWants
         rw [List.length_replicate]
         have hE:=(each_le alg).2
         have hle:=(pow_le (lev_le (show N<=64 by omega))).2
         have:=Nat.mul_le_mul hE (show 2 ^ levels (N:Int)-1<=63 by omega)
         omega
       · rw [adWants_len]
         have:=adTree_le h1 h2
         have:=(triN_le h1 h2).2
         omega
theorem size0_r (A:Option Addr)(c:Nat)(w:World):Calls Tryz.prog 182 #[.slice A 0 c] w fun e w'=>e=.returned (.tuple #[.int .i64 0,.int .i64 0])/\Ext w w':=by
 go_enter Tryz.func182,Tryz.ntmps182
 go_wp2_with fail
 go_loopw [4,5,6] (fun u v i wr=>i=.int .i64 0/\u=.int .i64 0/\v=.int .i64 0/\Ext w wr) (fun _ _ _ _=>0)
 case atStart=>exact⟨rfl,rfl,rfl,Ext.refl w⟩
 case round =>
  obtain⟨rfl,rfl,rfl,hX⟩:=hrel
  go_wp2_with fail
  first | go_ret2 | go_ret
  exact⟨rfl,hX⟩
theorem sizeV_r (v:Value)(rs:List Reg)(w:World)(h:RegsV w v rs)(hok:∀ r∈rs,r.ok)(hl:rs.length<=300) :
  Calls Tryz.prog 182 #[v] w fun e w'=>e=.returned (.tuple #[.int .i64 (sumC rs),.int .i64 (sumL rs)])/\Ext w w':=by
 obtain⟨A,c,rfl,q1,q2,hV⟩:=h
 by_cases h0:rs=[]
 · subst h0
   exact size0_r A c w
 · obtain⟨b,rfl,hb,hc⟩:=hV (by cases rs with | nil=>exact absurd rfl h0 | cons r l=>simp [regVals])
   exact size_r b c rs w hb hc hok hl
set_option maxRecDepth 100000 in
set_option maxHeartbeats 1000000 in
theorem lksize_r (alg:Int)(N:Nat)(mode base loc room:Int)(rs:List Reg)(w:World)(ha:1<=alg/\alg<=8)(h1:1<=N)(h2:N<=8)(hl:3<=alg->layM (lkWants alg N) N mode base loc=some rs) :
  Calls Tryz.prog 101 #[.agg #[.int .i64 alg,.int .i64 N,.int .i64 mode,.int .i64 base,.int .i64 loc,.int .i64 room]] w fun e w'=>e=.returned (.tuple #[.int .i64 (lkC alg N rs),.int .i64 (lkL alg rs)])/\Ext w w':=by
 have hX:=Ext.refl w
 have b1:=Blk.new w (.cells #[.int .i64 alg,.int .i64 N,.int .i64 mode,.int .i64 base,.int .i64 loc,.int .i64 room] 23)
 replace hX:=hX.alloc (.cells #[.int .i64 alg,.int .i64 N,.int .i64 mode,.int .i64 base,.int .i64 loc,.int .i64 room] 23)
 have c_b1:=b1.cells
 by_cases a1:alg=1
 · subst a1
   have hw:=IntWalk.i64_in (2*(N:Int)) (by omega)
   have e1:lkC 1 N rs=2*(N:Int):=rfl
   have e2:lkL 1 rs=1:=rfl
   rw [e1,e2]
   clear e1 e2 hl
   go_enter Tryz.func101,Tryz.ntmps101
   go_wp2_with fail
   first | go_ret2 | go_ret
   exact⟨rfl,hX⟩
 by_cases a2:alg=2
 · subst a2
   have e1:lkC 2 N rs=(N:Int):=rfl
   have e2:lkL 2 rs=0:=rfl
   rw [e1,e2]
   clear e1 e2 hl a1
   go_enter Tryz.func101,Tryz.ntmps101
   go_wp2_with fail
   first | go_ret2 | go_ret
   exact⟨rfl,hX⟩
 have hl:=hl (by omega)
 have hok:∀ r∈rs,r.ok:=fun r hr=>(laid_all hl r hr).1
 have hlen:=layM_len hl
 have hle:=lkWants_le alg h1 h2
 have hbd:=sum_bd hok rs.length (Nat.le_refl _)
 rw [List.take_length] at hbd
 have ha3:3<=alg/\alg<=8:=by omega
 have d1:(alg==1)=false:=by rw [beq_eq_false_iff_ne];exact a1
 have d2:(alg==2)=false:=by rw [beq_eq_false_iff_ne];exact a2
 have hC:lkC alg N rs=sumC rs:=by unfold lkC;rw [if_neg a1,if_neg a2]
 have hL:lkL alg rs=if alg=3∨alg=8 then sumL rs+1 else sumL rs:=by unfold lkL;rw [if_neg a1,if_neg a2]
 have hw:=IntWalk.i64_in (sumL rs+1) (by omega)
 have hCL:=Lib.hid (And.intro hC hL)
 have hlh:=Lib.hid hl
 have hokh:=Lib.hid hok
 have hlen9:rs.length<=300:=by omega
 have hlenw:(lkWants alg N).length<=1000:=by omega
 have hlenh:=Lib.hid (And.intro hlen9 hlenw)
 clear hl hok hlen hle hbd a1 a2 hC hL hlen9 hlenw
 go_enter Tryz.func101,Tryz.ntmps101
 go_wp2_with fail
 generalize w.alloc _=W at *
 have hXW:=hX
 clear hX c_b1
 have hX:=(Ext.refl W).drew
 have hS:∀ w',Ext W w'->(∀ i,w'.cell? ⟨w.heap.size,i,none⟩=(#[.int .i64 alg,.int .i64 N,.int .i64 mode,.int .i64 base,.int .i64 loc,.int .i64 room]:Array Value)[i]?):=fun w' hx=>(b1.ext hx).cells
 go_region_held2 (fun w'=>∀ i,w'.cell? ⟨w.heap.size,i,none⟩=(#[.int .i64 alg,.int .i64 N,.int .i64 mode,.int .i64 base,.int .i64 loc,.int .i64 room]:Array Value)[i]?) (exact hS _ hX)
  (first
    | (go_at_call 100
       refine (lkwants_r alg N mode base loc room _ ha3 h1 h2).mono ?_
       rintro e w2 ⟨v2,rfl,hw2,hx⟩
       replace hX:=hX.trans hx
       clear hx)
    | (go_at_call 176
       refine (layr_some hlh.out _ (hw2.ext (Ext.refl _)) hlenh.out.2).mono ?_
       rintro e w3 ⟨v3,rfl,hr3,hx⟩
       replace hX:=hX.trans hx
       clear hx))
 rename_i hh
 clear hh
 have hS3:=hS
 clear hS
 go_wp2_with fail
 refine (sizeV_r v3 rs _ hr3.1 hokh.out hlenh.out.1).mono ?_
 rintro e w4 ⟨rfl,hx4⟩
 have c_b4:=hS3 _ (hX.trans hx4)
 have hf:=Lib.hid (hXW.trans (hX.trans hx4))
 clear hr3 hx4 hX
 by_cases a3:alg=3
 · subst a3
   go_wp2_with fail
   first | go_ret2 | go_ret
   exact⟨by rw [hCL.out.1,hCL.out.2,if_pos (by simp)];rfl,hf.out⟩
 · have d3:(alg==3)=false:=by rw [beq_eq_false_iff_ne];exact a3
   by_cases a8:alg=8
   · subst a8
     clear a3
     go_wp2_with fail
     first | go_ret2 | go_ret
     exact⟨by rw [hCL.out.1,hCL.out.2,if_pos (by simp)];rfl,hf.out⟩
   · have d8:(alg==8)=false:=by rw [beq_eq_false_iff_ne];exact a8
     have hng:=Lib.hid (show ¬ (alg=3∨alg=8) by omega)
     clear a3 a8
     go_wp2_with fail
     first | go_ret2 | go_ret
     exact⟨by rw [hCL.out.1,hCL.out.2,if_neg hng.out];rfl,hf.out⟩
theorem results_cell1 {fn:Func}{p:Tmp}{ty:TypeId}(h:fn.results=#[.cell p ty])(tmps:Array Value)(P:Program)(w:World) :
  (results fn tmps).run P w=((asAddr (tmps.getD p undef)).run P w).andThen fun a w1=>(loadVar ty a).run P w1:=by
 simp only [results,h]
 simp [Sem.run_bind,Result.andThen]
theorem there_blk {w:World}{b:Nat}{cs:Array Value}{t:TypeId}(h:w.heap[b]?=some (.cells cs t (0,0))):w.there b 0 cs.size:=fun j hj=>by
 rw [Nat.zero_add]
 exact⟨by rw [cell_of_heap h];simp [hj],by simp [World.frozen?,h]⟩
@[go_sem] theorem build_thing4 (x:Int) (w:World):(Instr.build 65 #[(4,.int .i64 x)]).run Tryz.prog w=.ok (.agg #[.int .i64 0,.int .i64 0,.int .i64 0,.int .i64 0,.int .i64 x,.int .i64 0,.int .i64 0,.int .i64 0]) w:=run_build w 65 _ _ (by kernel_rfl)
@[go_sem] theorem build_obj35 (x a b c d e f g h:Int) (w:World):(Instr.build 69 #[(0,.agg #[.int .i64 0,.int .i64 0,.int .i64 0,.int .i64 0,.int .i64 x,.int .i64 0,.int .i64 0,.int .i64 0]),(1,.agg #[.int .i64 a,.int .i64 b,.int .i64 c,.int .i64 d,.int .i64 e,.int .i64 f]),(3,.int .i64 g),(4,.int .i64 h)]).run Tryz.prog w=.ok (.agg #[.int .i64 0,.int .i64 0,.int .i64 0,.int .i64 0,.int .i64 x,.int .i64 0,.int .i64 0,.int .i64 0,.int .i64 a,.int .i64 b,.int .i64 c,.int .i64 d,.int .i64 e,.int .i64 f,.int .i64 0,.int .i64 0,.int .i64 0,.int .i64 0,.int .i64 0,.int .i64 0,.int .i64 0,.int .i64 g,.int .i64 h]) w:=run_build w 69 _ _ (by kernel_rfl)
set_option maxRecDepth 100000 in
theorem put_r (arg alg:Int)(N:Nat)(mode base loc room:Int)(rs:List Reg)(w:World)(hk:LkOk alg N mode 0 0 room rs) :
  Calls Tryz.prog 42 #[.agg #[.int .i64 alg,.int .i64 N,.int .i64 mode,.int .i64 base,.int .i64 loc,.int .i64 room],.int .i64 arg] w fun e w'=>e=.returned (.agg #[.int .i64 0,.int .i64 0,.int .i64 0,.int .i64 0,.int .i64 arg,.int .i64 0,.int .i64 0,.int .i64 0,.int .i64 alg,.int .i64 N,.int .i64 mode,.int .i64 0,.int .i64 0,.int .i64 room,.int .i64 0,.int .i64 0,.int .i64 0,.int .i64 0,.int .i64 0,.int .i64 0,.int .i64 0,.int .i64 (lkC alg N rs),.int .i64 (lkL alg rs)])/\Ext w w':=by
 have hsz:=fun w=>lksize_r alg N mode 0 0 room rs w hk.halg hk.hn.1 hk.hn.2 hk.hlay
 have b1:=Blk.new w (.cells #[.int .i64 alg,.int .i64 N,.int .i64 mode,.int .i64 0,.int .i64 0,.int .i64 room] 23)
 have hX:=(Ext.refl w).alloc (.cells #[.int .i64 alg,.int .i64 N,.int .i64 mode,.int .i64 0,.int .i64 0,.int .i64 room] 23)
 replace b1:=b1.alloc (.cells #[.int .i64 0,.int .i64 0,.int .i64 0,.int .i64 0,.int .i64 0,.int .i64 0,.int .i64 0,.int .i64 0,.int .i64 0,.int .i64 0,.int .i64 0,.int .i64 0,.int .i64 0,.int .i64 0,.int .i64 0,.int .i64 0,.int .i64 0,.int .i64 0,.int .i64 0,.int .i64 0,.int .i64 0,.int .i64 0,.int .i64 0] 69)
 have b2:=Blk.new (w.alloc (.cells #[.int .i64 alg,.int .i64 N,.int .i64 mode,.int .i64 0,.int .i64 0,.int .i64 room] 23)) (.cells #[.int .i64 0,.int .i64 0,.int .i64 0,.int .i64 0,.int .i64 0,.int .i64 0,.int .i64 0,.int .i64 0,.int .i64 0,.int .i64 0,.int .i64 0,.int .i64 0,.int .i64 0,.int .i64 0,.int .i64 0,.int .i64 0,.int .i64 0,.int .i64 0,.int .i64 0,.int .i64 0,.int .i64 0,.int .i64 0,.int .i64 0] 69)
 replace hX:=hX.alloc (.cells #[.int .i64 0,.int .i64 0,.int .i64 0,.int .i64 0,.int .i64 0,.int .i64 0,.int .i64 0,.int .i64 0,.int .i64 0,.int .i64 0,.int .i64 0,.int .i64 0,.int .i64 0,.int .i64 0,.int .i64 0,.int .i64 0,.int .i64 0,.int .i64 0,.int .i64 0,.int .i64 0,.int .i64 0,.int .i64 0,.int .i64 0] 69)
 simp only [World.size_alloc] at b2
 clear hk
 generalize lkC alg N rs=C at *
 generalize lkL alg rs=L at *
 go_enter Tryz.func42,Tryz.ntmps42
 go_wp2_with fail
 generalize (World.alloc w (.cells #[.int .i64 alg,.int .i64 N,.int .i64 mode,.int .i64 0,.int .i64 0,.int .i64 room] 23)).alloc (.cells #[.int .i64 0,.int .i64 0,.int .i64 0,.int .i64 0,.int .i64 0,.int .i64 0,.int .i64 0,.int .i64 0,.int .i64 0,.int .i64 0,.int .i64 0,.int .i64 0,.int .i64 0,.int .i64 0,.int .i64 0,.int .i64 0,.int .i64 0,.int .i64 0,.int .i64 0,.int .i64 0,.int .i64 0,.int .i64 0,.int .i64 0] 69)=W at *
 refine (hsz _).mono ?_
 rintro e w1 ⟨rfl,hx⟩
 have c_b1:=(b1.ext hx).cells
 replace b2:=b2.ext hx
 replace hX:=hX.trans hx
 clear hx b1 hsz
 go_upto_region 4 with fail
 refine wp_region_lit ?_
 refine wpList_plain rfl fun K hK=>?_
 unfold Oper.wp execOp
 go_simp
 refine hK _ _ ?_
 clear hK K
 refine wpList_plain rfl fun K hK=>?_
 unfold Oper.wp execOp
 go_simp
 refine hK _ _ ?_
 clear hK K
 refine wpList_plain rfl fun K hK=>?_
 unfold Oper.wp execOp
 go_simp
 refine hK _ _ ?_
 clear hK K
 refine wpList_plain rfl fun K hK=>?_
 unfold Oper.wp execOp
 go_simp
 refine hK _ _ ?_
 clear hK K
 refine wpList_plain rfl fun K hK=>?_
 unfold Oper.wp execOp
 go_simp
 refine hK _ _ ?_
 clear hK K
 refine wpList_plain rfl fun K hK=>?_
 unfold Oper.wp execOp
 go_simp
 refine hK _ _ ?_
 clear hK K
 obtain⟨OL,hOL⟩:∃ OL:List Value,OL=[.int .i64 0,.int .i64 0,.int .i64 0,.int .i64 0,.int .i64 arg,.int .i64 0,.int .i64 0,.int .i64 0,.int .i64 alg,.int .i64 N,.int .i64 mode,.int .i64 0,.int .i64 0,.int .i64 room,.int .i64 0,.int .i64 0,.int .i64 0,.int .i64 0,.int .i64 0,.int .i64 0,.int .i64 0,.int .i64 C,.int .i64 L]:=⟨_,rfl⟩
 have hst:=there_blk b2
 refine wpList_store_mid rfl _ _ _ rfl (w.heap.size+1) 0 OL.toArray rfl (by rw [hOL];rfl) (by rw [hOL];exact hst) (by rw [hOL];kernel_rfl) (by rw [hOL];kernel_rfl) ?_
 have hz:=heap_setCells_all b2 OL (by rw [hOL];rfl)
 have hXs:=hX.setCells (Nat.le_succ w.heap.size) OL 0
 clear hst b2 hX c_b1
 generalize w1.setCells _ _ _=W6 at *
 refine wpList_nil ?_
 have hld:(loadVar 69 ⟨w.heap.size+1,0,none⟩).run Tryz.prog W6=.ok (.agg OL.toArray) W6:=run_loadVar_row _ _ _ _ _ _ _ hz Tryz.underlying69 rfl (by rw [hOL];kernel_rfl)
 rename_i hKK
 refine hKK _ _ ?_
 clear hKK
 refine wp_ret ?_
 refine bodyPost_ret (v:=.agg OL.toArray) ?_ rfl ⟨by rw [hOL],hXs⟩
 rw [results_cell1 (p:=4) (ty:=69) rfl]
 simp [asAddr,Result.andThen,hld,Act.put]
end Go.Proofs.YtbaajjkopdjbgaaGreat
namespace Kv
def zeros (n:Nat):List Int:=List.replicate n 0
end Kv
namespace Go.Proofs.YtbaajjkopdjbgaaGreat
open Go.RowKit Kv
theorem make_ints (l:Int)(k:Nat)(hl:l=k)(hk:k<=100000)(w:World) :
  (Instr.makeSlice 25 (.int .i64 l) (.int .i64 l)).run Tryz.prog w=.ok (.slice (some ⟨w.heap.size,0,none⟩) k k) (w.alloc (.cells ((zeros k).map (Value.int .i64)).toArray 3)):=by
 subst hl
 obtain⟨i0,hi,hz0,hz1,hz2⟩:=info_parts info_int
 have hr:=run_makeSlice (P:=Tryz.prog) w 25 3 i0 (.int .i64 0) Tryz.underlying25 hi hz0 .i64 .i64 k k (by omega) (by omega) (by rw [hz1];simp;omega) (by rw [hz2];omega) (by omega)
 rw [Int.toNat_natCast,hz1,Nat.mul_one] at hr
 have he:madeCells (Value.int .i64 0).cells k=((zeros k).map (Value.int .i64)).toArray:=by
  unfold zeros madeCells
  apply Array.ext'
  rw [List.map_replicate]
  apply List.ext_getElem?
  intro j
  by_cases hj:j<k
  · simp [hj,Nat.mod_one,Value.cells]
  · simp [hj]
 rw [hr,he]
theorem use35:LkUse 2 1 1 0 0 1 [] 0:=⟨⟨by decide,by decide,by decide,by decide,by decide,by decide,fun h=>absurd h (by decide),by decide,by decide⟩,by decide,by decide⟩
theorem shortL_at (L:List Int)(i:Nat):(shortL L).getD i 0=L.getD i 0:=by
 unfold shortL
 by_cases h:i<shortN L L.length
 · simp [List.getD,h]
 · rw [shortL_zero L i (by omega)]
   simp [List.getD,List.getElem?_take,h]
def tailA (c:Int):Prog Int:=(rd (c+2)).bind fun t=>(wr (c+2) (wrap64 (t+1))).bind fun _=>.ret t
theorem tailA_bind {β:Type}(c:Int)(f:Int->Prog β):(tailA c).bind f=(rd (c+2)).bind fun t=>(wr (c+2) (wrap64 (t+1))).bind fun _=>f t:=by
 unfold tailA
 simp only [Prog.bind_assoc]
 rfl
theorem tailA_pays (c:Int):(tailA c).Pays (-10):=(show (tailA c).Asks from (asks_rd _).bind _).pays (n:=0) ((notes_rd _).bind0 fun _=>(notes_wr _ _).bind0 fun _=>.ret _ _)
def enterA (c t P:Int):Prog Bool:=(rd (c+1)).bind fun h=>if h=t then (rd c).bind fun x=>if x<P then (wr c (wrap64 (x+1))).bind fun _=>(wr (c+1) (wrap64 (t+1))).bind fun _=>.ret true else .ret false else .ret false
theorem enterA_bind {β:Type}(c t P:Int)(f:Bool->Prog β):(enterA c t P).bind f=(rd (c+1)).bind fun h=>if h=t then (rd c).bind fun x=>if x<P then (wr c (wrap64 (x+1))).bind fun _=>(wr (c+1) (wrap64 (t+1))).bind fun _=>f true else f false else f false:=by
 unfold enterA
 rw [Prog.bind_assoc]
 congr 1
 funext h
 split
 · rw [Prog.bind_assoc]
   congr 1
   funext x
   split
   · simp only [Prog.bind_assoc]
     rfl
   · rfl
 · rfl
theorem enterA_notes (c t P:Int):(enterA c t P).Notes 0:=by
 refine (notes_rd _).bind0 fun h=>?_
 split
 · refine (notes_rd _).bind0 fun x=>?_
   split
   · exact (notes_wr _ _).bind0 fun _=>(notes_wr _ _).bind0 fun _=>.ret _ _
   · exact .ret _ _
 · exact .ret _ _
theorem enterA_asks (c t P:Int):(enterA c t P).Asks:=(asks_rd _).bind _
def enterW (I U:Prog Unit) (c t P:Int):Nat->Prog Unit
 | 0=>.ret ()
 | n+1=>(insideA I U (enterA c t P)).bind fun g=>if g=true then .ret () else enterW I U c t P n
def takeA (I U:Prog Unit) (c l P:Int) (n:Nat):Prog Int:=(insideA I U (tailA c)).bind fun t=>(enterW I U c t P n).bind fun _=>(gt l).bind fun x=>(st l (wrap64 (x+1))).bind fun _=>.ret 0
def lowerA (c:Int):Prog Unit:=(rd c).bind fun x=>wr c (max (x-1) 0)
def giveA (I U:Prog Unit) (c l:Int):Prog Int:=(gt l).bind fun g=>if g=0 then .ret 9 else (insideA I U (lowerA c)).bind fun _=>(st l (wrap64 (g-1))).bind fun _=>.ret 0
def permM (arg:Int):Int:=min (max arg 1) 8
set_option maxRecDepth 100000 in
theorem perm_p (arg alg:Int)(N:Nat)(mode base loc room c l:Int)(w:World):Calls Tryz.prog 70 #[.agg #[.int .i64 0,.int .i64 0,.int .i64 0,.int .i64 0,.int .i64 arg,.int .i64 0,.int .i64 0,.int .i64 0,.int .i64 alg,.int .i64 N,.int .i64 mode,.int .i64 base,.int .i64 loc,.int .i64 room,.int .i64 0,.int .i64 0,.int .i64 0,.int .i64 0,.int .i64 0,.int .i64 0,.int .i64 0,.int .i64 c,.int .i64 l]] w fun e w'=>e=.returned (.int .i64 (permM arg))/\Ext w w':=by
 have hX:=Ext.refl w
 have b1:=Blk.new w (.cells #[.int .i64 0,.int .i64 0,.int .i64 0,.int .i64 0,.int .i64 arg,.int .i64 0,.int .i64 0,.int .i64 0,.int .i64 alg,.int .i64 N,.int .i64 mode,.int .i64 base,.int .i64 loc,.int .i64 room,.int .i64 0,.int .i64 0,.int .i64 0,.int .i64 0,.int .i64 0,.int .i64 0,.int .i64 0,.int .i64 c,.int .i64 l] 69)
 replace hX:=hX.alloc (.cells #[.int .i64 0,.int .i64 0,.int .i64 0,.int .i64 0,.int .i64 arg,.int .i64 0,.int .i64 0,.int .i64 0,.int .i64 alg,.int .i64 N,.int .i64 mode,.int .i64 base,.int .i64 loc,.int .i64 room,.int .i64 0,.int .i64 0,.int .i64 0,.int .i64 0,.int .i64 0,.int .i64 0,.int .i64 0,.int .i64 c,.int .i64 l] 69)
 have c_b1:=b1.cells
 unfold permM
 go_enter Tryz.func70,Tryz.ntmps70
 go_wp2_with fail
 first | go_ret2 | go_ret
 exact⟨rfl,hX⟩
set_option maxRecDepth 100000 in
theorem senter_p (B p N D:Nat)(S:TS)(t:Int)(arg alg mode base loc room c l:Int)(m:Nat)(rs:List Reg)(w:World)(h:Plays B w p S)(hk:LkUse alg N mode base loc room rs m)(hta:TameA S)(hD:S.left<D)(hn0:S.nts.length+10*S.left<=90000)(hc:0<=c/\c<=40000) :
  Calls Tryz.prog 147 #[.pointer (some ⟨p,0,none⟩),.agg #[.int .i64 0,.int .i64 0,.int .i64 0,.int .i64 0,.int .i64 arg,.int .i64 0,.int .i64 0,.int .i64 0,.int .i64 alg,.int .i64 N,.int .i64 mode,.int .i64 base,.int .i64 loc,.int .i64 room,.int .i64 0,.int .i64 0,.int .i64 0,.int .i64 0,.int .i64 0,.int .i64 0,.int .i64 0,.int .i64 c,.int .i64 l],.int .i64 m,.int .i64 t] w (Post encB B p w ((insideA (inA (lkA D alg N base loc room rs m) D) (lkR alg N base loc rs m) (enterA c t (permM arg))).run S)):=by
 generalize hR:Post encB B p w ((insideA (inA (lkA D alg N base loc room rs m) D) (lkR alg N base loc rs m) (enterA c t (permM arg))).run S)=R
 have hO:Owes R encB B p w ((insideA (inA (lkA D alg N base loc room rs m) D) (lkR alg N base loc rs m) (enterA c t (permM arg))).run S):=hR▸owes _ _ _ _ _
 clear hR
 obtain⟨b1,hK,hP⟩:=h.entry (.cells #[.int .i64 0,.int .i64 0,.int .i64 0,.int .i64 0,.int .i64 arg,.int .i64 0,.int .i64 0,.int .i64 0,.int .i64 alg,.int .i64 N,.int .i64 mode,.int .i64 base,.int .i64 loc,.int .i64 room,.int .i64 0,.int .i64 0,.int .i64 0,.int .i64 0,.int .i64 0,.int .i64 0,.int .i64 0,.int .i64 c,.int .i64 l] 69)
 have c_b1:=b1.cells
 clear h
 have hpm:=fun w=>perm_p arg alg N mode base loc room c l w
 have hin:=Lib.hid fun S w hP hta hD hn0=>in_p B p N D S alg mode base loc room m rs w hP hk hta hD hn0
 have hout:=Lib.hid fun S w hP hn0=>out_p B p N S alg mode base loc room m rs w hP hk hn0
 have hpay:=Lib.hid (lkA_pays D alg N base loc room rs m D)
 have hUn:=Lib.hid (notes_lkR alg N base loc rs m)
 generalize inA (lkA D alg N base loc room rs m) D=I at *
 generalize lkR alg N base loc rs m=U at *
 have hw0:=IntWalk.i64_in (c+0) (by omega)
 have hw1:=IntWalk.i64_in (c+1) (by omega)
 have hw2:=IntWalk.i64_in (c+2) (by omega)
 clear hk
 generalize permM arg=P at *
 unfold insideA at hO
 obtain⟨t1,ht1⟩:∃ x,wrap64 (t+1)=x:=⟨_,rfl⟩
 have hwt:IntKind.i64.wrap (t+1)=t1:=by rw [<- ht1,IntKind.wrap_i64];unfold wrap64;omega
 have hOh:=Lib.hid hO
 clear hO
 go_enter Tryz.func147,Tryz.ntmps147
 go_wp2_with fail
 refine tstep hOh.out hK (hin.out S _ hP hta hD hn0) (fun _ h=>⟨rfl,h⟩) ?_
 clear hOh hK hP
 intro u0 S1 wS1 hrun hP hk1 hK hO
 have hpy:=hpay.out S _ S1 hrun hP.1
 have hnS:S1.nts.length<=90004:=by omega
 replace hta:=hta.run hrun
 replace b1:=b1.keep hk1
 clear hk1 c_b1 hrun hpy
 have c_b1:=b1.cells
 rw [enterA_bind,ht1] at hO
 clear ht1
 have hOh:=Lib.hid hO
 clear hO
 go_wp2_with fail
 refine tstepA (notes_rd _) hOh.out hK (read_p B p S1 _ _ hP) (fun _ h=>⟨rfl,h⟩) ?_
 clear hOh hK hP
 intro hd S2 wS2 hrun hlf hla hnn hP hk1 hK hO
 replace b1:=b1.keep hk1
 clear hk1 c_b1
 have c_b1:=b1.cells
 by_cases he:hd=t
 · have de:(hd==t)=true:=by rw [beq_iff_eq];exact he
   rw [if_pos he] at hO
   clear he
   have hOh:=Lib.hid hO
   clear hO
   go_wp2_with fail
   refine tstepA (notes_rd _) hOh.out hK (read_p B p S2 _ _ hP) (fun _ h=>⟨rfl,h⟩) ?_
   clear hOh hK hP
   intro x S3 wS3 hrun hlf hla hnn hP hk1 hK hO
   replace b1:=b1.keep hk1
   clear hk1 c_b1
   have c_b1:=b1.cells
   obtain⟨x1,hx1⟩:∃ y,wrap64 (x+1)=y:=⟨_,rfl⟩
   have hwx:IntKind.i64.wrap (x+1)=x1:=by rw [<- hx1,IntKind.wrap_i64];unfold wrap64;omega
   rw [hx1] at hO
   clear hx1
   have hOh:=Lib.hid hO
   clear hO
   go_upto_region 5 with fail
   refine wp_region_lit ?_
   refine load_obj rfl _ rfl rfl _ rfl _ rfl b1.1 rfl ?_
   try simp only [put_pack]
   go_wp2_with fail
   refine (hpm _).mono ?_
   rintro e w' ⟨rfl,hx⟩
   replace hK:=hK.trans (Keep.of_ext hx hP.lt hP.le)
   replace b1:=b1.ext hx hP.lt
   replace hP:=hP.ext hx
   clear hx c_b1
   have c_b1:=b1.cells
   by_cases hlt:x<P
   · have dl:decide (x<P)=true:=by rw [decide_eq_true_eq];exact hlt
     replace hO:=hOh.out
     rw [if_pos hlt] at hO
     clear hOh hlt
     have hOh:=Lib.hid hO
     clear hO
     go_wp2_with fail
     refine tstepA (notes_wr _ _) hOh.out hK (write_p B p S3 _ _ _ hP) (fun _ h=>⟨rfl,h⟩) ?_
     clear hOh hK hP
     intro u S4 wS4 hrun hlf hla hnn hP hk1 hK hO
     replace b1:=b1.keep hk1
     clear hk1 c_b1
     have c_b1:=b1.cells
     have hOh:=Lib.hid hO
     clear hO
     go_wp2_with fail
     refine tstepA (notes_wr _ _) hOh.out hK (write_p B p S4 _ _ _ hP) (fun _ h=>⟨rfl,h⟩) ?_
     clear hOh hK hP
     intro u S5 wS5 hrun hlf hla hnn hP hk1 hK hO
     replace b1:=b1.keep hk1
     clear hk1 c_b1
     have c_b1:=b1.cells
     have hOh:=Lib.hid hO
     clear hO
     go_wp2_with fail
     refine tstep hOh.out hK (hout.out S5 _ hP (by omega)) (fun _ h=>⟨rfl,h⟩) ?_
     clear hOh hK hP
     intro u9 S9 w9 hrun hP hk1 hK hO
     replace b1:=b1.keep hk1
     clear hk1 c_b1
     have c_b1:=b1.cells
     have hf:=hO.done hP hK
     clear hO hP hK
     go_wp2_with fail
     first | exact hf | (go_ret;exact hf)
   · have dl:decide (x<P)=false:=by rw [decide_eq_false_iff_not];exact hlt
     replace hO:=hOh.out
     rw [if_neg hlt] at hO
     clear hOh hlt
     have hOh:=Lib.hid hO
     clear hO
     go_wp2_with fail
     refine tstep hOh.out hK (hout.out S3 _ hP (by omega)) (fun _ h=>⟨rfl,h⟩) ?_
     clear hOh hK hP
     intro u9 S9 w9 hrun hP hk1 hK hO
     replace b1:=b1.keep hk1
     clear hk1 c_b1
     have c_b1:=b1.cells
     have hf:=hO.done hP hK
     clear hO hP hK
     go_wp2_with fail
     first | exact hf | (go_ret;exact hf)
 · have de:(hd==t)=false:=by rw [beq_eq_false_iff_ne];exact he
   rw [if_neg he] at hO
   clear he
   have hOh:=Lib.hid hO
   clear hO
   go_wp2_with fail
   refine tstep hOh.out hK (hout.out S2 _ hP (by omega)) (fun _ h=>⟨rfl,h⟩) ?_
   clear hOh hK hP
   intro u9 S9 w9 hrun hP hk1 hK hO
   replace b1:=b1.keep hk1
   clear hk1 c_b1
   have c_b1:=b1.cells
   have hf:=hO.done hP hK
   clear hO hP hK
   go_wp2_with fail
   first | exact hf | (go_ret;exact hf)
set_option maxRecDepth 100000 in
theorem take_p (B p N D:Nat)(S:TS)(arg alg mode base loc room c l:Int)(m:Nat)(rs:List Reg)(w:World)(h:Plays B w p S)(hk:LkUse alg N mode base loc room rs m)(hta:TameA S)(hD:S.left<D)(hn0:S.nts.length+10*S.left<=90000)(hc:0<=c/\c<=40000) :
  Calls Tryz.prog 65 #[.pointer (some ⟨p,0,none⟩),.agg #[.int .i64 0,.int .i64 0,.int .i64 0,.int .i64 0,.int .i64 arg,.int .i64 0,.int .i64 0,.int .i64 0,.int .i64 alg,.int .i64 N,.int .i64 mode,.int .i64 base,.int .i64 loc,.int .i64 room,.int .i64 0,.int .i64 0,.int .i64 0,.int .i64 0,.int .i64 0,.int .i64 0,.int .i64 0,.int .i64 c,.int .i64 l],.int .i64 m] w (Post encI B p w ((takeA (inA (lkA D alg N base loc room rs m) D) (lkR alg N base loc rs m) c l (permM arg) D).run S)):=by
 generalize hR:Post encI B p w ((takeA (inA (lkA D alg N base loc room rs m) D) (lkR alg N base loc rs m) c l (permM arg) D).run S)=R
 have hO:Owes R encI B p w ((takeA (inA (lkA D alg N base loc room rs m) D) (lkR alg N base loc rs m) c l (permM arg) D).run S):=hR▸owes _ _ _ _ _
 clear hR
 obtain⟨b1,hK,hP⟩:=h.entry (.cells #[.int .i64 0,.int .i64 0,.int .i64 0,.int .i64 0,.int .i64 arg,.int .i64 0,.int .i64 0,.int .i64 0,.int .i64 alg,.int .i64 N,.int .i64 mode,.int .i64 base,.int .i64 loc,.int .i64 room,.int .i64 0,.int .i64 0,.int .i64 0,.int .i64 0,.int .i64 0,.int .i64 0,.int .i64 0,.int .i64 c,.int .i64 l] 69)
 have c_b1:=b1.cells
 clear h
 have hse:=Lib.hid fun S t w hP hta hD hn0=>senter_p B p N D S t arg alg mode base loc room c l m rs w hP hk hta hD hn0 hc
 have hin:=Lib.hid fun S w hP hta hD hn0=>in_p B p N D S alg mode base loc room m rs w hP hk hta hD hn0
 have hout:=Lib.hid fun S w hP hn0=>out_p B p N S alg mode base loc room m rs w hP hk hn0
 have hpay:=Lib.hid (lkA_pays D alg N base loc room rs m D)
 have hUn:=Lib.hid (notes_lkR alg N base loc rs m)
 generalize inA (lkA D alg N base loc room rs m) D=I at *
 generalize lkR alg N base loc rs m=U at *
 have hw0:=IntWalk.i64_in (c+0) (by omega)
 have hw1:=IntWalk.i64_in (c+1) (by omega)
 have hw2:=IntWalk.i64_in (c+2) (by omega)
 clear hk
 generalize permM arg=P at *
 have hpI:=Lib.hid (insideA_pays hpay.out hUn.out (tailA_pays c))
 unfold takeA at hO
 rw [insideA_bind] at hO
 have hOh:=Lib.hid hO
 clear hO
 go_enter Tryz.func65,Tryz.ntmps65
 go_wp2_with fail
 refine tstep hOh.out hK (hin.out S _ hP hta hD hn0) (fun _ h=>⟨rfl,h⟩) ?_
 clear hOh hK hP
 intro u0 S1 w1 hrun hP hk1 hK hO
 have hpy:=hpay.out S _ S1 hrun hP.1
 have hlf1:=Prog.run_left I S
 rw [hrun] at hlf1
 simp only at hlf1
 replace hta:=hta.run hrun
 replace b1:=b1.keep hk1
 clear hk1 c_b1 hrun
 have c_b1:=b1.cells
 rw [tailA_bind] at hO
 have hOh:=Lib.hid hO
 clear hO
 go_wp2_with fail
 refine tstepA (notes_rd _) hOh.out hK (read_p B p S1 _ _ hP) (fun _ h=>⟨rfl,h⟩) ?_
 clear hOh hK hP
 intro t S2 wS2 hrun hlf hla hnn hP hk1 hK hO
 replace b1:=b1.keep hk1
 clear hk1 c_b1
 have c_b1:=b1.cells
 have hl2:=hla (asks_rd _)
 have hn2:=hnn
 replace hta:=hta.run hrun
 clear hlf hla hnn hrun
 obtain⟨t1,ht1⟩:∃ x,wrap64 (t+1)=x:=⟨_,rfl⟩
 have hwt:IntKind.i64.wrap (t+1)=t1:=by rw [<- ht1,IntKind.wrap_i64];unfold wrap64;omega
 rw [ht1] at hO
 clear ht1
 have hOh:=Lib.hid hO
 clear hO
 go_wp2_with fail
 refine tstepA (notes_wr _ _) hOh.out hK (write_p B p S2 _ _ _ hP) (fun _ h=>⟨rfl,h⟩) ?_
 clear hOh hK hP
 intro u S3 wS3 hrun hlf hla hnn hP hk1 hK hO
 replace b1:=b1.keep hk1
 clear hk1 c_b1
 have c_b1:=b1.cells
 replace hta:=hta.run hrun
 clear hla hrun hwt
 have hOh:=Lib.hid hO
 clear hO
 go_wp2_with fail
 refine tstep hOh.out hK (hout.out S3 _ hP (by omega)) (fun _ h=>⟨rfl,h⟩) ?_
 clear hOh hK hP
 intro u9 S4 w4 hrun hP hk1 hK hO
 have hn4:=hUn.out.run S3
 have hlf4:=Prog.run_left U S3
 rw [hrun] at hn4 hlf4
 simp only at hn4 hlf4
 replace hta:=hta.run hrun
 replace b1:=b1.keep hk1
 replace hD:S4.left<D:=by omega
 replace hn0:S4.nts.length+10*S4.left<=90000:=by omega
 clear hk1 c_b1 hrun hn4 hlf4 hlf hnn hn2 hl2 hpy hlf1 hin hout
 have hOh:=Lib.hid hO
 clear hO
 generalize w.heap.size=z at *
 have c_b1:=b1.cells
 go_wp2_with fail
 clear c_b1
 obtain⟨F,hF⟩:∃ F:Unit->Prog Int,F=fun _=>(gt l).bind fun x=>(st l (wrap64 (x+1))).bind fun _=>.ret 0:=⟨_,rfl⟩
 have hFh:=Lib.hid hF
 replace hOh:Hid (Owes R encI B p w (((enterW I U c t P D).bind F).run S4)):=by rw [hF];exact hOh
 clear hF
 go_loopw [] (fun wr'=>∃ (n:Nat) (S2:TS),Plays B wr' p S2/\KeepP B p w wr'/\HeldP wr' p z (.cells #[.int .i64 0,.int .i64 0,.int .i64 0,.int .i64 0,.int .i64 arg,.int .i64 0,.int .i64 0,.int .i64 0,.int .i64 alg,.int .i64 N,.int .i64 mode,.int .i64 base,.int .i64 loc,.int .i64 room,.int .i64 0,.int .i64 0,.int .i64 0,.int .i64 0,.int .i64 0,.int .i64 0,.int .i64 0,.int .i64 c,.int .i64 l] 69)/\TameA S2/\S2.left<D/\S2.nts.length+10*S2.left<=90000/\S2.left<n/\Hid (Owes R encI B p w (((enterW I U c t P n).bind F).run S2))) (fun wr'=>leftW 1 3 wr' p)
 case atStart=>exact⟨D,S4,hP,hK,b1,hta,hD,hn0,hD,hOh⟩
 case round =>
  clear hP hK b1 hta hD hn0 hOh
  obtain⟨n,S2,hP,hK,b1,hta,hD,hn0,hn,hO⟩:=hrel
  replace hO:=hO.out
  have hlw:=Lib.hid hP.left
  cases n with
  | zero=>omega
  | succ n =>
    rw [show enterW I U c t P (n+1)=(insideA I U (enterA c t P)).bind fun g=>if g=true then .ret () else enterW I U c t P n from rfl,Prog.bind_assoc] at hO
    have hOh:=Lib.hid hO
    clear hO
    go_upto_region 5 with fail
    refine wp_region_lit ?_
    refine load_obj rfl _ rfl rfl _ rfl z rfl b1.1 rfl ?_
    try simp only [put_pack]
    go_wp2_with fail
    refine tstep hOh.out hK (hse.out S2 t _ hP hta hD hn0) (fun _ h=>⟨rfl,h⟩) ?_
    clear hOh hK hP
    intro x S3 w3 hrun hP hk hK hO
    have hlw2:=Lib.hid hP.left
    have hdec:=(insideA_asks I U (enterA_asks c t P)).left hrun hP.1
    have hpy:=(insideA_pays hpay.out hUn.out ((enterA_asks c t P).pays (enterA_notes c t P))) S2 x S3 hrun hP.1
    replace b1:=b1.keep hk
    replace hta:=hta.run hrun
    clear hk hrun
    have c_b1:=b1.cells
    cases x with
    | true =>
      replace hO:Owes R encI B p w ((F ()).run S3):=hO
      rw [hFh.out] at hO
      clear hlw hlw2 hFh
      go_wp2_with fail
      replace hP:=hP.drew
      replace hK:=hK.drew
      replace b1:=b1.drew
      go_region_held2 (fun w'=>w'.cell? ⟨z,22,none⟩=some (.int .i64 l)) (first | go_keep | exact c_b1 22)
       (first
         | (go_at_call 95
            refine (get_p B p S3 l _ hP).mono ?_
            rintro e w' ⟨rfl,rfl⟩
            rw [run_gt] at hO
            generalize S3.got l=g at hO ⊢
            obtain⟨g1,hg1⟩:∃ y,wrap64 (g+1)=y:=⟨_,rfl⟩
            have hwg:IntKind.i64.wrap (g+1)=g1:=by rw [<- hg1,IntKind.wrap_i64];unfold wrap64;omega
            rw [hg1] at hO
            clear hg1)
         | (go_at_call 132
            refine tstep hO hK (setO hP) (fun _ h=>⟨rfl,h⟩) ?_
            clear hO hK hP c_b1
            intro u S4 w4 hr hP hk1 hK hO
            replace b1:=b1.keep hk1
            have c_b1:=b1.cells
            clear hr hk1))
      have hf:=hO.done hP hK
      clear hO hP hK b1 c_b1
      go_wp2_with fail
      first | exact hf | (go_ret;exact hf)
    | false =>
      replace hO:Owes R encI B p w (((enterW I U c t P n).bind F).run S3):=hO
      have hOh:=Lib.hid hO
      clear hO c_b1
      go_wp2_with fail
      refine⟨⟨n,S3,hP,hK,b1,hta,by omega,by omega,by omega,hOh⟩,?_⟩
      rw [hlw.out,hlw2.out]
      omega
set_option maxRecDepth 100000 in
set_option maxHeartbeats 1000000 in
theorem give_p (B p N D:Nat)(S:TS)(arg alg mode base loc room c l:Int)(m:Nat)(rs:List Reg)(w:World)(h:Plays B w p S)(hk:LkUse alg N mode base loc room rs m)(hta:TameA S)(hD:S.left<D)(hn0:S.nts.length+10*S.left<=90000)(hc:0<=c/\c<=40000) :
  Calls Tryz.prog 68 #[.pointer (some ⟨p,0,none⟩),.agg #[.int .i64 0,.int .i64 0,.int .i64 0,.int .i64 0,.int .i64 arg,.int .i64 0,.int .i64 0,.int .i64 0,.int .i64 alg,.int .i64 N,.int .i64 mode,.int .i64 base,.int .i64 loc,.int .i64 room,.int .i64 0,.int .i64 0,.int .i64 0,.int .i64 0,.int .i64 0,.int .i64 0,.int .i64 0,.int .i64 c,.int .i64 l],.int .i64 m] w (Post encI B p w ((giveA (inA (lkA D alg N base loc room rs m) D) (lkR alg N base loc rs m) c l).run S)):=by
 generalize hR:Post encI B p w ((giveA (inA (lkA D alg N base loc room rs m) D) (lkR alg N base loc rs m) c l).run S)=R
 have hO:Owes R encI B p w ((giveA (inA (lkA D alg N base loc room rs m) D) (lkR alg N base loc rs m) c l).run S):=hR▸owes _ _ _ _ _
 clear hR
 obtain⟨b1,hK,hP⟩:=h.entry (.cells #[.int .i64 0,.int .i64 0,.int .i64 0,.int .i64 0,.int .i64 arg,.int .i64 0,.int .i64 0,.int .i64 0,.int .i64 alg,.int .i64 N,.int .i64 mode,.int .i64 base,.int .i64 loc,.int .i64 room,.int .i64 0,.int .i64 0,.int .i64 0,.int .i64 0,.int .i64 0,.int .i64 0,.int .i64 0,.int .i64 c,.int .i64 l] 69)
 have c_b1:=b1.cells
 clear h
 have hin:=Lib.hid fun S w hP hta hD hn0=>in_p B p N D S alg mode base loc room m rs w hP hk hta hD hn0
 have hout:=Lib.hid fun S w hP hn0=>out_p B p N S alg mode base loc room m rs w hP hk hn0
 have hpay:=Lib.hid (lkA_pays D alg N base loc room rs m D)
 have hUn:=Lib.hid (notes_lkR alg N base loc rs m)
 generalize inA (lkA D alg N base loc room rs m) D=I at *
 generalize lkR alg N base loc rs m=U at *
 have hw0:=IntWalk.i64_in (c+0) (by omega)
 have hwc:=IntWalk.i64_in c (by omega)
 have hw1:=IntWalk.i64_in (c+1) (by omega)
 have hw2:=IntWalk.i64_in (c+2) (by omega)
 clear hk
 unfold giveA at hO
 rw [run_gt] at hO
 have hOh:=Lib.hid hO
 clear hO
 go_enter Tryz.func68,Tryz.ntmps68
 go_wp2_with fail
 refine (get_p B p S l _ hP).mono ?_
 rintro e w' ⟨rfl,rfl⟩
 have hO:=hOh.out
 clear hOh
 generalize S.got l=g at hO ⊢
 by_cases hg:g=0
 · have dg:(g==0)=true:=by rw [beq_iff_eq];exact hg
   rw [if_pos hg] at hO
   clear hg
   have hf:=hO.done hP hK
   clear hO hP hK
   go_wp2_with fail
   first | exact hf | (go_ret;exact hf)
 have dg:(g==0)=false:=by rw [beq_eq_false_iff_ne];exact hg
 obtain⟨g1,hg1⟩:∃ y,wrap64 (g-1)=y:=⟨_,rfl⟩
 have hwg:IntKind.i64.wrap (g-1)=g1:=by rw [<- hg1,IntKind.wrap_i64];unfold wrap64;omega
 rw [if_neg hg,hg1,insideA_bind] at hO
 clear hg hg1
 have hOh:=Lib.hid hO
 clear hO
 go_wp2_with fail
 refine tstep hOh.out hK (hin.out S _ hP hta hD hn0) (fun _ h=>⟨rfl,h⟩) ?_
 clear hOh hK hP
 intro u0 S1 wS1 hrun hP hk1 hK hO
 have hpy:=hpay.out S _ S1 hrun hP.1
 have hnS:S1.nts.length<=90004:=by omega
 replace hta:=hta.run hrun
 replace b1:=b1.keep hk1
 clear hk1 c_b1 hrun hpy
 have c_b1:=b1.cells
 unfold lowerA at hO
 rw [Prog.bind_assoc] at hO
 have hOh:=Lib.hid hO
 clear hO
 go_wp2_with fail
 replace hP:=hP.drew
 replace hK:=hK.drew
 replace b1:=b1.drew
 have hO:=hOh.out
 clear hOh c_b1
 have c_c:(_:World).cell? ⟨w.heap.size,21,none⟩=some (Value.int .i64 c):=b1.cells 21
 refine wp_region_held_drew (S:=fun w'=>w'.cell? ⟨w.heap.size,21,none⟩=some (.int .i64 c)) rfl c_c (fun hHeld=>?_)
 refine tkb 0 ?_
 iterate 8
  refine tkn (v:=?_) rfl (by kernel_rfl) (fun _ _ _ h=>h) (by assumption) ?_ ?_
  rotate_left
  · (intro w hSw;(try dsimp only at hSw);go_simp;try with_reducible rfl)
  try simp only [put_pack]
 refine tke ?_
 refine wpAnyH_ready (rs:=[8]) (by kernel_rfl) (by simp) ?_
 refine AllReadyH.cons rfl (fun K hKK=>?_) (AllReadyH.nil)
 go_simp
 refine tstepA (notes_rd _) hO hK (read_p B p S1 _ _ hP) (fun _ h=>⟨rfl,h⟩) ?_
 clear hO hK hP c_c
 intro x S2 wS2 hrun hlf hla hnn hP hk1 hK hO
 replace b1:=b1.keep hk1
 have c_c:(_:World).cell? ⟨w.heap.size,21,none⟩=some (Value.int .i64 c):=b1.cells 21
 have hxb:=rd_bd hta hrun
 have hwx:=IntWalk.i64_in (x-1) (by omega)
 clear hk1 hrun hla
 refine hKK.out _ _ c_c (fun hHeld=>?_)
 clear hKK K
 try dsimp only
 refine tk 9 (v:=?_) rfl (by kernel_rfl) (fun _ _ _ h=>h) (by assumption) ?_ ?_
 rotate_left
 · (intro w hSw;(try dsimp only at hSw);go_simp;try with_reducible rfl)
 try simp only [put_pack]
 refine tk 10 (v:=?_) rfl (by kernel_rfl) (fun _ _ _ h=>h) (by assumption) ?_ ?_
 rotate_left
 · (intro w hSw;(try dsimp only at hSw);go_simp;try with_reducible rfl)
 try simp only [put_pack]
 refine wpAnyH_ready (rs:=[11]) (by kernel_rfl) (by simp) ?_
 refine AllReadyH.cons rfl (fun K hKK=>?_) (AllReadyH.nil)
 go_simp
 refine tstepA (notes_wr _ _) hO hK (write_p B p S2 _ _ _ hP) (fun _ h=>⟨rfl,h⟩) ?_
 clear hO hK hP c_c
 intro u S3 wS3 hrun hlf hla hnn hP hk1 hK hO
 replace b1:=b1.keep hk1
 have c_c:(_:World).cell? ⟨w.heap.size,21,none⟩=some (Value.int .i64 c):=b1.cells 21
 clear hk1 hrun hla
 refine hKK.out _ _ c_c (fun hHeld=>?_)
 clear hKK K
 try dsimp only
 refine wpAnyH_done (by kernel_rfl) ?_ _
 go_simp
 clear c_c
 have c_b1:=b1.cells
 have hOh:=Lib.hid hO
 clear hO
 go_wp2_with fail
 refine tstep hOh.out hK (hout.out S3 _ hP (by omega)) (fun _ h=>⟨rfl,h⟩) ?_
 clear hOh hK hP
 intro u9 S9 w9 hrun hP hk1 hK hO
 replace b1:=b1.keep hk1
 clear hk1 c_b1
 have c_b1:=b1.cells
 clear hrun
 have hOh:=Lib.hid hO
 clear hO
 go_wp2_with fail
 refine tstep hOh.out hK (setO hP) (fun _ h=>⟨rfl,h⟩) ?_
 clear hOh hK hP
 intro u S4 w4 hr hP hk1 hK hO
 clear hr hk1 b1 c_b1
 have hf:=hO.done hP hK
 clear hO hP hK
 go_wp2_with fail
 first | exact hf | (go_ret;exact hf)
end Go.Proofs.YtbaajjkopdjbgaaGreat
