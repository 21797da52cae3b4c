/-
  LockPlaysSaid: part 10 of its proof.
-/
import Derived.Test.YtbaajjkopdjbgaaGreatJLockPlaysSaid9
import Derived.BigQuiet
import Derived.Deep.QuietTactic
import Derived.Deep.CutBlock
import Derived.Deep.DeepCutAuto
namespace Go.Proofs.YtbaajjkopdjbgaaGreat
open Go.RowKit Kv
theorem sizes_p (alg N mode base loc room:Int)(w:World)(h1:1≤N∧N≤8)(h2:1≤room∧room≤1048576) :
  Calls Tryz.prog 365 #[.agg #[.int .i64 alg,.int .i64 N,.int .i64 mode,.int .i64 base,.int .i64 loc,.int .i64 room]] w fun e w'=>e=.returned (.tuple #[.int .i64 N,.int .i64 room])∧Ext w w':=by
 have e1:min (max N 1) 8=N:=by omega
 have e2:min (max room 1) 1048576=room:=by omega
 have hX:=Ext.refl w
 have b1:=Blk.new w (.cells #[.int .i64 alg,.int .i64 N,.int .i64 mode,.int .i64 base,.int .i64 loc,.int .i64 room] 23)
 replace hX:=hX.alloc (.cells #[.int .i64 alg,.int .i64 N,.int .i64 mode,.int .i64 base,.int .i64 loc,.int .i64 room] 23)
 have c_b1:=b1.cells
 go_enter Tryz.func365,Tryz.ntmps365
 go_wp2_with fail
 go_quiet (fail)
 go_wp2_with fail
 first | go_ret2 | go_ret
 exact⟨rfl,hX.drewN _⟩
set_option maxRecDepth 100000 in
set_option maxHeartbeats 4000000 in
theorem bakacq_p (B p N D:Nat)(S:TS)(alg mode base loc room:Int)(m:Nat)(w:World)(h:Plays B w p S)(h1:1≤N)(h2:N≤8)(hm1:m<N)(hba:0≤base∧base≤32768)(hro:1≤room∧room≤1048576)
  (hta:TameA S)(hD:S.left<D)(hn0:S.nts.length≤100000) :
  Calls Tryz.prog 360 #[.pointer (some ⟨p,0,none⟩),.agg #[.int .i64 alg,.int .i64 N,.int .i64 mode,.int .i64 base,.int .i64 loc,.int .i64 room],.int .i64 m] w (Post encI B p w ((bakA D base N room loc m).run S)):=by
 generalize hR:Post encI B p w ((bakA D base N room loc m).run S)=R
 have hO:Owes R encI B p w ((bakA D base N room loc m).run S):=hR▸owes _ _ _ _ _
 clear hR
 obtain⟨b1,hK,hP⟩:=h.entry (.cells #[.int .i64 alg,.int .i64 N,.int .i64 mode,.int .i64 base,.int .i64 loc,.int .i64 room] 23)
 have c_b1:=b1.cells
 clear h
 unfold bakA at hO
 have hsz:=fun w=>sizes_p alg N mode base loc room w (by omega) hro
 have hw1:=IntWalk.i64_in (base+(N:Int)) (by omega)
 have hw2:=IntWalk.i64_in (base+(m:Int)) (by omega)
 have hw3:=IntWalk.i64_in (base+(N:Int)+(m:Int)) (by omega)
 have hmN:(m:Int)<(N:Int):=by omega
 have hOh:=Lib.hid hO
 clear hO
 go_enter Tryz.func360,Tryz.ntmps360
 go_wp2_with fail
 refine (hsz _).mono ?_
 rintro e w1 ⟨rfl,hx⟩
 replace hK:=hK.trans (Keep.of_ext hx hP.lt hP.le)
 replace b1:=b1.ext hx hP.lt
 replace hP:=hP.ext hx
 clear hx c_b1 hsz
 have c_b1:=b1.cells
 go_wp2_with fail
 go_quiet (fail)
 replace hK:=hK.drewN nq
 replace b1:=b1.ext ((Ext.refl w1).drewN nq) hP.lt
 replace hP:=hP.ext ((Ext.refl w1).drewN nq)
 clear c_b1
 go_wp2_with fail
 generalize w.heap.size=z at *
 generalize w1.drewN nq=W1 at *
 refine tstepA (notes_nt 1) hOh.out hK (noteO hP (by unfold maxAns;omega)) (fun _ h=>⟨rfl,h⟩) ?_
 clear hOh hK hP
 intro u S1 wn hrun hlf hla hnn hP hk hK hO
 replace hD:=Nat.lt_of_le_of_lt hlf hD
 replace hn0:S1.nts.length≤100001:=by omega
 replace hta:=hta.run hrun
 replace b1:=b1.keep hk
 clear hk hnn hrun
 have hOh:=Lib.hid hO
 clear hO
 go_wp2_with fail
 refine tstepA (notes_wr _ _) hOh.out hK (write_p B p S1 _ _ _ hP) (fun _ h=>⟨rfl,h⟩) ?_
 clear hOh hK hP
 intro u S2 wn hrun hlf hla hnn hP hk hK hO
 replace hD:=Nat.lt_of_le_of_lt hlf hD
 replace hn0:S2.nts.length≤100001:=by omega
 replace hta:=hta.run hrun
 replace b1:=b1.keep hk
 clear hk hnn hrun
 have hOh:=Lib.hid hO
 clear hO
 obtain⟨F,hF⟩:∃ F:Int→Prog Int,F=bakIn D base N room loc m:=⟨_,rfl⟩
 replace hO:=hOh.out
 rw [← hF,Int.toNat_natCast] at hO
 clear hOh
 have hOh:=Lib.hid hO
 have hFh:=Lib.hid hF
 clear hO hF
 go_wp2_with fail
 go_loopw [11,34] (fun u i wr=>∃ (j:Nat) (tv:Int) (S5:TS),i=.int .i64 j∧u=.int .i64 tv∧0≤tv∧tv≤1048576∧j≤N∧Plays B wr p S5∧KeepP B p w wr∧HeldP wr p z (.cells #[.int .i64 alg,.int .i64 N,.int .i64 mode,.int .i64 base,.int .i64 loc,.int .i64 room] 23)∧S5.left<D∧S5.nts.length≤100001∧TameA S5∧Hid (Owes R encI B p w (((forP (fun j t=>(rd (base+N+j)).bind fun x=>.ret (max t x)) (ranksFrom m (N-j) j) tv).bind F).run S5))) (fun _ i _=>N-(intOf i).toNat)
 case atStart=>exact⟨0,0,S2,rfl,rfl,by omega,by omega,by omega,hP,hK,b1,hD,hn0,hta,hOh⟩
 case round =>
  clear hP hK b1 hD hn0 hta hOh
  obtain⟨j,tv,S5,rfl,rfl,ht0,ht1,hj,hP,hK,b1,hD,hn0,hta,hOh⟩:=hrel
  by_cases hjN:j<N
  · have dj:decide ((j:Int)<(N:Int))=true:=by rw [decide_eq_true_eq];omega
    obtain⟨g,hg⟩:∃ g,N-j=g+1:=⟨N-j-1,by omega⟩
    by_cases hjm:j=m
    · subst hjm
      replace hO:=hOh.out
      rw [hg,ranks_skip,show g=N-(j+1) from by omega] at hO
      have hf:=Lib.hid hO
      clear hO hOh hg
      have djm:((j:Int) != (j:Int))=false:=by simp
      go_wp2_with fail
      refine⟨⟨j+1,tv,S5,by go_num,rfl,ht0,ht1,by omega,hP,hK,b1,by omega,by omega,hta,hf⟩,?_⟩
      simp [intOf];omega
    · have djm:((j:Int) != (m:Int))=true:=by rw [bne_iff_ne];omega
      have hw4:=IntWalk.i64_in (base+(N:Int)+(j:Int)) (by omega)
      replace hO:=hOh.out
      rw [hg,ranks_cons _ _ _ (by omega),bakMost_cons,show g=N-(j+1) from by omega] at hO
      clear hOh
      have hOh:=Lib.hid hO
      clear hO hg
      go_wp2_with fail
      refine tstepA (notes_rd _) hOh.out hK (read_p B p S5 _ _ hP) (fun _ h=>⟨rfl,h⟩) ?_
      clear hOh hK hP
      intro x S6 wn hrun hlf hla hnn hP hk hK hO
      have hxb:=rd_bd hta hrun
      replace hD:=Nat.lt_of_le_of_lt hlf hD
      replace hn0:S6.nts.length≤100001:=by omega
      replace hta:=hta.run hrun
      replace b1:=b1.keep hk
      clear hk hnn hrun
      have hOh:=Lib.hid hO
      clear hO
      clear hlf hla
      have hx2:0≤max tv x∧max tv x≤1048576:=by omega
      go_wp2_with fail
      refine⟨⟨j+1,max tv x,S6,by go_num,rfl,hx2.1,hx2.2,by omega,hP,hK,b1,by omega,by omega,hta,hOh⟩,?_⟩
      simp [intOf];omega
  · obtain rfl:N=j:=by omega
    have dj:decide ((N:Int)<(N:Int))=false:=by simp
    replace hO:=hOh.out
    rw [Nat.sub_self,ranks_zero,forP_nilB,hFh.out] at hO
    unfold bakIn at hO
    have hw4:=IntWalk.i64_in (tv+1) (by omega)
    have c_b1:=b1.cells
    clear hOh
    by_cases hfull:room<tv+1
    · have df:decide (room<tv+1)=true:=by rw [decide_eq_true_eq];exact hfull
      rw [if_pos hfull] at hO
      have hOh:=Lib.hid hO
      clear hO hfull
      go_wp2_with fail
      clear c_b1
      refine tstepA (notes_wr _ _) hOh.out hK (write_p B p S5 _ _ _ hP) (fun _ h=>⟨rfl,h⟩) ?_
      clear hOh hK hP
      intro u S6 wn hrun hlf hla hnn hP hk hK hO
      replace hD:=Nat.lt_of_le_of_lt hlf hD
      replace hn0:S6.nts.length≤100001:=by omega
      replace hta:=hta.run hrun
      replace b1:=b1.keep hk
      clear hk hnn hrun
      have hOh:=Lib.hid hO
      clear hO
      go_wp2_with fail
      refine tstepN (notes_nt 4) hOh.out hK (noteO hP (by unfold maxAns;omega)) (fun _ h=>⟨rfl,h⟩) ?_
      clear hOh hK hP
      intro u S9 w9 _ _ _ hP _ hK hO
      have hf:=hO.done (v:=(11:Int)) hP hK
      clear hO hP hK
      go_wp2_with fail
      first | exact hf | (go_ret;exact hf)
    · have df:decide (room<tv+1)=false:=by rw [decide_eq_false_iff_not];exact hfull
      rw [if_neg hfull] at hO
      have hOh:=Lib.hid hO
      clear hO hfull
      go_wp2_with fail
      clear c_b1
      refine tstepA (notes_wr _ _) hOh.out hK (write_p B p S5 _ _ _ hP) (fun _ h=>⟨rfl,h⟩) ?_
      clear hOh hK hP
      intro u S6 wn hrun hlf hla hnn hP hk hK hO
      replace hD:=Nat.lt_of_le_of_lt hlf hD
      replace hn0:S6.nts.length≤100001:=by omega
      replace hta:=hta.run hrun
      replace b1:=b1.keep hk
      clear hk hnn hrun
      have hOh:=Lib.hid hO
      clear hO
      have c_b1:=b1.cells
      go_wp2_with fail
      clear c_b1
      refine tstepA (notes_st _ _) hOh.out hK (setO hP) (fun _ h=>⟨rfl,h⟩) ?_
      clear hOh hK hP
      intro u S7 wn hrun hlf hla hnn hP hk hK hO
      replace hD:=Nat.lt_of_le_of_lt hlf hD
      replace hn0:S7.nts.length≤100001:=by omega
      replace hta:=hta.run hrun
      replace b1:=b1.keep hk
      clear hk hnn hrun
      have hOh:=Lib.hid hO
      clear hO
      go_wp2_with fail
      refine tstepA (notes_wr _ _) hOh.out hK (write_p B p S7 _ _ _ hP) (fun _ h=>⟨rfl,h⟩) ?_
      clear hOh hK hP
      intro u S8 wn hrun hlf hla hnn hP hk hK hO
      replace hD:=Nat.lt_of_le_of_lt hlf hD
      replace hn0:S8.nts.length≤100001:=by omega
      replace hta:=hta.run hrun
      replace b1:=b1.keep hk
      clear hk hnn hrun
      have hOh:=Lib.hid hO
      clear hO
      go_wp2_with fail
      refine tstepA (notes_nt 2) hOh.out hK (noteO hP (by unfold maxAns;omega)) (fun _ h=>⟨rfl,h⟩) ?_
      clear hOh hK hP
      intro u S9 wn hrun hlf hla hnn hP hk hK hO
      replace hD:=Nat.lt_of_le_of_lt hlf hD
      replace hn0:S9.nts.length≤100002:=by omega
      replace hta:=hta.run hrun
      replace b1:=b1.keep hk
      clear hk hnn hrun
      have hOh:=Lib.hid hO
      clear hO
      obtain⟨G,hG⟩:∃ G:Unit→Prog Int,G=fun _=>(nt 3).bind fun _=>.ret 0:=⟨_,rfl⟩
      replace hO:=hOh.out
      rw [← hG,Int.toNat_natCast] at hO
      clear hOh
      have hOh:=Lib.hid hO
      have hGh:=Lib.hid hG
      clear hO hG b1
      generalize hT:tv+1=T at *
      have hT0:1≤T∧T≤1048577:=by omega
      clear hT hw4 df
      go_wp2_with fail
      go_loopw [79] (fun i wr=>∃ (j:Nat) (S5:TS),i=.int .i64 j∧j≤N∧Plays B wr p S5∧KeepP B p w wr∧S5.left<D∧S5.nts.length≤100002∧TameA S5∧Hid (Owes R encI B p w (((forP (fun j _=>bakFor D base N m T j) (ranksFrom m (N-j) j) ()).bind G).run S5))) (fun i _=>N-(intOf i).toNat)
      case atStart=>exact⟨0,S9,rfl,by omega,hP,hK,hD,hn0,hta,hOh⟩
      case round =>
       clear hP hK hD hn0 hta hOh
       obtain⟨j,S5,rfl,hj,hP,hK,hD,hn0,hta,hOh⟩:=hrel
       by_cases hjN:j<N
       · have dj:decide ((j:Int)<(N:Int))=true:=by rw [decide_eq_true_eq];omega
         obtain⟨g,hg⟩:∃ g,N-j=g+1:=⟨N-j-1,by omega⟩
         go_wp2_with fail
         rename_i hKK
         replace hKK:=Lib.hid hKK
         by_cases hjm:j=m
         · subst hjm
           replace hO:=hOh.out
           rw [hg,ranks_skip,show g=N-(j+1) from by omega] at hO
           have hf:=Lib.hid hO
           clear hO hOh hg
           have djm:((j:Int)==(j:Int))=true:=by simp
           refine wp_scope_straight ?_
           go_wp2_with fail
           refine hKK.out _ _ ?_
           go_wp2_with fail
           refine⟨⟨j+1,S5,by go_num,by omega,hP,hK,by omega,by omega,hta,hf⟩,?_⟩
           simp [intOf];omega
         · have djm:((j:Int)==(m:Int))=false:=by rw [beq_eq_false_iff_ne];omega
           have hw5:=IntWalk.i64_in (base+(j:Int)) (by omega)
           have hw6:=IntWalk.i64_in (base+(N:Int)+(j:Int)) (by omega)
           obtain⟨H,hH⟩:∃ H:Unit→Prog Int,H=fun _=>(forP (fun j _=>bakFor D base N m T j) (ranksFrom m (N-(j+1)) ((j:Int)+1)) ()).bind G:=⟨_,rfl⟩
           replace hO:=hOh.out
           rw [hg,ranks_cons _ _ _ (by omega),forP_consB,show g=N-(j+1) from by omega,← hH] at hO
           unfold bakFor at hO
           rw [Prog.bind_assoc] at hO
           have hHh:=Lib.hid hH
           have hOh2:=Lib.hid hO
           clear hO hOh hg hH
           obtain⟨J0,hJ0⟩:∃ J0:World→Prop,∀ wr,J0 wr↔∃ (n:Nat) (S6:TS),Plays B wr p S6∧KeepP B p w wr∧S6.left<D∧S6.nts.length≤100002∧TameA S6∧S6.left<n∧Hid (Owes R encI B p w (((zeroC (base+j) n).bind fun _=>(bakWait (base+N+j) T m j D).bind H).run S6)):=⟨_,fun _=>Iff.rfl⟩
           obtain⟨J1,hJ1⟩:∃ J1:World→Prop,∀ wr,J1 wr↔∃ (n:Nat) (S6:TS),Plays B wr p S6∧KeepP B p w wr∧S6.left<D∧S6.nts.length≤100002∧TameA S6∧S6.left<n∧Hid (Owes R encI B p w (((bakWait (base+N+j) T m j n).bind H).run S6)):=⟨_,fun _=>Iff.rfl⟩
           refine wp_scope_mask [false,false,false,false,false,false,false,false,false,false,false,false,false,false,true,false,false,false,false,false,false,false,false,false,false,false,false,false,false,false,false,false,false,false,false,false,false,false,false,false,false,false,false,false,false,false,false,false,false,false,false,false,false,false,false,false,false,false,false,false,false,false,false,false,false,false,false,false,false,false,false,false,false,false,false,false,false,false,false,false,false,false,true,true,true,true,true,true,true,true,true,true,true,true,true,true,true,true,true,true,true,true,true,true,true,true,true,true,true,true,true,true,true] (fun l wr=>l=0∧J0 wr∨l=1∧J1 wr) (fun _ wr=>leftW 1 3 wr p) ?pass ?first
           case first =>
            intro hfall
            refine (fun (hfall:Hid _)=>?_) (Lib.hid hfall)
            go_wp2_with fail
            refine wp_label ?_
            rename_i hKK2
            replace hKK2:=Lib.hid hKK2
            refine hKK2.out _ _ ?_
            exact hfall.out 0 _ _ _ rfl ⟨rfl,rfl,rfl⟩ (.inl ⟨rfl,(hJ0 _).2 ⟨D,S5,hP,hK,hD,hn0,hta,hD,hOh2⟩⟩)
           case pass =>
            clear hP hK hD hn0 hta hOh2
            intro l wq hrel ih
            refine (fun (ih:Hid _)=>?_) (Lib.hid ih)
            dsimp only [FrG]
            intro u14 u82 u83 u84 u85 u86 u87 u88 u89 u90 u91 u92 u93 u94 u95 u96 u97 u98 u99 u100 u101 u102 u103 u104 u105 u106 u107 u108 u109 u110 u111 u112
            rcases hrel with⟨rfl,hrel⟩ | ⟨rfl,hrel⟩
            · rw [hJ0] at hrel
              obtain⟨n,S6,hP,hK,hD,hn0,hta,hDn,hOh⟩:=hrel
              cases n with
              | zero=>omega
              | succ n =>
                refine⟨_,rfl,?_⟩
                replace hO:=hOh.out
                rw [zeroC_bind] at hO
                clear hOh
                have hOh:=Lib.hid hO
                clear hO
                have hlw:=Lib.hid hP.left
                go_wp2_with fail
                refine tstepA (notes_rd _) hOh.out hK (read_p B p S6 _ _ hP) (fun _ h=>⟨rfl,h⟩) ?_
                clear hOh hK hP
                intro x S7 wn hrun hlf hla hnn hP hk hK hO
                have hlt:=hla (asks_rd _)
                replace hD:=Nat.lt_of_le_of_lt hlf hD
                replace hn0:S7.nts.length≤100002:=by omega
                replace hta:=hta.run hrun
                clear hk hnn hrun
                clear hlf hla
                have hlw2:=Lib.hid hP.left
                by_cases hx:x=0
                · have dx:(x != 0)=false:=by simpa using hx
                  rw [if_pos hx] at hO
                  have hOh:=Lib.hid hO
                  clear hO hx
                  go_wp2_with fail
                  refine wp_label ?_
                  rename_i hKK2
                  replace hKK2:=Lib.hid hKK2
                  refine hKK2.out _ _ ?_
                  refine ih.out 1 _ _ _ rfl ⟨rfl,rfl,rfl⟩ (.inr ⟨rfl,(hJ1 _).2 ⟨D,S7,hP,hK,hD,hn0,hta,hD,hOh⟩⟩) ?_
                  rw [hlw.out,hlw2.out]
                  exact hlt
                · have dx:(x != 0)=true:=by simpa using hx
                  rw [if_neg hx] at hO
                  have hOh:=Lib.hid hO
                  clear hO hx
                  go_wp2_with fail
                  first | refine wp_goto ?_ | skip
                  refine And.intro ⟨⟨rfl,rfl,rfl⟩,.inl ⟨rfl,(hJ0 _).2 ⟨n,S7,hP,hK,hD,hn0,hta,by omega,hOh⟩⟩⟩ ?_
                  rw [hlw.out,hlw2.out]
                  exact hlt
            · rw [hJ1] at hrel
              obtain⟨n,S6,hP,hK,hD,hn0,hta,hDn,hOh⟩:=hrel
              cases n with
              | zero=>omega
              | succ n =>
                refine⟨_,rfl,?_⟩
                replace hO:=hOh.out
                rw [bakWait_bind] at hO
                clear hOh
                have hOh:=Lib.hid hO
                clear hO
                have hlw:=Lib.hid hP.left
                go_wp2_with fail
                refine tstepA (notes_rd _) hOh.out hK (read_p B p S6 _ _ hP) (fun _ h=>⟨rfl,h⟩) ?_
                clear hOh hK hP
                intro x S7 wn hrun hlf hla hnn hP hk hK hO
                have hlt:=hla (asks_rd _)
                replace hD:=Nat.lt_of_le_of_lt hlf hD
                replace hn0:S7.nts.length≤100002:=by omega
                replace hta:=hta.run hrun
                clear hk hnn hrun
                clear hlf hla
                by_cases hq0:x=0
                · have d0:(x != 0)=false:=by simpa using hq0
                  rw [if_neg (by omega)] at hO
                  have hOh:=Lib.hid hO
                  clear hO hq0
                  replace hO:=hOh.out
                  rw [hHh.out] at hO
                  have hf:=Lib.hid hO
                  clear hO hOh
                  go_wp2_with fail
                  refine hKK.out _ _ ?_
                  go_wp2_with fail
                  refine⟨⟨j+1,S7,by go_num,by omega,hP,hK,hD,hn0,hta,hf⟩,?_⟩
                  simp [intOf];omega
                · have d0:(x != 0)=true:=by simpa using hq0
                  by_cases hg1:x≤T
                  · have d1:decide (x≤T)=true:=by rw [decide_eq_true_eq];exact hg1
                    by_cases hg2:x=T
                    · have d2:(x != T)=false:=by simpa using hg2
                      by_cases hg3:(j:Int)<(m:Int)
                      · have d3:decide (j<m)=true:=by rw [decide_eq_true_eq];omega
                        rw [if_pos ⟨hq0,.inr ⟨hg2,hg3⟩⟩] at hO
                        have hOh:=Lib.hid hO
                        clear hO hq0 hg1 hg2 hg3
                        have hlw2:=Lib.hid hP.left
                        go_wp2_with fail
                        first | refine wp_goto ?_ | skip
                        refine And.intro ⟨⟨rfl,rfl,rfl⟩,.inr ⟨rfl,(hJ1 _).2 ⟨n,S7,hP,hK,hD,hn0,hta,by omega,hOh⟩⟩⟩ ?_
                        rw [hlw.out,hlw2.out]
                        omega
                      · have d3:decide (j<m)=false:=by rw [decide_eq_false_iff_not];omega
                        rw [if_neg (by omega)] at hO
                        have hOh:=Lib.hid hO
                        clear hO hq0 hg1 hg2 hg3
                        replace hO:=hOh.out
                        rw [hHh.out] at hO
                        have hf:=Lib.hid hO
                        clear hO hOh
                        go_wp2_with fail
                        refine hKK.out _ _ ?_
                        go_wp2_with fail
                        refine⟨⟨j+1,S7,by go_num,by omega,hP,hK,hD,hn0,hta,hf⟩,?_⟩
                        simp [intOf];omega
                    · have d2:(x != T)=true:=by simpa using hg2
                      rw [if_pos ⟨hq0,.inl (by omega)⟩] at hO
                      have hOh:=Lib.hid hO
                      clear hO hq0 hg1 hg2
                      have hlw2:=Lib.hid hP.left
                      go_wp2_with fail
                      first | refine wp_goto ?_ | skip
                      refine And.intro ⟨⟨rfl,rfl,rfl⟩,.inr ⟨rfl,(hJ1 _).2 ⟨n,S7,hP,hK,hD,hn0,hta,by omega,hOh⟩⟩⟩ ?_
                      rw [hlw.out,hlw2.out]
                      omega
                  · have d1:decide (x≤T)=false:=by rw [decide_eq_false_iff_not];exact hg1
                    rw [if_neg (by omega)] at hO
                    have hOh:=Lib.hid hO
                    clear hO hq0 hg1
                    replace hO:=hOh.out
                    rw [hHh.out] at hO
                    have hf:=Lib.hid hO
                    clear hO hOh
                    go_wp2_with fail
                    refine hKK.out _ _ ?_
                    go_wp2_with fail
                    refine⟨⟨j+1,S7,by go_num,by omega,hP,hK,hD,hn0,hta,hf⟩,?_⟩
                    simp [intOf];omega
       · obtain rfl:N=j:=by omega
         have dj:decide ((N:Int)<(N:Int))=false:=by simp
         replace hO:=hOh.out
         rw [Nat.sub_self,ranks_zero,forP_nilB,hGh.out] at hO
         have hOh2:=Lib.hid hO
         clear hO hOh
         go_wp2_with fail
         refine tstepN (notes_nt 3) hOh2.out hK (noteO hP (by unfold maxAns;omega)) (fun _ h=>⟨rfl,h⟩) ?_
         clear hOh2 hK hP
         intro u S9 w9 _ _ _ hP _ hK hO
         have hf:=hO.done (v:=(0:Int)) hP hK
         clear hO hP hK
         go_wp2_with fail
         first | exact hf | (go_ret;exact hf)
theorem bakrel_p (B p N:Nat)(S:TS)(alg mode base loc room:Int)(m:Nat)(w:World)(h:Plays B w p S)(h1:1≤N)(h2:N≤8)(hm1:m<N)(hba:0≤base∧base≤32768)(hro:1≤room∧room≤1048576)(hn0:S.nts.length≤100000) :
  Calls Tryz.prog 361 #[.pointer (some ⟨p,0,none⟩),.agg #[.int .i64 alg,.int .i64 N,.int .i64 mode,.int .i64 base,.int .i64 loc,.int .i64 room],.int .i64 m] w (Post encU B p w ((bakR base N loc m).run S)):=by
 generalize hR:Post encU B p w ((bakR base N loc m).run S)=R
 have hO:Owes R encU B p w ((bakR base N loc m).run S):=hR▸owes _ _ _ _ _
 clear hR
 obtain⟨b1,hK,hP⟩:=h.entry (.cells #[.int .i64 alg,.int .i64 N,.int .i64 mode,.int .i64 base,.int .i64 loc,.int .i64 room] 23)
 have c_b1:=b1.cells
 clear h
 unfold bakR at hO
 have hsz:=fun w=>sizes_p alg N mode base loc room w (by omega) hro
 have hw1:=IntWalk.i64_in (base+(N:Int)) (by omega)
 have hw3:=IntWalk.i64_in (base+(N:Int)+(m:Int)) (by omega)
 have hOh:=Lib.hid hO
 clear hO
 go_enter Tryz.func361,Tryz.ntmps361
 go_wp2_with fail
 refine (hsz _).mono ?_
 rintro e w1 ⟨rfl,hx⟩
 replace hK:=hK.trans (Keep.of_ext hx hP.lt hP.le)
 replace b1:=b1.ext hx hP.lt
 replace hP:=hP.ext hx
 clear hx c_b1 hsz
 generalize w.heap.size=z at *
 go_wp2_with fail
 refine tstepN (notes_nt 5) hOh.out hK (noteO hP (by unfold maxAns;omega)) (fun _ h=>⟨rfl,h⟩) ?_
 clear hOh hK hP
 intro u S1 w2 _ _ _ hP hk hK hO
 replace b1:=b1.keep hk
 clear hk
 have hOh:=Lib.hid hO
 clear hO
 have c_b1:=b1.cells
 go_wp2_with fail
 clear c_b1
 refine tstepN (notes_wr _ _) hOh.out hK (write_p B p S1 _ _ _ hP) (fun _ h=>⟨rfl,h⟩) ?_
 clear hOh hK hP
 intro u S2 w3 _ _ _ hP hk hK hO
 replace b1:=b1.keep hk
 clear hk
 have c_b1:=b1.cells
 have hOh:=Lib.hid hO
 clear hO
 go_wp2_with fail
 clear c_b1
 refine tlast hOh.out hK (setO hP) (fun _ h=>⟨rfl,h⟩) ?_
 clear hOh hK hP
 intro u S3 w4 hr hP hk hK hO
 have hf:=hO.done hP hK
 clear hO hP hK hr hk b1
 go_wp2_with fail
 first | exact hf | (refine bodyPost_ret (results_none rfl _ _ _) rfl ?_;exact hf)
end Go.Proofs.YtbaajjkopdjbgaaGreat
namespace Go.Proofs.YtbaajjkopdjbgaaGreat
open Go.RowKit Kv
theorem onethr_p (alg N mode base loc room:Int)(w:World)(h1:1≤N∧N≤8) :
  Calls Tryz.prog 373 #[.agg #[.int .i64 alg,.int .i64 N,.int .i64 mode,.int .i64 base,.int .i64 loc,.int .i64 room]] w fun e w'=>e=.returned (.int .i64 N)∧Ext w w':=by
 have e1:min (max N 1) 8=N:=by omega
 have hX:=Ext.refl w
 have b1:=Blk.new w (.cells #[.int .i64 alg,.int .i64 N,.int .i64 mode,.int .i64 base,.int .i64 loc,.int .i64 room] 23)
 replace hX:=hX.alloc (.cells #[.int .i64 alg,.int .i64 N,.int .i64 mode,.int .i64 base,.int .i64 loc,.int .i64 room] 23)
 have c_b1:=b1.cells
 go_enter Tryz.func373,Tryz.ntmps373
 go_wp2_with fail
 first | go_ret2 | go_ret
 exact⟨rfl,hX⟩
set_option maxRecDepth 100000 in
set_option maxHeartbeats 4000000 in
theorem oneacq_p (B p N D:Nat)(S:TS)(alg mode base loc room:Int)(m:Nat)(w:World)(h:Plays B w p S)(h1:1≤N)(h2:N≤8)(hm1:m<N)(hba:0≤base∧base≤32768)
  (hD:S.left<D)(hn0:S.nts.length≤100000) :
  Calls Tryz.prog 370 #[.pointer (some ⟨p,0,none⟩),.agg #[.int .i64 alg,.int .i64 N,.int .i64 mode,.int .i64 base,.int .i64 loc,.int .i64 room],.int .i64 m] w (Post encI B p w ((oneA D base N m).run S)):=by
 generalize hR:Post encI B p w ((oneA D base N m).run S)=R
 have hO:Owes R encI B p w ((oneA D base N m).run S):=hR▸owes _ _ _ _ _
 clear hR
 obtain⟨b1,hK,hP⟩:=h.entry (.cells #[.int .i64 alg,.int .i64 N,.int .i64 mode,.int .i64 base,.int .i64 loc,.int .i64 room] 23)
 have c_b1:=b1.cells
 clear h
 unfold oneA at hO
 have hth:=fun w=>onethr_p alg N mode base loc room w (by omega)
 have hw2:=IntWalk.i64_in (base+(m:Int)) (by omega)
 have hOh:=Lib.hid hO
 clear hO
 go_enter Tryz.func370,Tryz.ntmps370
 obtain⟨F,hF⟩:∃ F:Unit→Prog Int,F=fun _=>(nt 2).bind fun _=>(forP (fun j _=>zeroC (base+j) D) (ranksFrom (-1) (N-1-m) ((m:Int)+1)) ()).bind fun _=>(nt 3).bind fun _=>.ret 0:=⟨_,rfl⟩
 have hFh:=Lib.hid hF
 have hOh2:Hid (Owes R encI B p w (((nt 1).bind fun _=>(wr (base+m) 1).bind fun _=>(oneUp D base m D 0).bind F).run S)):=by rw [hF];exact hOh
 clear hF hOh
 have hOh:=hOh2
 clear hOh2
 go_wp2_with fail
 generalize w.heap.size=z at *
 obtain⟨J0,hJ0⟩:∃ J0:World→Prop,∀ wr',J0 wr'↔∃ (k:Nat) (S2:TS),Plays B wr' p S2∧KeepP B p w wr'∧HeldP wr' p z (.cells #[.int .i64 alg,.int .i64 N,.int .i64 mode,.int .i64 base,.int .i64 loc,.int .i64 room] 23)∧S2.left<D∧S2.nts.length≤100001∧S2.left<k∧Hid (Owes R encI B p w (((wr (base+m) 1).bind fun _=>(oneUp D base m k 0).bind F).run S2)):=⟨_,fun _=>Iff.rfl⟩
 refine wp_scope_fall (fun l a wr=>a.defers=[]∧a.tmps.size=68∧a.tmps[0]?=some (.pointer (some ⟨p,0,none⟩))∧a.tmps[2]?=some (.int .i64 m)∧a.tmps[4]?=some (.pointer (some ⟨z,0,none⟩))∧a.tmps[7]?=some (.int .i64 N)∧l=0∧J0 wr) (fun _ _ wr=>leftW 1 3 wr p) ?pass ?first
 case first =>
  intro hfall
  refine (fun (hfall:Hid _)=>?_) (Lib.hid hfall)
  go_wp2_with fail
  refine (hth _).mono ?_
  rintro e w1 ⟨rfl,hx⟩
  replace hK:=hK.trans (Keep.of_ext hx hP.lt hP.le)
  replace b1:=b1.ext hx hP.lt
  replace hP:=hP.ext hx
  clear hx c_b1 hth
  go_wp2_with fail
  refine tstepA (notes_nt 1) hOh.out hK (noteO hP (by unfold maxAns;omega)) (fun _ h=>⟨rfl,h⟩) ?_
  clear hOh hK hP
  intro u S1 wn hrun hlf hla hnn hP hk hK hO
  replace hD:=Nat.lt_of_le_of_lt hlf hD
  replace hn0:S1.nts.length≤100001:=by omega
  replace b1:=b1.keep hk
  clear hk hnn hrun
  clear hla hlf
  have hOh:=Lib.hid hO
  clear hO
  go_wp2_with fail
  try refine wp_label ?_
  rename_i hKK
  replace hKK:=Lib.hid hKK
  refine hKK.out _ _ ?_
  exact hfall.out 0 _ _ _ rfl ⟨rfl,rfl,rfl,rfl,rfl,rfl,rfl,(hJ0 _).2 ⟨D,S1,hP,hK,b1,hD,hn0,hD,hOh⟩⟩
 case pass =>
  clear hP hK b1 hOh hD hn0 c_b1 hth
  rintro l a wq ⟨ha,hs,f0,f2,f4,f7,rfl,hrel⟩
  try dsimp only
  refine fr_act 68 (fun a'=>a'.tmps[0]?=some (.pointer (some ⟨p,0,none⟩))→a'.tmps[2]?=some (.int .i64 m)→a'.tmps[4]?=some (.pointer (some ⟨z,0,none⟩))→a'.tmps[7]?=some (.int .i64 N)→∃ rest,findLabel _ 0=some (.seq .skip rest)∧rest.wp _ _ a' wq) ?_ a ha hs f0 f2 f4 f7
  clear f0 f2 f4 f7
  clear ha hs a
  dsimp only [Fr]
  intro u0 u1 u2 u3 u4 u5 u6 u7 u8 u9 u10 u11 u12 u13 u14 u15 u16 u17 u18 u19 u20 u21 u22 u23 u24 u25 u26 u27 u28 u29 u30 u31 u32 u33 u34 u35 u36 u37 u38 u39 u40 u41 u42 u43 u44 u45 u46 u47 u48 u49 u50 u51 u52 u53 u54 u55 u56 u57 u58 u59 u60 u61 u62 u63 u64 u65 u66 u67 f0 f2 f4 f7
  obtain rfl:=Option.some.inj f0
  obtain rfl:=Option.some.inj f2
  obtain rfl:=Option.some.inj f4
  obtain rfl:=Option.some.inj f7
  clear f0 f2 f4 f7
  rw [hJ0] at hrel
  obtain⟨k,S2,hP,hK,b1,hD,hn0,hkk,hOh⟩:=hrel
  refine⟨_,rfl,?_⟩
  have hlw:=Lib.hid hP.left
  have hmin:min (m:Int) (N:Int)=(m:Int):=by omega
  have hmax:max (m:Int) (-1)=(m:Int):=by omega
  have hw3:=IntWalk.i64_in ((m:Int)+1) (by omega)
  have c_b1:=b1.cells
  go_wp2_with fail
  clear c_b1
  refine tstepA (notes_wr _ _) hOh.out hK (write_p B p S2 _ _ _ hP) (fun _ h=>⟨rfl,h⟩) ?_
  clear hOh hK hP
  intro u S3 wn hrun hlf hla hnn hP hk hK hO
  have hlt3:=hla (asks_wr _ _)
  replace hD:=Nat.lt_of_le_of_lt hlf hD
  replace hn0:S3.nts.length≤100001:=by omega
  replace b1:=b1.keep hk
  clear hk hnn hrun
  have hk3:S3.left<k:=by omega
  clear hkk hla hlf
  have hOh:=Lib.hid hO
  clear hO
  go_wp2_with fail
  go_loopw [23] (fun i wr'=>∃ (j k:Nat) (S5:TS),i=.int .i64 j∧j≤m∧Plays B wr' p S5∧KeepP B p w wr'∧HeldP wr' p z (.cells #[.int .i64 alg,.int .i64 N,.int .i64 mode,.int .i64 base,.int .i64 loc,.int .i64 room] 23)∧S5.left<D∧S5.nts.length≤100001∧S5.left<k∧S5.left<S2.left∧Hid (Owes R encI B p w (((oneUp D base m k j).bind F).run S5))) (fun i _=>m-(intOf i).toNat)
  case atStart=>exact⟨0,k,S3,rfl,by omega,hP,hK,b1,hD,hn0,hk3,hlt3,hOh⟩
  case round =>
   clear hP hK b1 hD hn0 hOh hk3 hlt3
   obtain⟨j,k,S5,rfl,hj,hP,hK,b1,hD,hn0,hk5,hlt5,hOh⟩:=hrel
   by_cases hjm:j<m
   · have dj:decide ((j:Int)<(m:Int))=true:=by rw [decide_eq_true_eq];omega
     have hw4:=IntWalk.i64_in (base+(j:Int)) (by omega)
     cases k with
     | zero=>omega
     | succ k =>
       replace hO:=hOh.out
       rw [oneUp_lt D base m k j hjm] at hO
       clear hOh
       have hOh:=Lib.hid hO
       clear hO
       have c_b1:=b1.cells
       go_wp2_with fail
       clear c_b1
       refine tstepA (notes_rd _) hOh.out hK (read_p B p S5 _ _ hP) (fun _ h=>⟨rfl,h⟩) ?_
       clear hOh hK hP
       intro x S6 wn hrun hlf hla hnn hP hk hK hO
       have hlt6:=hla (asks_rd _)
       replace hD:=Nat.lt_of_le_of_lt hlf hD
       replace hn0:S6.nts.length≤100001:=by omega
       replace b1:=b1.keep hk
       clear hk hnn hrun
       clear hla hlf
       by_cases hx:x=0
       · have dx:(x==0)=true:=by simpa using hx
         rw [if_pos hx] at hO
         have hOh:=Lib.hid hO
         clear hO hx
         go_wp2_with fail
         refine⟨⟨j+1,k,S6,by go_num,by omega,hP,hK,b1,hD,hn0,by omega,by omega,hOh⟩,?_⟩
         simp [intOf];omega
       · have dx:(x==0)=false:=by simpa using hx
         rw [if_neg hx] at hO
         have hOh:=Lib.hid hO
         clear hO hx
         have c_b1:=b1.cells
         go_wp2_with fail
         clear c_b1
         refine tstepA (notes_wr _ _) hOh.out hK (write_p B p S6 _ _ _ hP) (fun _ h=>⟨rfl,h⟩) ?_
         clear hOh hK hP
         intro u S7 wn hrun hlf hla hnn hP hk hK hO
         have hlt7:=hla (asks_wr _ _)
         replace hD:=Nat.lt_of_le_of_lt hlf hD
         replace hn0:S7.nts.length≤100001:=by omega
         replace b1:=b1.keep hk
         clear hk hnn hrun
         clear hla hlf
         have hOh:=Lib.hid hO
         clear hO
         have hk7:S7.left<k:=by omega
         have hs7:S7.left<S2.left:=by omega
         clear hlt7 hlt6 hlt5 hk5
         go_wp2_with fail
         go_loopw [] (fun wr'=>∃ (n:Nat) (S8:TS),Plays B wr' p S8∧KeepP B p w wr'∧HeldP wr' p z (.cells #[.int .i64 alg,.int .i64 N,.int .i64 mode,.int .i64 base,.int .i64 loc,.int .i64 room] 23)∧S8.left<D∧S8.nts.length≤100001∧S8.left<k∧S8.left<S2.left∧S8.left<n∧Hid (Owes R encI B p w (((zeroC (base+j) n).bind fun _=>(Kv.wr (base+m) 1).bind fun _=>(oneUp D base m k 0).bind F).run S8))) (fun wr'=>leftW 1 3 wr' p)
         case atStart=>exact⟨D,S7,hP,hK,b1,hD,hn0,hk7,hs7,hD,hOh⟩
         case round =>
          clear hP hK b1 hD hn0 hOh hk7 hs7
          obtain⟨n,S8,hP,hK,b1,hD,hn0,hk8,hs8,hn8,hOh⟩:=hrel
          cases n with
          | zero=>omega
          | succ n =>
            replace hO:=hOh.out
            rw [zeroC_bind] at hO
            clear hOh
            have hOh:=Lib.hid hO
            clear hO
            have hlw8:=Lib.hid hP.left
            have c_b1:=b1.cells
            go_wp2_with fail
            clear c_b1
            refine tstepA (notes_rd _) hOh.out hK (read_p B p S8 _ _ hP) (fun _ h=>⟨rfl,h⟩) ?_
            clear hOh hK hP
            intro x S9 wn hrun hlf hla hnn hP hk hK hO
            have hlt9:=hla (asks_rd _)
            replace hD:=Nat.lt_of_le_of_lt hlf hD
            replace hn0:S9.nts.length≤100001:=by omega
            replace b1:=b1.keep hk
            clear hk hnn hrun
            clear hla hlf
            have hlw9:=Lib.hid hP.left
            by_cases hx:x=0
            · have dx:(x != 0)=false:=by simpa using hx
              rw [if_pos hx] at hO
              have hOh:=Lib.hid hO
              clear hO hx
              go_wp2_with fail
              first | refine wp_goto ?_ | skip
              refine And.intro ⟨rfl,rfl,rfl,rfl,rfl,rfl,rfl,(hJ0 _).2 ⟨k,S9,hP,hK,b1,hD,hn0,by omega,hOh⟩⟩ ?_
              rw [hlw.out,hlw9.out]
              omega
            · have dx:(x != 0)=true:=by simpa using hx
              rw [if_neg hx] at hO
              have hOh:=Lib.hid hO
              clear hO hx
              go_wp2_with fail
              refine⟨⟨n,S9,hP,hK,b1,hD,hn0,by omega,by omega,by omega,hOh⟩,?_⟩
              rw [hlw8.out,hlw9.out]
              omega
   · obtain rfl:m=j:=by omega
     have dj:decide ((m:Int)<(m:Int))=false:=by simp
     replace hO:=hOh.out
     rw [oneUp_ge D base m k,hFh.out] at hO
     clear hOh hlt5 hk5
     have hOh:=Lib.hid hO
     clear hO
     go_wp2_with fail
     refine tstepA (notes_nt 2) hOh.out hK (noteO hP (by unfold maxAns;omega)) (fun _ h=>⟨rfl,h⟩) ?_
     clear hOh hK hP
     intro u S6 wn hrun hlf hla hnn hP hk hK hO
     replace hD:=Nat.lt_of_le_of_lt hlf hD
     replace hn0:S6.nts.length≤100002:=by omega
     replace b1:=b1.keep hk
     clear hk hnn hrun
     clear hla hlf
     obtain⟨G,hG⟩:∃ G:Unit→Prog Int,G=fun _=>(nt 3).bind fun _=>.ret 0:=⟨_,rfl⟩
     rw [← hG] at hO
     have hOh:=Lib.hid hO
     have hGh:=Lib.hid hG
     clear hO hG
     have hl0:Hid (∀ L:Nat,L=N-1-m→m+1+L=N):=Lib.hid (fun L h=>by omega)
     obtain⟨L,hL⟩:∃ L,L=N-1-m:=⟨_,rfl⟩
     have hLN:=hl0.out L hL
     rw [← hL] at hOh
     clear hl0 hL
     have hLh:=Lib.hid hLN
     clear hLN
     go_wp2_with fail
     go_loopw [9] (fun i wr'=>∃ (q:Nat) (S7:TS),i=.int .i64 ((m:Int)+1+q)∧q≤L∧Plays B wr' p S7∧KeepP B p w wr'∧HeldP wr' p z (.cells #[.int .i64 alg,.int .i64 N,.int .i64 mode,.int .i64 base,.int .i64 loc,.int .i64 room] 23)∧S7.left<D∧S7.nts.length≤100002∧Hid (Owes R encI B p w (((forP (fun j _=>zeroC (base+j) D) (ranksFrom (-1) (L-q) ((m:Int)+1+q)) ()).bind G).run S7))) (fun i _=>N-(intOf i).toNat)
     case atStart=>exact⟨0,S6,by simp,by omega,hP,hK,b1,hD,hn0,by simpa using hOh⟩
     case round =>
      clear hP hK b1 hD hn0 hOh
      obtain⟨q,S7,rfl,hq,hP,hK,b1,hD,hn0,hOh⟩:=hrel
      by_cases hqL:q<L
      · have dq:decide ((m:Int)+1+(q:Int)<(N:Int))=true:=by rw [decide_eq_true_eq];have:=hLh.out;omega
        have hw5:=IntWalk.i64_in (base+((m:Int)+1+(q:Int))) (by have:=hLh.out;omega)
        have hw6:=IntWalk.i64_in ((m:Int)+1+(q:Int)+1) (by have:=hLh.out;omega)
        obtain⟨g,hg⟩:∃ g,L-q=g+1:=⟨L-q-1,by omega⟩
        replace hO:=hOh.out
        rw [hg,ranks_cons _ _ _ (by omega),forP_consB,show g=L-(q+1) from by omega] at hO
        obtain⟨H,hH⟩:∃ H:Unit→Prog Int,H=fun _=>(forP (fun j _=>zeroC (base+j) D) (ranksFrom (-1) (L-(q+1)) ((m:Int)+1+q+1)) ()).bind G:=⟨_,rfl⟩
        rw [← hH] at hO
        have hHh:=Lib.hid hH
        have hOh2:=Lib.hid hO
        clear hO hOh hg hH
        go_wp2_with fail
        go_loopw [] (fun wr'=>∃ (n:Nat) (S8:TS),Plays B wr' p S8∧KeepP B p w wr'∧HeldP wr' p z (.cells #[.int .i64 alg,.int .i64 N,.int .i64 mode,.int .i64 base,.int .i64 loc,.int .i64 room] 23)∧S8.left<D∧S8.nts.length≤100002∧S8.left<n∧Hid (Owes R encI B p w (((zeroC (base+((m:Int)+1+q)) n).bind H).run S8))) (fun wr'=>leftW 1 3 wr' p)
        case atStart=>exact⟨D,S7,hP,hK,b1,hD,hn0,hD,hOh2⟩
        case round =>
         clear hP hK b1 hD hn0 hOh2
         obtain⟨n,S8,hP,hK,b1,hD,hn0,hn8,hOh⟩:=hrel
         cases n with
         | zero=>omega
         | succ n =>
           replace hO:=hOh.out
           rw [zeroC_bind] at hO
           clear hOh
           have hOh:=Lib.hid hO
           clear hO
           have hlw8:=Lib.hid hP.left
           have c_b1:=b1.cells
           go_wp2_with fail
           clear c_b1
           refine tstepA (notes_rd _) hOh.out hK (read_p B p S8 _ _ hP) (fun _ h=>⟨rfl,h⟩) ?_
           clear hOh hK hP
           intro x S9 wn hrun hlf hla hnn hP hk hK hO
           have hlt9:=hla (asks_rd _)
           replace hD:=Nat.lt_of_le_of_lt hlf hD
           replace hn0:S9.nts.length≤100002:=by omega
           replace b1:=b1.keep hk
           clear hk hnn hrun
           clear hla hlf
           have hlw9:=Lib.hid hP.left
           by_cases hx:x=0
           · have dx:(x != 0)=false:=by simpa using hx
             rw [if_pos hx,hHh.out] at hO
             have hOh:=Lib.hid hO
             clear hO hx
             go_wp2_with fail
             refine⟨⟨q+1,S9,by go_num,by omega,hP,hK,b1,hD,hn0,?_⟩,?_⟩
             · rw [show (m:Int)+1+((q+1:Nat):Int)=(m:Int)+1+q+1 from by omega]
               exact hOh
             · simp [intOf];have:=hLh.out;omega
           · have dx:(x != 0)=true:=by simpa using hx
             rw [if_neg hx] at hO
             have hOh:=Lib.hid hO
             clear hO hx
             go_wp2_with fail
             refine⟨⟨n,S9,hP,hK,b1,hD,hn0,by omega,hOh⟩,?_⟩
             rw [hlw8.out,hlw9.out]
             omega
      · obtain rfl:q=L:=by omega
        have dq:decide ((m:Int)+1+(q:Int)<(N:Int))=false:=by rw [decide_eq_false_iff_not];have:=hLh.out;omega
        replace hO:=hOh.out
        rw [Nat.sub_self,ranks_zero,forP_nilB,hGh.out] at hO
        have hOh2:=Lib.hid hO
        clear hO hOh
        go_wp2_with fail
        refine tstepN (notes_nt 3) hOh2.out hK (noteO hP (by unfold maxAns;omega)) (fun _ h=>⟨rfl,h⟩) ?_
        clear hOh2 hK hP
        intro u S9 w9 _ _ _ hP _ hK hO
        have hf:=hO.done (v:=(0:Int)) hP hK
        clear hO hP hK
        go_wp2_with fail
        first | exact hf | (go_ret;exact hf)
theorem onerel_p (B p N:Nat)(S:TS)(alg mode base loc room:Int)(m:Nat)(w:World)(h:Plays B w p S)(h2:N≤8)(hm1:m<N)(hba:0≤base∧base≤32768)(hn0:S.nts.length≤100000) :
  Calls Tryz.prog 371 #[.pointer (some ⟨p,0,none⟩),.agg #[.int .i64 alg,.int .i64 N,.int .i64 mode,.int .i64 base,.int .i64 loc,.int .i64 room],.int .i64 m] w (Post encU B p w ((oneR base m).run S)):=by
 generalize hR:Post encU B p w ((oneR base m).run S)=R
 have hO:Owes R encU B p w ((oneR base m).run S):=hR▸owes _ _ _ _ _
 clear hR
 obtain⟨b1,hK,hP⟩:=h.entry (.cells #[.int .i64 alg,.int .i64 N,.int .i64 mode,.int .i64 base,.int .i64 loc,.int .i64 room] 23)
 have c_b1:=b1.cells
 clear h
 unfold oneR at hO
 have hw2:=IntWalk.i64_in (base+(m:Int)) (by omega)
 have hOh:=Lib.hid hO
 clear hO
 go_enter Tryz.func371,Tryz.ntmps371
 go_wp2_with fail
 generalize w.heap.size=z at *
 refine tstepN (notes_nt 5) hOh.out hK (noteO hP (by unfold maxAns;omega)) (fun _ h=>⟨rfl,h⟩) ?_
 clear hOh hK hP
 intro u S1 w2 _ _ _ hP hk hK hO
 replace b1:=b1.keep hk
 clear hk c_b1
 have hOh:=Lib.hid hO
 clear hO
 have c_b1:=b1.cells
 go_wp2_with fail
 clear c_b1
 refine tlast hOh.out hK (write_p B p S1 _ _ _ hP) (fun _ h=>⟨rfl,h⟩) ?_
 clear hOh hK hP
 intro u S3 w4 hr hP hk hK hO
 have hf:=hO.done hP hK
 clear hO hP hK hr hk b1
 go_wp2_with fail
 first | exact hf | (refine bodyPost_ret (results_none rfl _ _ _) rfl ?_;exact hf)
end Go.Proofs.YtbaajjkopdjbgaaGreat
namespace Go.Proofs.YtbaajjkopdjbgaaGreat
open Go.RowKit Kv
set_option maxRecDepth 100000 in
theorem of1_p (w:World):Calls Tryz.prog 107 #[.int .i64 1] w fun e w'=>e=.returned (.iface 157 (.agg #[]))∧Ext w w':=by
 have hX:=(Ext.refl w).alloc (.cells #[.int .i64 1] 3)
 go_enter Tryz.func107,Tryz.ntmps107
 go_wp2_with fail
 go_ret
 exact⟨rfl,hX⟩
set_option maxRecDepth 100000 in
theorem of2_p (w:World):Calls Tryz.prog 107 #[.int .i64 2] w fun e w'=>e=.returned (.iface 158 (.agg #[]))∧Ext w w':=by
 have hX:=(Ext.refl w).alloc (.cells #[.int .i64 2] 3)
 go_enter Tryz.func107,Tryz.ntmps107
 go_wp2_with fail
 go_ret
 exact⟨rfl,hX⟩
set_option maxRecDepth 100000 in
theorem of3_p (w:World):Calls Tryz.prog 107 #[.int .i64 3] w fun e w'=>e=.returned (.iface 160 (.agg #[.func (.func 185) #[] #[],.int .i64 1,.func (.func 186) #[] #[],.func (.func 187) #[] #[]]))∧Ext w w':=by
 have hX:=(Ext.refl w).alloc (.cells #[.int .i64 3] 3)
 go_enter Tryz.func107,Tryz.ntmps107
 go_wp2_with fail
 go_ret
 exact⟨rfl,hX⟩
set_option maxRecDepth 100000 in
theorem of4_p (w:World):Calls Tryz.prog 107 #[.int .i64 4] w fun e w'=>e=.returned (.iface 160 (.agg #[.func (.func 188) #[] #[],.int .i64 0,.func (.func 189) #[] #[],.func (.func 190) #[] #[]]))∧Ext w w':=by
 have hX:=(Ext.refl w).alloc (.cells #[.int .i64 4] 3)
 go_enter Tryz.func107,Tryz.ntmps107
 go_wp2_with fail
 go_ret
 exact⟨rfl,hX⟩
set_option maxRecDepth 100000 in
theorem of5_p (w:World):Calls Tryz.prog 107 #[.int .i64 5] w fun e w'=>e=.returned (.iface 160 (.agg #[.func (.func 191) #[] #[],.int .i64 0,.func (.func 192) #[] #[],.func (.func 193) #[] #[]]))∧Ext w w':=by
 have hX:=(Ext.refl w).alloc (.cells #[.int .i64 5] 3)
 go_enter Tryz.func107,Tryz.ntmps107
 go_wp2_with fail
 go_ret
 exact⟨rfl,hX⟩
set_option maxRecDepth 100000 in
theorem of6_p (w:World):Calls Tryz.prog 107 #[.int .i64 6] w fun e w'=>∃ x:Nat,e=.returned (.iface 160 (.agg #[.func (.func 194) #[] #[.pointer (some ⟨x,0,none⟩)],.int .i64 0,.func (.func 195) #[] #[],.func (.func 196) #[] #[]]))∧Ext w w':=by
 have hX:=(Ext.refl w).alloc (.cells #[.int .i64 6] 3)
 go_enter Tryz.func107,Tryz.ntmps107
 go_wp2_with fail
 go_ret
 exact⟨_,rfl,hX⟩
set_option maxRecDepth 100000 in
theorem of7_p (w:World):Calls Tryz.prog 107 #[.int .i64 7] w fun e w'=>∃ x:Nat,e=.returned (.iface 160 (.agg #[.func (.func 194) #[] #[.pointer (some ⟨x,0,none⟩)],.int .i64 0,.func (.func 195) #[] #[],.func (.func 196) #[] #[]]))∧Ext w w':=by
 have hX:=(Ext.refl w).alloc (.cells #[.int .i64 7] 3)
 go_enter Tryz.func107,Tryz.ntmps107
 go_wp2_with fail
 go_ret
 exact⟨_,rfl,hX⟩
set_option maxRecDepth 100000 in
theorem of8_p (w:World):Calls Tryz.prog 107 #[.int .i64 8] w fun e w'=>e=.returned (.iface 160 (.agg #[.func (.func 98) #[] #[],.int .i64 1,.func (.func 15) #[] #[],.func (.func 19) #[] #[]]))∧Ext w w':=by
 have hX:=(Ext.refl w).alloc (.cells #[.int .i64 8] 3)
 go_enter Tryz.func107,Tryz.ntmps107
 go_wp2_with fail
 go_ret
 exact⟨rfl,hX⟩
theorem laidacq_p (F G W0:FuncId)(cp:Array Value)(mo:Int)(hcf:∀ (args:Array Value) (w:World),(callFunc F args).run Tryz.prog w=.ok (.enter F args) w)(B p:Nat)(S:TS)(alg mode base loc room:Int)(N m:Nat)(T:Prog Int)(w:World)(h:Plays B w p S)
  (hq:∀ W,Plays B W p S→Calls Tryz.prog F #[.pointer (some ⟨p,0,none⟩),.agg #[.int .i64 alg,.int .i64 N,.int .i64 mode,.int .i64 base,.int .i64 loc,.int .i64 room],.int .i64 m] W (Post encI B p W (T.run S))) :
  Calls Tryz.prog 374 #[.agg #[.func (.func W0) #[] cp,.int .i64 mo,.func (.func F) #[] #[],.func (.func G) #[] #[]],.pointer (some ⟨p,0,none⟩),.agg #[.int .i64 alg,.int .i64 N,.int .i64 mode,.int .i64 base,.int .i64 loc,.int .i64 room],.int .i64 m] w (Post encI B p w (T.run S)):=by
 generalize hR:Post encI B p w ((T).run S)=R
 have hO:Owes R encI B p w ((T).run S):=hR▸owes _ _ _ _ _
 clear hR
 obtain⟨b1,b2,hK,hP⟩:=h.entry2 (.cells #[.func (.func W0) #[] cp,.int .i64 mo,.func (.func F) #[] #[],.func (.func G) #[] #[]] 160) (.cells #[.int .i64 alg,.int .i64 N,.int .i64 mode,.int .i64 base,.int .i64 loc,.int .i64 room] 23)
 have c_b1:=b1.cells
 have c_b2:=b2.cells
 clear h
 go_enter Tryz.func374,Tryz.ntmps374
 go_wp2_with fail
 refine tlast hO hK (hq _ hP) (fun _ h=>⟨rfl,h⟩) ?_
 clear hO hK hP hq c_b1 c_b2
 intro u S9 w9 hr9 hP hk9 hK hO
 have hf:=hO.done hP hK
 clear hO hP hK hr9 hk9
 go_wp2_with fail
 first | exact hf | (refine bodyPost_ret (results_none rfl _ _ _) rfl ?_;exact hf) | (go_ret;exact hf)
theorem bakeriesacq_p (B p:Nat)(S:TS)(alg mode base loc room:Int)(N m:Nat)(T:Prog Int)(w:World)(h:Plays B w p S)
  (hq:∀ W,Plays B W p S→Calls Tryz.prog 360 #[.pointer (some ⟨p,0,none⟩),.agg #[.int .i64 alg,.int .i64 N,.int .i64 mode,.int .i64 base,.int .i64 loc,.int .i64 room],.int .i64 m] W (Post encI B p W (T.run S))) :
  Calls Tryz.prog 356 #[.agg #[],.pointer (some ⟨p,0,none⟩),.agg #[.int .i64 alg,.int .i64 N,.int .i64 mode,.int .i64 base,.int .i64 loc,.int .i64 room],.int .i64 m] w (Post encI B p w (T.run S)):=by
 generalize hR:Post encI B p w ((T).run S)=R
 have hO:Owes R encI B p w ((T).run S):=hR▸owes _ _ _ _ _
 clear hR
 obtain⟨b1,b2,hK,hP⟩:=h.entry2 (.cells #[] 157) (.cells #[.int .i64 alg,.int .i64 N,.int .i64 mode,.int .i64 base,.int .i64 loc,.int .i64 room] 23)
 have c_b1:=b1.cells
 have c_b2:=b2.cells
 clear h
 go_enter Tryz.func356,Tryz.ntmps356
 go_wp2_with fail
 refine tlast hO hK (hq _ hP) (fun _ h=>⟨rfl,h⟩) ?_
 clear hO hK hP hq c_b1 c_b2
 intro u S9 w9 hr9 hP hk9 hK hO
 have hf:=hO.done hP hK
 clear hO hP hK hr9 hk9
 go_wp2_with fail
 first | exact hf | (refine bodyPost_ret (results_none rfl _ _ _) rfl ?_;exact hf) | (go_ret;exact hf)
theorem bitsacq_p (B p:Nat)(S:TS)(alg mode base loc room:Int)(N m:Nat)(T:Prog Int)(w:World)(h:Plays B w p S)
  (hq:∀ W,Plays B W p S→Calls Tryz.prog 370 #[.pointer (some ⟨p,0,none⟩),.agg #[.int .i64 alg,.int .i64 N,.int .i64 mode,.int .i64 base,.int .i64 loc,.int .i64 room],.int .i64 m] W (Post encI B p W (T.run S))) :
  Calls Tryz.prog 366 #[.agg #[],.pointer (some ⟨p,0,none⟩),.agg #[.int .i64 alg,.int .i64 N,.int .i64 mode,.int .i64 base,.int .i64 loc,.int .i64 room],.int .i64 m] w (Post encI B p w (T.run S)):=by
 generalize hR:Post encI B p w ((T).run S)=R
 have hO:Owes R encI B p w ((T).run S):=hR▸owes _ _ _ _ _
 clear hR
 obtain⟨b1,b2,hK,hP⟩:=h.entry2 (.cells #[] 158) (.cells #[.int .i64 alg,.int .i64 N,.int .i64 mode,.int .i64 base,.int .i64 loc,.int .i64 room] 23)
 have c_b1:=b1.cells
 have c_b2:=b2.cells
 clear h
 go_enter Tryz.func366,Tryz.ntmps366
 go_wp2_with fail
 refine tlast hO hK (hq _ hP) (fun _ h=>⟨rfl,h⟩) ?_
 clear hO hK hP hq c_b1 c_b2
 intro u S9 w9 hr9 hP hk9 hK hO
 have hf:=hO.done hP hK
 clear hO hP hK hr9 hk9
 go_wp2_with fail
 first | exact hf | (refine bodyPost_ret (results_none rfl _ _ _) rfl ?_;exact hf) | (go_ret;exact hf)
set_option maxRecDepth 100000 in
theorem lkdacq_p (M:FuncId)(Y:TypeId)(hcf:∀ (args:Array Value) (w:World),(callFunc M args).run Tryz.prog w=.ok (.enter M args) w)(B p:Nat)(S:TS)(alg mode base loc room:Int)(N m:Nat)(T:Prog Int)(w:World)(h:Plays B w p S)
  (hof:∀ w,Calls Tryz.prog 107 #[.int .i64 alg] w fun e w'=>∃ a,e=.returned (.iface Y (.agg a))∧Ext w w'∧(∀ w,(method 349 Y (.agg a) "kevel/lock.acquire").run Tryz.prog w=.ok (M,.agg a) w) ∧
    (∀ W,Plays B W p S→Calls Tryz.prog M #[.agg a,.pointer (some ⟨p,0,none⟩),.agg #[.int .i64 alg,.int .i64 N,.int .i64 mode,.int .i64 base,.int .i64 loc,.int .i64 room],.int .i64 m] W (Post encI B p W (T.run S)))) :
  Calls Tryz.prog 26 #[.pointer (some ⟨p,0,none⟩),.agg #[.int .i64 alg,.int .i64 N,.int .i64 mode,.int .i64 base,.int .i64 loc,.int .i64 room],.int .i64 m] w (Post encI B p w (T.run S)):=by
 generalize hR:Post encI B p w ((T).run S)=R
 have hO:Owes R encI B p w ((T).run S):=hR▸owes _ _ _ _ _
 clear hR
 obtain⟨b1,hK,hP⟩:=h.entry (.cells #[.int .i64 alg,.int .i64 N,.int .i64 mode,.int .i64 base,.int .i64 loc,.int .i64 room] 23)
 have c_b1:=b1.cells
 clear h
 go_enter Tryz.func26,Tryz.ntmps26
 go_wp2_with fail
 refine (hof _).mono ?_
 rintro e w1 ⟨a,rfl,hx,hmt,hq⟩
 replace hK:=hK.trans (Keep.of_ext hx hP.lt hP.le)
 replace b1:=b1.ext hx hP.lt
 replace hP:=hP.ext hx
 clear hx c_b1
 generalize w.heap.size=z at *
 have c_b1:=b1.cells
 go_wp2_with fail
 refine tlast hO hK (hq _ hP) (fun _ h=>⟨rfl,h⟩) ?_
 clear hO hK hP hq c_b1
 intro u S9 w9 hr9 hP hk9 hK hO
 have hf:=hO.done hP hK
 clear hO hP hK hr9 hk9
 go_wp2_with fail
 first | exact hf | (refine bodyPost_ret (results_none rfl _ _ _) rfl ?_;exact hf) | (go_ret;exact hf)
theorem laidrel_p (F G W0:FuncId)(cp:Array Value)(mo:Int)(hcf:∀ (args:Array Value) (w:World),(callFunc F args).run Tryz.prog w=.ok (.enter F args) w)(B p:Nat)(S:TS)(alg mode base loc room:Int)(N m:Nat)(T:Prog Unit)(w:World)(h:Plays B w p S)
  (hq:∀ W,Plays B W p S→Calls Tryz.prog F #[.pointer (some ⟨p,0,none⟩),.agg #[.int .i64 alg,.int .i64 N,.int .i64 mode,.int .i64 base,.int .i64 loc,.int .i64 room],.int .i64 m] W (Post encU B p W (T.run S))) :
  Calls Tryz.prog 375 #[.agg #[.func (.func W0) #[] cp,.int .i64 mo,.func (.func G) #[] #[],.func (.func F) #[] #[]],.pointer (some ⟨p,0,none⟩),.agg #[.int .i64 alg,.int .i64 N,.int .i64 mode,.int .i64 base,.int .i64 loc,.int .i64 room],.int .i64 m] w (Post encU B p w (T.run S)):=by
 generalize hR:Post encU B p w ((T).run S)=R
 have hO:Owes R encU B p w ((T).run S):=hR▸owes _ _ _ _ _
 clear hR
 obtain⟨b1,b2,hK,hP⟩:=h.entry2 (.cells #[.func (.func W0) #[] cp,.int .i64 mo,.func (.func G) #[] #[],.func (.func F) #[] #[]] 160) (.cells #[.int .i64 alg,.int .i64 N,.int .i64 mode,.int .i64 base,.int .i64 loc,.int .i64 room] 23)
 have c_b1:=b1.cells
 have c_b2:=b2.cells
 clear h
 go_enter Tryz.func375,Tryz.ntmps375
 go_wp2_with fail
 refine tlast hO hK (hq _ hP) (fun _ h=>⟨rfl,h⟩) ?_
 clear hO hK hP hq c_b1 c_b2
 intro u S9 w9 hr9 hP hk9 hK hO
 have hf:=hO.done (v:=()) hP hK
 clear hO hP hK hr9 hk9
 go_wp2_with fail
 first | exact hf | (refine bodyPost_ret (results_none rfl _ _ _) rfl ?_;exact hf) | (go_ret;exact hf)
theorem bakeriesrel_p (B p:Nat)(S:TS)(alg mode base loc room:Int)(N m:Nat)(T:Prog Unit)(w:World)(h:Plays B w p S)
  (hq:∀ W,Plays B W p S→Calls Tryz.prog 361 #[.pointer (some ⟨p,0,none⟩),.agg #[.int .i64 alg,.int .i64 N,.int .i64 mode,.int .i64 base,.int .i64 loc,.int .i64 room],.int .i64 m] W (Post encU B p W (T.run S))) :
  Calls Tryz.prog 357 #[.agg #[],.pointer (some ⟨p,0,none⟩),.agg #[.int .i64 alg,.int .i64 N,.int .i64 mode,.int .i64 base,.int .i64 loc,.int .i64 room],.int .i64 m] w (Post encU B p w (T.run S)):=by
 generalize hR:Post encU B p w ((T).run S)=R
 have hO:Owes R encU B p w ((T).run S):=hR▸owes _ _ _ _ _
 clear hR
 obtain⟨b1,b2,hK,hP⟩:=h.entry2 (.cells #[] 157) (.cells #[.int .i64 alg,.int .i64 N,.int .i64 mode,.int .i64 base,.int .i64 loc,.int .i64 room] 23)
 have c_b1:=b1.cells
 have c_b2:=b2.cells
 clear h
 go_enter Tryz.func357,Tryz.ntmps357
 go_wp2_with fail
 refine tlast hO hK (hq _ hP) (fun _ h=>⟨rfl,h⟩) ?_
 clear hO hK hP hq c_b1 c_b2
 intro u S9 w9 hr9 hP hk9 hK hO
 have hf:=hO.done (v:=()) hP hK
 clear hO hP hK hr9 hk9
 go_wp2_with fail
 first | exact hf | (refine bodyPost_ret (results_none rfl _ _ _) rfl ?_;exact hf) | (go_ret;exact hf)
theorem bitsrel_p (B p:Nat)(S:TS)(alg mode base loc room:Int)(N m:Nat)(T:Prog Unit)(w:World)(h:Plays B w p S)
  (hq:∀ W,Plays B W p S→Calls Tryz.prog 371 #[.pointer (some ⟨p,0,none⟩),.agg #[.int .i64 alg,.int .i64 N,.int .i64 mode,.int .i64 base,.int .i64 loc,.int .i64 room],.int .i64 m] W (Post encU B p W (T.run S))) :
  Calls Tryz.prog 367 #[.agg #[],.pointer (some ⟨p,0,none⟩),.agg #[.int .i64 alg,.int .i64 N,.int .i64 mode,.int .i64 base,.int .i64 loc,.int .i64 room],.int .i64 m] w (Post encU B p w (T.run S)):=by
 generalize hR:Post encU B p w ((T).run S)=R
 have hO:Owes R encU B p w ((T).run S):=hR▸owes _ _ _ _ _
 clear hR
 obtain⟨b1,b2,hK,hP⟩:=h.entry2 (.cells #[] 158) (.cells #[.int .i64 alg,.int .i64 N,.int .i64 mode,.int .i64 base,.int .i64 loc,.int .i64 room] 23)
 have c_b1:=b1.cells
 have c_b2:=b2.cells
 clear h
 go_enter Tryz.func367,Tryz.ntmps367
 go_wp2_with fail
 refine tlast hO hK (hq _ hP) (fun _ h=>⟨rfl,h⟩) ?_
 clear hO hK hP hq c_b1 c_b2
 intro u S9 w9 hr9 hP hk9 hK hO
 have hf:=hO.done (v:=()) hP hK
 clear hO hP hK hr9 hk9
 go_wp2_with fail
 first | exact hf | (refine bodyPost_ret (results_none rfl _ _ _) rfl ?_;exact hf) | (go_ret;exact hf)
set_option maxRecDepth 100000 in
theorem lkdrel_p (M:FuncId)(Y:TypeId)(hcf:∀ (args:Array Value) (w:World),(callFunc M args).run Tryz.prog w=.ok (.enter M args) w)(B p:Nat)(S:TS)(alg mode base loc room:Int)(N m:Nat)(T:Prog Unit)(w:World)(h:Plays B w p S)
  (hof:∀ w,Calls Tryz.prog 107 #[.int .i64 alg] w fun e w'=>∃ a,e=.returned (.iface Y (.agg a))∧Ext w w'∧(∀ w,(method 349 Y (.agg a) "kevel/lock.release").run Tryz.prog w=.ok (M,.agg a) w) ∧
    (∀ W,Plays B W p S→Calls Tryz.prog M #[.agg a,.pointer (some ⟨p,0,none⟩),.agg #[.int .i64 alg,.int .i64 N,.int .i64 mode,.int .i64 base,.int .i64 loc,.int .i64 room],.int .i64 m] W (Post encU B p W (T.run S)))) :
  Calls Tryz.prog 30 #[.pointer (some ⟨p,0,none⟩),.agg #[.int .i64 alg,.int .i64 N,.int .i64 mode,.int .i64 base,.int .i64 loc,.int .i64 room],.int .i64 m] w (Post encU B p w (T.run S)):=by
 generalize hR:Post encU B p w ((T).run S)=R
 have hO:Owes R encU B p w ((T).run S):=hR▸owes _ _ _ _ _
 clear hR
 obtain⟨b1,hK,hP⟩:=h.entry (.cells #[.int .i64 alg,.int .i64 N,.int .i64 mode,.int .i64 base,.int .i64 loc,.int .i64 room] 23)
 have c_b1:=b1.cells
 clear h
 go_enter Tryz.func30,Tryz.ntmps30
 go_wp2_with fail
 refine (hof _).mono ?_
 rintro e w1 ⟨a,rfl,hx,hmt,hq⟩
 replace hK:=hK.trans (Keep.of_ext hx hP.lt hP.le)
 replace b1:=b1.ext hx hP.lt
 replace hP:=hP.ext hx
 clear hx c_b1
 generalize w.heap.size=z at *
 have c_b1:=b1.cells
 go_wp2_with fail
 refine tlast hO hK (hq _ hP) (fun _ h=>⟨rfl,h⟩) ?_
 clear hO hK hP hq c_b1
 intro u S9 w9 hr9 hP hk9 hK hO
 have hf:=hO.done (v:=()) hP hK
 clear hO hP hK hr9 hk9
 go_wp2_with fail
 first | exact hf | (refine bodyPost_ret (results_none rfl _ _ _) rfl ?_;exact hf) | (go_ret;exact hf)
theorem alg_cases {alg:Int}(h:1≤alg∧alg≤8):alg=1∨alg=2∨alg=3∨alg=4∨alg=5∨alg=6∨alg=7∨alg=8:=by omega
set_option maxRecDepth 100000 in
theorem lkacq_p (B p N D:Nat)(S:TS)(alg mode base loc room:Int)(m:Nat)(rs:List Reg)(w:World)(h:Plays B w p S)(hk:LkOk alg N mode base loc room rs)(hm:m<N)(hN:¬ (N=1∧mode=2))(hta:TameA S)(hD:S.left<D)(hn0:S.nts.length≤100000) :
  Calls Tryz.prog 26 #[.pointer (some ⟨p,0,none⟩),.agg #[.int .i64 alg,.int .i64 N,.int .i64 mode,.int .i64 base,.int .i64 loc,.int .i64 room],.int .i64 m] w (Post encI B p w ((lkA D alg N base loc room rs m).run S)):=by
 rcases alg_cases hk.halg with rfl | rfl | rfl | rfl | rfl | rfl | rfl | rfl
 · exact lkdacq_p _ _ (fun _ _=>rfl) B p S 1 mode base loc room N m _ w h fun w=>(of1_p w).mono fun e w' h9=>by
    obtain⟨rfl,hx⟩:=h9
    exact⟨_,rfl,hx,fun _=>by kernel_rfl,fun W hP=>bakeriesacq_p B p S _ _ _ _ _ N m _ W hP fun W hP=>bakacq_p B p N D S 1 mode base loc room m W hP hk.hn.1 hk.hn.2 hm hk.hbase hk.hroom hta hD hn0⟩
 · exact lkdacq_p _ _ (fun _ _=>rfl) B p S 2 mode base loc room N m _ w h fun w=>(of2_p w).mono fun e w' h9=>by
    obtain⟨rfl,hx⟩:=h9
    exact⟨_,rfl,hx,fun _=>by kernel_rfl,fun W hP=>bitsacq_p B p S _ _ _ _ _ N m _ W hP fun W hP=>oneacq_p B p N D S 2 mode base loc room m W hP hk.hn.1 hk.hn.2 hm hk.hbase hD hn0⟩
 · have hl:layM (bwWants N) N mode base loc=some rs:=hk.hlay (by decide)
   exact lkdacq_p _ _ (fun _ _=>rfl) B p S 3 mode base loc room N m _ w h fun w=>(of3_p w).mono fun e w' h9=>by
    obtain⟨rfl,hx⟩:=h9
    exact⟨_,rfl,hx,fun _=>by kernel_rfl,fun W hP=>laidacq_p _ _ _ _ _ (fun _ _=>rfl) B p S _ _ _ _ _ N m _ W hP fun W hP=>bwacq_p B p N D S 3 mode base loc room m rs W hP hk.hn.1 hk.hn.2 hm hl hk.hloc (laid_all hl) (bw_told hl) hta hD hn0⟩
 · have hl:layM (filWants N) N mode base loc=some rs:=hk.hlay (by decide)
   exact lkdacq_p _ _ (fun _ _=>rfl) B p S 4 mode base loc room N m _ w h fun w=>(of4_p w).mono fun e w' h9=>by
    obtain⟨rfl,hx⟩:=h9
    exact⟨_,rfl,hx,fun _=>by kernel_rfl,fun W hP=>laidacq_p _ _ _ _ _ (fun _ _=>rfl) B p S _ _ _ _ _ N m _ W hP fun W hP=>filacq_p B p N D S 4 mode base loc room m rs W hP hP.le hk.hn.1 hk.hn.2 hm hl (laid_all hl) (fil_told hl) hD hn0⟩
 · have hl:layM (fastWants N) N mode base loc=some rs:=hk.hlay (by decide)
   obtain⟨Z,z1,z2,z3⟩:=fast_hz (m:=m) (D:=D) hl hm
   exact lkdacq_p _ _ (fun _ _=>rfl) B p S 5 mode base loc room N m _ w h fun w=>(of5_p w).mono fun e w' h9=>by
    obtain⟨rfl,hx⟩:=h9
    exact⟨_,rfl,hx,fun _=>by kernel_rfl,fun W hP=>laidacq_p _ _ _ _ _ (fun _ _=>rfl) B p S _ _ _ _ _ N m _ W hP fun W hP=>fastacq_p B p N D S 5 mode base loc room m rs W hP hk.hn.1 hk.hn.2 hm hl (laid_all hl) (fast_told hl hN) hD hn0 Z z1 z2 z3⟩
 · have hl:layM (treeWants (eachK 6) N) N mode base loc=some rs:=hk.hlay (by decide)
   exact lkdacq_p _ _ (fun _ _=>rfl) B p S 6 mode base loc room N m _ w h fun w=>(of6_p w).mono fun e w' h9=>by
    obtain⟨x,rfl,hx⟩:=h9
    exact⟨_,rfl,hx,fun _=>by kernel_rfl,fun W hP=>laidacq_p _ _ _ _ _ (fun _ _=>rfl) B p S _ _ _ _ _ N m _ W hP fun W hP=>treeacq_p B p N D S 6 mode base loc room m rs W hP hk.hn.1 (by have:=hk.hn.2;omega) hm hl (tree_all hl hm) hD hn0⟩
 · have hl:layM (treeWants (eachK 7) N) N mode base loc=some rs:=hk.hlay (by decide)
   exact lkdacq_p _ _ (fun _ _=>rfl) B p S 7 mode base loc room N m _ w h fun w=>(of7_p w).mono fun e w' h9=>by
    obtain⟨x,rfl,hx⟩:=h9
    exact⟨_,rfl,hx,fun _=>by kernel_rfl,fun W hP=>laidacq_p _ _ _ _ _ (fun _ _=>rfl) B p S _ _ _ _ _ N m _ W hP fun W hP=>treeacq_p B p N D S 7 mode base loc room m rs W hP hk.hn.1 (by have:=hk.hn.2;omega) hm hl (tree_all hl hm) hD hn0⟩
 · have hl:layM (adWants N) N mode base loc=some rs:=hk.hlay (by decide)
   exact lkdacq_p _ _ (fun _ _=>rfl) B p S 8 mode base loc room N m _ w h fun w=>(of8_p w).mono fun e w' h9=>by
    obtain⟨rfl,hx⟩:=h9
    exact⟨_,rfl,hx,fun _=>by kernel_rfl,fun W hP=>laidacq_p _ _ _ _ _ (fun _ _=>rfl) B p S _ _ _ _ _ N m _ W hP fun W hP=>adacq_p B p N D S 8 mode base loc room m rs W hP hk.hn.1 hk.hn.2 hm hl hk.hloc (laid_all hl) (ad_told hl hk.hn.1) hD hn0⟩
set_option maxRecDepth 100000 in
theorem lkrel_p (B p N:Nat)(S:TS)(alg mode base loc room:Int)(m:Nat)(rs:List Reg)(w:World)(h:Plays B w p S)(hk:LkOk alg N mode base loc room rs)(hm:m<N)(hn0:S.nts.length≤100000) :
  Calls Tryz.prog 30 #[.pointer (some ⟨p,0,none⟩),.agg #[.int .i64 alg,.int .i64 N,.int .i64 mode,.int .i64 base,.int .i64 loc,.int .i64 room],.int .i64 m] w (Post encU B p w ((lkR alg N base loc rs m).run S)):=by
 rcases alg_cases hk.halg with rfl | rfl | rfl | rfl | rfl | rfl | rfl | rfl
 · exact lkdrel_p _ _ (fun _ _=>rfl) B p S 1 mode base loc room N m _ w h fun w=>(of1_p w).mono fun e w' h9=>by
    obtain⟨rfl,hx⟩:=h9
    exact⟨_,rfl,hx,fun _=>by kernel_rfl,fun W hP=>bakeriesrel_p B p S _ _ _ _ _ N m _ W hP fun W hP=>bakrel_p B p N S 1 mode base loc room m W hP hk.hn.1 hk.hn.2 hm hk.hbase hk.hroom hn0⟩
 · exact lkdrel_p _ _ (fun _ _=>rfl) B p S 2 mode base loc room N m _ w h fun w=>(of2_p w).mono fun e w' h9=>by
    obtain⟨rfl,hx⟩:=h9
    exact⟨_,rfl,hx,fun _=>by kernel_rfl,fun W hP=>bitsrel_p B p S _ _ _ _ _ N m _ W hP fun W hP=>onerel_p B p N S 2 mode base loc room m W hP hk.hn.2 hm hk.hbase hn0⟩
 · have hl:layM (bwWants N) N mode base loc=some rs:=hk.hlay (by decide)
   exact lkdrel_p _ _ (fun _ _=>rfl) B p S 3 mode base loc room N m _ w h fun w=>(of3_p w).mono fun e w' h9=>by
    obtain⟨rfl,hx⟩:=h9
    exact⟨_,rfl,hx,fun _=>by kernel_rfl,fun W hP=>laidrel_p _ _ _ _ _ (fun _ _=>rfl) B p S _ _ _ _ _ N m _ W hP fun W hP=>bwrel_p B p N S 3 mode base loc room m rs W hP hk.hn.1 hk.hn.2 hm hl hk.hloc (laid_all hl) hn0⟩
 · have hl:layM (filWants N) N mode base loc=some rs:=hk.hlay (by decide)
   exact lkdrel_p _ _ (fun _ _=>rfl) B p S 4 mode base loc room N m _ w h fun w=>(of4_p w).mono fun e w' h9=>by
    obtain⟨rfl,hx⟩:=h9
    exact⟨_,rfl,hx,fun _=>by kernel_rfl,fun W hP=>laidrel_p _ _ _ _ _ (fun _ _=>rfl) B p S _ _ _ _ _ N m _ W hP fun W hP=>filrel_p B p N S 4 mode base loc room m rs W hP hk.hn.1 hk.hn.2 hm hl (laid_all hl) hn0⟩
 · have hl:layM (fastWants N) N mode base loc=some rs:=hk.hlay (by decide)
   exact lkdrel_p _ _ (fun _ _=>rfl) B p S 5 mode base loc room N m _ w h fun w=>(of5_p w).mono fun e w' h9=>by
    obtain⟨rfl,hx⟩:=h9
    exact⟨_,rfl,hx,fun _=>by kernel_rfl,fun W hP=>laidrel_p _ _ _ _ _ (fun _ _=>rfl) B p S _ _ _ _ _ N m _ W hP fun W hP=>fastrel_p B p N S 5 mode base loc room m rs W hP hk.hn.1 hk.hn.2 hm hl (laid_all hl) hn0⟩
 · have hl:layM (treeWants (eachK 6) N) N mode base loc=some rs:=hk.hlay (by decide)
   exact lkdrel_p _ _ (fun _ _=>rfl) B p S 6 mode base loc room N m _ w h fun w=>(of6_p w).mono fun e w' h9=>by
    obtain⟨x,rfl,hx⟩:=h9
    exact⟨_,rfl,hx,fun _=>by kernel_rfl,fun W hP=>laidrel_p _ _ _ _ _ (fun _ _=>rfl) B p S _ _ _ _ _ N m _ W hP fun W hP=>treerel_p B p N S 6 mode base loc room m rs W hP hk.hn.1 (by have:=hk.hn.2;omega) hm hl (tree_all hl hm) hn0⟩
 · have hl:layM (treeWants (eachK 7) N) N mode base loc=some rs:=hk.hlay (by decide)
   exact lkdrel_p _ _ (fun _ _=>rfl) B p S 7 mode base loc room N m _ w h fun w=>(of7_p w).mono fun e w' h9=>by
    obtain⟨x,rfl,hx⟩:=h9
    exact⟨_,rfl,hx,fun _=>by kernel_rfl,fun W hP=>laidrel_p _ _ _ _ _ (fun _ _=>rfl) B p S _ _ _ _ _ N m _ W hP fun W hP=>treerel_p B p N S 7 mode base loc room m rs W hP hk.hn.1 (by have:=hk.hn.2;omega) hm hl (tree_all hl hm) hn0⟩
 · have hl:layM (adWants N) N mode base loc=some rs:=hk.hlay (by decide)
   exact lkdrel_p _ _ (fun _ _=>rfl) B p S 8 mode base loc room N m _ w h fun w=>(of8_p w).mono fun e w' h9=>by
    obtain⟨rfl,hx⟩:=h9
    exact⟨_,rfl,hx,fun _=>by kernel_rfl,fun W hP=>laidrel_p _ _ _ _ _ (fun _ _=>rfl) B p S _ _ _ _ _ N m _ W hP fun W hP=>adrel_p B p N S 8 mode base loc room m rs W hP hk.hn.1 hk.hn.2 hm hl hk.hloc (laid_all hl) (ad_told hl hk.hn.1) hn0⟩
end Go.Proofs.YtbaajjkopdjbgaaGreat
namespace Kv
theorem ref_ans {α:Type}{T:Prog α}{o o':Bool}{S S':TS}{a:α}(h:Ref T o S a o' S'):S'.ans=S.ans:=by
 cases h with
 | over=>rfl
 | done h=>have:=Prog.run_ans T S;rw [h] at this;exact this
 | stop _ h=>have:=Prog.run_ans T S;rw [h] at this;exact this
end Kv
namespace Go.Proofs.YtbaajjkopdjbgaaGreat
open Go.RowKit Kv
theorem rstepA {α β:Type}{B p:Nat}{w0 w:World}{o:Bool}{S:TS}{R:Ending→World→Prop}{P:Program}{f:FuncId}{args:Array Value}{K:Ending→World→Prop}{enc:α→Value}{enc':β→Value}{T:Prog α}{g:α→Prog β}{k:Nat}(hN:T.Notes k)
  (hO:ROwes R enc' B p w0 (T.bind g) o S)(hB:KeepR B p w0 w)(h:Calls P f args w (RPost enc B p w T o S))
  (hk:∀ v o1 S1 w1,(TameA S→TameA S1)→S1.left≤S.left→(o1=false→o=false∧T.run S=(some v,S1)∧(T.Asks→S1.left<S.left))→S1.nts.length≤S.nts.length+k→RAt B w1 p o1 S1→KeepR B p w w1→KeepR B p w0 w1→ROwes R enc' B p w0 (g v) o1 S1→K (.returned (enc v)) w1):Calls P f args w K:=by
 refine h.mono fun e w1 ⟨v,o1,S1,he,hr,h1,h2⟩=>?_
 subst he
 refine hk v o1 S1 w1 (fun ht=>?_) (ref_lefts hr) (fun ho=>?_) (ref_notes hN hr) h1 h2 (hB.trans h2) (hO.then hr)
 · unfold TameA
   rw [ref_ans hr]
   exact ht
 · subst ho
   cases hr with
   | done hr=>exact⟨rfl,hr,fun ha=>ha.left hr h1.len⟩
set_option maxRecDepth 100000 in
set_option maxHeartbeats 4000000 in
theorem bwwait_r (B p D N m j:Nat)(o:Bool)(S:TS)(alg mode base loc room T bc P:Int)(b c:Nat)(rs:List Reg)(w:World)(h:RAt B w p o S)(hreg:RegsAt [3,4,5] w p b rs)(h1:1≤N)(h2:N≤8)(hm1:m<N)(hj1:j<N)(hjm:j≠m)
  (hlen:rs.length=2*N+1)(_hc:rs.length≤c∧c≤9223372036854775807)(hok:∀ r∈rs,r.ok∧r.n=N)(htold:∀ (i:Nat) r,rs[i]?=some r→i≠1+m→i≠1+N+m→2≤N→r.told m)(hta:TameA S)(hD:S.left<D)
  (hP1:IntKind.i64.wrap (P.tdiv 2)=T)(hP2:P.tmod 2=bc) :
  Calls Tryz.prog 205 #[.pointer (some ⟨p,0,none⟩),.agg #[.int .i64 alg,.int .i64 N,.int .i64 mode,.int .i64 base,.int .i64 loc,.int .i64 room],.slice (some ⟨b,0,none⟩) rs.length c,.int .i64 m,.int .i64 j,.int .i64 P] w (RPost encU B p w (bwFor rs D N m j T bc) o S):=by
 generalize hR:RPost encU B p w (bwFor rs D N m j T bc) o S=R
 have hO:ROwes R encU B p w (bwFor rs D N m j T bc) o S:=hR▸rowes _ _ _ _ _ _ _
 clear hR
 obtain⟨b1,hK,hP⟩:=h.entry (.cells #[.int .i64 alg,.int .i64 N,.int .i64 mode,.int .i64 base,.int .i64 loc,.int .i64 room] 23)
 have c_b1:=b1.cells
 have hplt:=h.lt
 clear h
 replace hreg:=hreg.extL ((Ext.refl w).alloc (.cells #[.int .i64 alg,.int .i64 N,.int .i64 mode,.int .i64 base,.int .i64 loc,.int .i64 room] 23)) hplt
 clear hplt
 obtain⟨r0,hr0⟩:∃ r,rs[0]?=some r:=⟨_,List.getElem?_eq_getElem (by omega)⟩
 obtain⟨rh,hrh⟩:∃ r,rs[1+j]?=some r:=⟨_,List.getElem?_eq_getElem (by omega)⟩
 obtain⟨rj,hrj⟩:∃ r,rs[1+N+j]?=some r:=⟨_,List.getElem?_eq_getElem (by omega)⟩
 have hok0:=(hok _ (List.mem_of_getElem? hr0)).1
 have hm0':(m:Int)<r0.n:=by rw [(hok _ (List.mem_of_getElem? hr0)).2];omega
 have hokx:=(hok _ (List.mem_of_getElem? hrh)).1
 have hmx:(m:Int)<rh.n:=by rw [(hok _ (List.mem_of_getElem? hrh)).2];omega
 have hokj:=(hok _ (List.mem_of_getElem? hrj)).1
 have hmj:(m:Int)<rj.n:=by rw [(hok _ (List.mem_of_getElem? hrj)).2];omega
 have htx:=htold _ rh hrh (by omega) (by omega) (by omega)
 have htj:=htold _ rj hrj (by omega) (by omega) (by omega)
 have hw1:=IntWalk.i64_in ((1:Int)+(j:Int)) (by omega)
 have hw2:=IntWalk.i64_in ((1:Int)+(N:Int)) (by omega)
 have hw3:=IntWalk.i64_in ((1:Int)+(N:Int)+(j:Int)) (by omega)
 have q1:(1:Int)+(j:Int)<(rs.length:Int):=by omega
 have q2:0≤(1:Int)+(j:Int):=by omega
 have q3:((1:Int)+(j:Int)).toNat=1+j:=by omega
 have q4:(1:Int)+(N:Int)+(j:Int)<(rs.length:Int):=by omega
 have q5:0≤(1:Int)+(N:Int)+(j:Int):=by omega
 have q6:((1:Int)+(N:Int)+(j:Int)).toNat=1+N+j:=by omega
 have q7:(0:Nat)<rs.length:=by omega
 have q8:(0:Int)<(rs.length:Int):=by omega
 have hrr:=Lib.hid (And.intro hr0 (And.intro hrh hrj))
 unfold bwFor at hO
 rw [bwChoose_eq,regAt_of (show (1:Int)+(j:Int)=((1+j:Nat):Int) from by omega) hrh] at hO
 have hOh:=Lib.hid hO
 clear hO hr0 hrh hrj hok htold hlen
 go_enter Tryz.func205,Tryz.ntmps205
 go_wp2_with fail
 clear c_b1
 generalize hbb:w.heap.size=z at *
 generalize World.alloc w _=W0 at *
 clear hbb
 go_loopw [] (fun wr=>∃ (n:Nat) (o2:Bool) (S2:TS),RAt B wr p o2 S2∧KeepR B p w wr∧HeldR wr p z (.cells #[.int .i64 alg,.int .i64 N,.int .i64 mode,.int .i64 base,.int .i64 loc,.int .i64 room] 23)∧RegsAt [3,4,5] wr p b rs∧TameA S2∧(o2=false→S2.left<D)∧Hid (ROwes R encU B p w ((zeroP rh m n).bind fun _=>bwWait rs N m j T bc D) o2 S2)∧(o2=false→S2.left<n)) (fun wr=>leftR wr p)
 case atStart=>exact⟨D,o,S,hP,hK,b1,hreg,hta,fun _=>hD,hOh,fun _=>hD⟩
 case round =>
  clear hP hK b1 hreg hta hD hOh
  obtain⟨n,o2,S2,hP,hK,b1,hreg,hta,hD,hO,hn⟩:=hrel
  replace hO:=hO.out
  have hlw:=Lib.hid hP.leftR
  obtain⟨_,_,_,_,_,hcc⟩:=hP.cell
  cases o2 with
  | true =>
    have hf:R (.returned (encU ())) wr:=hO.over () hP hK
    clear hO hK hD b1 hreg hta hn
    go_wp2_with fail
    go_loopw [] (fun w9=>RAt B w9 p true S2∧R (.returned (encU ())) w9) (fun _=>0)
    case atStart=>exact⟨hP,hf⟩
    case round =>
     clear hP hf hcc
     obtain⟨hP,hf⟩:=hrel
     obtain⟨_,_,_,_,_,hcc⟩:=hP.cell
     go_wp2_with fail
     first | exact hf | (refine bodyPost_ret (results_none rfl _ _ _) rfl ?_;exact hf)
  | false =>
    have hn:=hn rfl
    replace hD:=hD rfl
    cases n with
    | zero=>omega
    | succ n =>
      rw [show zeroP rh m (n+1)=(regR rh m).bind fun x=>if x=0 then .ret () else zeroP rh m n from rfl,Prog.bind_assoc] at hO
      have hOh:=Lib.hid hO
      clear hO
      obtain⟨a0,a1,a2,a3,a4,a5,a6⟩:=hreg.nth hrr.out.2.1
      go_wp2_with fail
      clear a0 a1 a2 a3 a4 a5 a6 hcc
      refine rstepA (notes_regR _ _) hOh.out hK (reg_read_r B p false S2 rh m _ hP hokx ⟨by omega,hmx⟩) ?_
      clear hOh hK hP
      intro x o3 S3 w3 htm hlf hdn _ hP hk hK hO
      replace hta:=htm hta
      replace b1:=b1.keep hk
      replace hreg:=hreg.keep hk
      clear hk htm
      replace hD:o3=false→S3.left<D:=fun _=>Nat.lt_of_le_of_lt hlf hD
      have hn3:o3=false→S3.left<n:=fun ho=>by have:=(hdn ho).2.2 (asks_regR _ _ htx);omega
      have hlw2:=Lib.hid hP.leftR
      have hdec:o3=false→S3.left<S2.left:=fun ho=>(hdn ho).2.2 (asks_regR _ _ htx)
      clear hdn
      by_cases hx:x=0
      · have dx:(x==0)=true:=by simpa using hx
        rw [if_pos hx] at hO
        have hOh:=Lib.hid hO
        clear hO hx
        go_wp2_with fail
        clear hlw hlw2 hn3 hdec
        go_loopw [] (fun wr=>∃ (n:Nat) (o2:Bool) (S2:TS),RAt B wr p o2 S2∧KeepR B p w wr∧HeldR wr p z (.cells #[.int .i64 alg,.int .i64 N,.int .i64 mode,.int .i64 base,.int .i64 loc,.int .i64 room] 23)∧RegsAt [3,4,5] wr p b rs∧TameA S2∧Hid (ROwes R encU B p w (bwWait rs N m j T bc n) o2 S2)∧(o2=false→S2.left<n)) (fun wr=>leftR wr p)
        case atStart=>exact⟨D,o3,S3,hP,hK,b1,hreg,hta,hOh,hD⟩
        case round =>
         clear hP hK b1 hreg hta hD hOh hn
         obtain⟨n,o2,S4,hP,hK,b1,hreg,hta,hO,hn⟩:=hrel
         replace hO:=hO.out
         have hlw:=Lib.hid hP.leftR
         obtain⟨_,_,_,_,_,hcc⟩:=hP.cell
         cases o2 with
         | true =>
           have hf:R (.returned (encU ())) wr:=hO.over () hP hK
           clear hO hK b1 hreg hta hn
           go_wp2_with fail
           first | exact hf | (refine bodyPost_ret (results_none rfl _ _ _) rfl ?_;exact hf)
         | false =>
           have hn:=hn rfl
           cases n with
           | zero=>omega
           | succ n =>
             replace hO:ROwes R encU B p w ((bwWait rs N m j T bc (n+1)).bind Prog.ret) false S4:=by rw [Prog.bind_id];exact hO
             rw [bwWait_bind,regAt_of (show (1:Int)+(N:Int)+(j:Int)=((1+N+j:Nat):Int) from by omega) hrr.out.2.2,regAt_of (show (0:Int)=((0:Nat):Int) from rfl) hrr.out.1,Prog.bind_id] at hO
             have hOh:=Lib.hid hO
             clear hO
             have c_b1:=b1.cells
             obtain⟨a0,a1,a2,a3,a4,a5,a6⟩:=hreg.nth hrr.out.2.2
             go_wp2_with fail
             clear a0 a1 a2 a3 a4 a5 a6 hcc c_b1
             refine rstepA (notes_regR _ _) hOh.out hK (reg_read_r B p false S4 rj m _ hP hokj ⟨by omega,hmj⟩) ?_
             clear hOh hK hP
             intro x o4 S5 wn htm hlf hdn _ hP hk hK hO
             have hta5:=htm hta
             replace b1:=b1.keep hk
             replace hreg:=hreg.keep hk
             clear hk htm
             have hn5:o4=false→S5.left<n:=fun ho=>by have:=(hdn ho).2.2 (asks_regR _ _ htj);omega
             have hlw2:=Lib.hid hP.leftR
             have hdec:o4=false→S5.left<S4.left:=fun ho=>(hdn ho).2.2 (asks_regR _ _ htj)
             have hqr:o4=false→IntKind.i64.wrap (x.tdiv 2)=x / 2∧x.tmod 2=x % 2:=fun ho=>by
              have hxb:=regR_bd hokj (told_ne htj) hta (hdn ho).2.1
              refine⟨?_,Int.tmod_eq_emod_of_nonneg hxb.1⟩
              rw [Int.tdiv_eq_ediv_of_nonneg hxb.1]
              exact IntWalk.i64_in _ (by omega)
             clear hdn hta
             obtain⟨q,hq⟩:∃ q,IntKind.i64.wrap (x.tdiv 2)=q:=⟨_,rfl⟩
             obtain⟨r,hr⟩:∃ r,x.tmod 2=r:=⟨_,rfl⟩
             rw [hq,hr] at hqr
             obtain⟨_,_,_,_,_,hcc⟩:=hP.cell
             by_cases hq0:q=0
             · have d0:(q==0)=true:=by rw [beq_iff_eq];exact hq0
               have hf:R (.returned (encU ())) wn:=by
                cases o4 with
                | true=>exact hO.over () hP hK
                | false =>
                  rw [← (hqr rfl).1,← (hqr rfl).2,if_pos hq0] at hO
                  exact hO.ret hP hK
               clear hO hP hK hcc b1 hreg hqr hlw hlw2 hq0
               go_wp2_with fail
               first | exact hf | (refine bodyPost_ret (results_none rfl _ _ _) rfl ?_;exact hf)
             · have d0:(q==0)=false:=by rw [beq_eq_false_iff_ne];exact hq0
               replace hO:ROwes R encU B p w (if r=bc then (if T<q∨(q=T∧(m:Int)<(j:Int)) then .ret () else bwWait rs N m j T bc n) else (regR r0 m).bind fun y=>if bitM y=bc then bwWait rs N m j T bc n else .ret ()) o4 S5:=by
                cases o4 with
                | true=>exact hO.any _
                | false =>
                  rw [← (hqr rfl).1,← (hqr rfl).2,if_neg hq0] at hO
                  exact hO
               clear hqr hq0
               by_cases hrb:r=bc
               · have dr:(r==bc)=true:=by rw [beq_iff_eq];exact hrb
                 have dr2:(r != bc)=false:=by simpa using hrb
                 rw [if_pos hrb] at hO
                 clear hrb
                 by_cases hg:T<q∨(q=T∧(m:Int)<(j:Int))
                 · rw [if_pos hg] at hO
                   have hf:R (.returned (encU ())) wn:=hO.ret hP hK
                   clear hO hP hK hcc b1 hreg hlw hlw2
                   have hgd:decide (T<q)=true∨decide (T<q)=false∧(q==T)=true∧decide (m<j)=true:=by
                    by_cases hg1:T<q
                    · exact .inl (by simpa using hg1)
                    · obtain⟨hg2,hg3⟩:=hg.resolve_left hg1
                      exact .inr ⟨by simpa using hg1,by simpa using hg2,by simp;omega⟩
                   clear hg
                   rcases hgd with d1 | ⟨d1,d2,d3⟩
                   · go_wp2_with fail
                     first | exact hf | (refine bodyPost_ret (results_none rfl _ _ _) rfl ?_;exact hf)
                   · go_wp2_with fail
                     first | exact hf | (refine bodyPost_ret (results_none rfl _ _ _) rfl ?_;exact hf)
                 · rw [if_neg hg] at hO
                   have hOh:=Lib.hid hO
                   clear hO
                   have hgd:decide (T<q)=false∧((q==T)=false∨(q==T)=true∧decide (m<j)=false):=by
                    refine⟨by simp;omega,?_⟩
                    by_cases hg2:q=T
                    · exact .inr ⟨by simpa using hg2,by simp;omega⟩
                    · exact .inl (by simpa using hg2)
                   clear hg
                   obtain⟨d1,d2 | ⟨d2,d3⟩⟩:=hgd
                   · go_wp2_with fail
                     refine⟨⟨n,o4,S5,hP,hK,b1,hreg,hta5,hOh,hn5⟩,?_⟩
                     rw [hlw.out,hlw2.out]
                     cases o4 with
                     | true=>simp;omega
                     | false=>have:=hdec rfl;simp;omega
                   · go_wp2_with fail
                     refine⟨⟨n,o4,S5,hP,hK,b1,hreg,hta5,hOh,hn5⟩,?_⟩
                     rw [hlw.out,hlw2.out]
                     cases o4 with
                     | true=>simp;omega
                     | false=>have:=hdec rfl;simp;omega
               · have dr:(r==bc)=false:=by rw [beq_eq_false_iff_ne];exact hrb
                 have dr2:(r != bc)=true:=by simpa using hrb
                 rw [if_neg hrb] at hO
                 clear hrb
                 cases o4 with
                 | true =>
                   have hOh:=Lib.hid (hO.any (bwWait rs N m j T bc n))
                   clear hO
                   go_wp2_with fail
                   refine⟨⟨n,true,S5,hP,hK,b1,hreg,hta5,hOh,fun h=>by cases h⟩,?_⟩
                   rw [hlw.out,hlw2.out]
                   simp;omega
                 | false =>
                   have hn6:=hn5 rfl
                   have hdec6:=hdec rfl
                   clear hn5 hdec
                   have hOh:=Lib.hid hO
                   clear hO
                   obtain⟨a0,a1,a2,a3,a4,a5,a6⟩:=hreg.nth hrr.out.1
                   go_wp2_with fail
                   clear a0 a1 a2 a3 a4 a5 a6 hcc
                   refine rstepA (notes_regR _ _) hOh.out hK (reg_read_r B p false S5 r0 m _ hP hok0 ⟨by omega,hm0'⟩) ?_
                   clear hOh hK hP
                   intro y o6 S6 wm htm hlf6 hdn _ hP hk hK hO
                   have hta6:=htm hta5
                   replace b1:=b1.keep hk
                   replace hreg:=hreg.keep hk
                   have hlw3:=Lib.hid hP.leftR
                   clear hk htm hlw2 hdn hta5
                   go_wp2_with fail
                   refine (bit_r y _).mono ?_
                   rintro e w' ⟨rfl,rfl⟩
                   generalize bitM y=by' at *
                   by_cases hb:by'=bc
                   · have db:(by' != bc)=false:=by simpa using hb
                     rw [if_pos hb] at hO
                     have hOh:=Lib.hid hO
                     clear hO hb
                     go_wp2_with fail
                     refine⟨⟨n,o6,S6,hP,hK,b1,hreg,hta6,hOh,fun _=>by omega⟩,?_⟩
                     rw [hlw.out,hlw3.out]
                     cases o6 <;> simp <;> omega
                   · have db:(by' != bc)=true:=by simpa using hb
                     rw [if_neg hb] at hO
                     have hf:R (.returned (encU ())) wm:=hO.ret hP hK
                     clear hO hP hK b1 hreg hlw hlw3 hb
                     go_wp2_with fail
                     first | exact hf | (refine bodyPost_ret (results_none rfl _ _ _) rfl ?_;exact hf)
      · have dx:(x==0)=false:=by simpa using hx
        rw [if_neg hx] at hO
        have hOh:=Lib.hid hO
        clear hO hx
        go_wp2_with fail
        refine⟨⟨n,o3,S3,hP,hK,b1,hreg,hta,hD,hOh,hn3⟩,?_⟩
        rw [hlw.out,hlw2.out]
        cases o3 with
        | true=>simp;omega
        | false=>have:=hdec rfl;simp;omega
end Go.Proofs.YtbaajjkopdjbgaaGreat
namespace Go.Proofs.YtbaajjkopdjbgaaGreat
open Go.RowKit Kv
set_option maxRecDepth 100000 in
set_option maxHeartbeats 4000000 in
theorem bwacq_r (B p N D:Nat)(o:Bool)(S:TS)(alg mode base loc room:Int)(m:Nat)(rs:List Reg)(w:World)(h:RAt B w p o S)(h1:1≤N)(h2:N≤8)(hm1:m<N)(hl:layM (bwWants N) N mode base loc=some rs)(hlc:0≤loc∧loc≤32768)
  (hok:∀ r∈rs,r.ok∧r.n=N)(htold:∀ (i:Nat) r,rs[i]?=some r→i≠1+m→i≠1+N+m→2≤N→r.told m)(hta:TameA S)(hD:S.left<D)(hn0:S.nts.length≤100000) :
  Calls Tryz.prog 110 #[.pointer (some ⟨p,0,none⟩),.agg #[.int .i64 alg,.int .i64 N,.int .i64 mode,.int .i64 base,.int .i64 loc,.int .i64 room],.int .i64 m] w (RPost encI B p w (bwA D rs (loc+sumL rs) N m) o S):=by
 have hlen:=layM_len hl
 rw [bwWants_len] at hlen
 generalize hR:RPost encI B p w (bwA D rs (loc+sumL rs) N m) o S=R
 have hO:ROwes R encI B p w (bwA D rs (loc+sumL rs) N m) o S:=hR▸rowes _ _ _ _ _ _ _
 clear hR
 obtain⟨b1,hK,hP⟩:=h.entry (.cells #[.int .i64 alg,.int .i64 N,.int .i64 mode,.int .i64 base,.int .i64 loc,.int .i64 room] 23)
 have c_b1:=b1.cells
 clear h
 rw [bwA_eq] at hO
 obtain⟨r0,hr0⟩:∃ r,rs[0]?=some r:=⟨_,List.getElem?_eq_getElem (by omega)⟩
 obtain⟨rc,hrc⟩:∃ r,rs[1+m]?=some r:=⟨_,List.getElem?_eq_getElem (by omega)⟩
 obtain⟨rm,hrm⟩:∃ r,rs[1+N+m]?=some r:=⟨_,List.getElem?_eq_getElem (by omega)⟩
 have hok0:=(hok _ (List.mem_of_getElem? hr0)).1
 have hm0':(m:Int)<r0.n:=by rw [(hok _ (List.mem_of_getElem? hr0)).2];omega
 have hokc:=(hok _ (List.mem_of_getElem? hrc)).1
 have hmc:(m:Int)<rc.n:=by rw [(hok _ (List.mem_of_getElem? hrc)).2];omega
 have hokm:=(hok _ (List.mem_of_getElem? hrm)).1
 have hmm:(m:Int)<rm.n:=by rw [(hok _ (List.mem_of_getElem? hrm)).2];omega
 rw [regAt_of (show (0:Int)=((0:Nat):Int) from rfl) hr0,regAt_of (show (1:Int)+(m:Int)=((1+m:Nat):Int) from by omega) hrc] at hO
 have hw1:=IntWalk.i64_in ((1:Int)+(m:Int)) (by omega)
 have hw2:=IntWalk.i64_in ((1:Int)+(N:Int)) (by omega)
 have hw3:=IntWalk.i64_in ((1:Int)+(N:Int)+(m:Int)) (by omega)
 have q1:(1:Int)+(m:Int)<(rs.length:Int):=by omega
 have q2:0≤(1:Int)+(m:Int):=by omega
 have q3:((1:Int)+(m:Int)).toNat=1+m:=by omega
 have q4:(1:Int)+(N:Int)+(m:Int)<(rs.length:Int):=by omega
 have q5:0≤(1:Int)+(N:Int)+(m:Int):=by omega
 have q6:((1:Int)+(N:Int)+(m:Int)).toNat=1+N+m:=by omega
 have q7:(0:Nat)<rs.length:=by omega
 have q8:(0:Int)<(rs.length:Int):=by omega
 have hrh:=Lib.hid (And.intro hr0 (And.intro hrc hrm))
 have hlM:=Lib.hid hl
 have hlenh:=Lib.hid hlen
 have hokh:=Lib.hid hok
 have htoldh:=Lib.hid htold
 clear hlen hr0 hrc hrm hok hl htold
 have hOh:=Lib.hid hO
 clear hO
 go_enter Tryz.func110,Tryz.ntmps110
 go_wp2_with fail
 refine (bwregs_r alg mode base loc room N rs _ h1 h2 hlM.out hlc).mono ?_
 rintro e w1 ⟨b,c,rfl,hge,hb,hcells,qc1,qc2,hx⟩
 have hreg:RegsAt [3,4,5] w1 p b rs:=⟨hb,hP.fresh hx hge,hcells⟩
 replace hK:=hK.trans (Keep.of_ext hx hP.lt hP.le)
 replace b1:=b1.ext hx hP.lt
 replace hP:=hP.ext hx
 clear hx hcells hge hb c_b1
 generalize w.heap.size=z at *
 go_wp2_with fail
 refine rstepA (notes_nt 1) hOh.out hK (note_r B p o S 1 _ hP (by unfold maxAns;omega)) ?_
 clear hOh hK hP
 intro u o1 S1 wn htm hlf hdn hnn hP hk hK hO
 replace hta:=htm hta
 replace hD:=Nat.lt_of_le_of_lt hlf hD
 replace hn0:S1.nts.length≤100001:=by omega
 replace b1:=b1.keep hk
 replace hreg:=hreg.keep hk
 clear hk htm hnn hdn hlf
 have hOh:=Lib.hid hO
 clear hO
 obtain⟨a0,a1,a2,a3,a4,a5,a6⟩:=hreg.nth hrh.out.2.1
 go_wp2_with fail
 clear a0 a1 a2 a3 a4 a5 a6
 refine rstepA (notes_regW _ _ _) hOh.out hK (reg_write_r B p o1 S1 rc m 1 _ hP hokc ⟨by omega,hmc⟩) ?_
 clear hOh hK hP
 intro u o2 S2 wn htm hlf hdn hnn hP hk hK hO
 replace hta:=htm hta
 replace hD:=Nat.lt_of_le_of_lt hlf hD
 replace hn0:S2.nts.length≤100001:=by omega
 replace b1:=b1.keep hk
 replace hreg:=hreg.keep hk
 clear hk htm hnn hdn hlf
 have hOh:=Lib.hid hO
 clear hO
 obtain⟨a0,a1,a2,a3,a4,a5,a6⟩:=hreg.nth hrh.out.1
 go_wp2_with fail
 clear a0 a1 a2 a3 a4 a5 a6
 refine rstepA (notes_regR _ _) hOh.out hK (reg_read_r B p o2 S2 r0 m _ hP hok0 ⟨by omega,hm0'⟩) ?_
 clear hOh hK hP
 intro y o3 S3 wn htm hlf hdn hnn hP hk hK hO
 replace hta:=htm hta
 replace hD:=Nat.lt_of_le_of_lt hlf hD
 replace hn0:S3.nts.length≤100001:=by omega
 replace b1:=b1.keep hk
 replace hreg:=hreg.keep hk
 clear hk htm hnn hdn hlf
 have hOh:=Lib.hid hO
 clear hO
 go_wp2_with fail
 refine (bit_r y _).mono ?_
 rintro e w' ⟨rfl,rfl⟩
 have hbx:bitM y=0∨bitM y=1:=by unfold bitM;split <;> simp
 generalize bitM y=bc at *
 go_wp2_with fail
 refine rstepA (notes_st _ _) hOh.out hK (set_r B p o3 S3 _ _ _ hP) ?_
 clear hOh hK hP
 intro u o4 S4 wn htm hlf hdn hnn hP hk hK hO
 replace hta:=htm hta
 replace hD:=Nat.lt_of_le_of_lt hlf hD
 replace hn0:S4.nts.length≤100001:=by omega
 replace b1:=b1.keep hk
 replace hreg:=hreg.keep hk
 clear hk htm hnn hdn hlf
 have hOh:=Lib.hid hO
 clear hO
 obtain⟨F,hF⟩:∃ F:Int→Prog Int,F=bwThrough D rs N m bc:=⟨_,rfl⟩
 replace hO:=hOh.out
 rw [← hF,Int.toNat_natCast] at hO
 clear hOh
 have hOh:=Lib.hid hO
 have hFh:=Lib.hid hF
 clear hO hF
 go_upto_block 0 with fail
 go_cut [10] (fun s10 wx=>∃ (tv:Int) (o2:Bool) (S2:TS),s10=.int .i64 tv∧(o2=false→1≤tv∧tv≤1048577)∧RAt B wx p o2 S2∧KeepR B p w wx∧HeldR wx p z (.cells #[.int .i64 alg,.int .i64 N,.int .i64 mode,.int .i64 base,.int .i64 loc,.int .i64 room] 23)∧RegsAt [3,4,5] wx p b rs∧(o2=false→S2.left<D)∧TameA S2∧S2.nts.length≤100001∧Hid (ROwes R encI B p w (F (tv-1)) o2 S2))
 case first =>
  go_wp2_with fail
  go_loopw [10,11] (fun u i wr=>∃ (j:Nat) (tv:Int) (o2:Bool) (S2:TS),i=.int .i64 j∧u=.int .i64 tv∧j≤N∧(o2=false→1≤tv∧tv≤1048577)∧RAt B wr p o2 S2∧KeepR B p w wr∧HeldR wr p z (.cells #[.int .i64 alg,.int .i64 N,.int .i64 mode,.int .i64 base,.int .i64 loc,.int .i64 room] 23)∧RegsAt [3,4,5] wr p b rs∧(o2=false→S2.left<D)∧TameA S2∧S2.nts.length≤100001∧Hid (ROwes R encI B p w ((forP (fun j t=>(regR (regAt rs (1+(N:Int)+j)) m).bind fun x=>.ret (if x % 2=bc then max t (x / 2) else t)) (ranksFrom m (N-j) j) (tv-1)).bind F) o2 S2)) (fun _ i _=>N-(intOf i).toNat)
  case atStart=>exact⟨0,1,o4,S4,rfl,rfl,by omega,fun _=>by omega,hP,hK,b1,hreg,fun _=>hD,hta,hn0,hOh⟩
  case round =>
   clear hP hK b1 hreg hD hta hn0 hOh
   obtain⟨j,tv,o2,S2,rfl,rfl,hj,htv,hP,hK,b1,hreg,hD,hta,hn0,hOh⟩:=hrel
   obtain⟨_,_,_,_,_,hcc⟩:=hP.cell
   have c_b1:=b1.cells
   by_cases hjN:j<N
   · have dj:decide ((j:Int)<(N:Int))=true:=by rw [decide_eq_true_eq];omega
     cases o2 with
     | true =>
       have hOh2:=Lib.hid (hOh.out.any (F (tv-1)))
       clear hOh hcc
       obtain⟨_,_,_,_,_,hcc⟩:=hP.cell
       go_wp2_with fail
       go_meet
       exact⟨tv,true,S2,rfl,htv,hP,hK,b1,hreg,hD,hta,hn0,hOh2⟩
     | false =>
       replace htv:=htv rfl
       replace hD:=hD rfl
       by_cases hjm:j=m
       · subst hjm
         have djm:((j:Int)==(j:Int))=true:=by simp
         obtain⟨g,hg⟩:∃ g,N-j=g+1:=⟨N-j-1,by omega⟩
         replace hO:=hOh.out
         rw [hg,ranks_skip,show g=N-(j+1) from by omega] at hO
         have hf:=Lib.hid hO
         clear hO hOh hg
         go_wp2_with fail
         refine⟨⟨j+1,tv,false,S2,by go_num,rfl,by omega,fun _=>htv,hP,hK,b1,hreg,fun _=>hD,hta,hn0,hf⟩,?_⟩
         simp [intOf];omega
       · have djm:((j:Int)==(m:Int))=false:=by rw [beq_eq_false_iff_ne];omega
         obtain⟨g,hg⟩:∃ g,N-j=g+1:=⟨N-j-1,by omega⟩
         obtain⟨rj,hrj⟩:∃ r,rs[1+N+j]?=some r:=⟨_,List.getElem?_eq_getElem (by have:=hlenh.out;omega)⟩
         have hokj:=(hokh.out _ (List.mem_of_getElem? hrj)).1
         have hmj:(m:Int)<rj.n:=by rw [(hokh.out _ (List.mem_of_getElem? hrj)).2];omega
         have htj:=htoldh.out _ rj hrj (by omega) (by omega) (by omega)
         have hw4:=IntWalk.i64_in ((1:Int)+(N:Int)+(j:Int)) (by omega)
         have p4:(1:Int)+(N:Int)+(j:Int)<(rs.length:Int):=by have:=hlenh.out;omega
         have p5:0≤(1:Int)+(N:Int)+(j:Int):=by omega
         have p6:((1:Int)+(N:Int)+(j:Int)).toNat=1+N+j:=by omega
         replace hO:=hOh.out
         rw [hg,ranks_cons _ _ _ (by omega),bwMost_cons,regAt_of (show (1:Int)+(N:Int)+(j:Int)=((1+N+j:Nat):Int) from by omega) hrj,show g=N-(j+1) from by omega] at hO
         clear hOh hg
         obtain⟨a0,a1,a2,a3,a4,a5,a6⟩:=hreg.nth hrj
         have hOh:=Lib.hid hO
         clear hO hrj
         go_wp2_with fail
         clear a0 a1 a2 a3 a4 a5 a6 hcc c_b1
         refine rstepA (notes_regR _ _) hOh.out hK (reg_read_r B p false S2 rj m _ hP hokj ⟨by omega,hmj⟩) ?_
         clear hOh hK hP
         intro x o5 S5 wn htm hlf hdn hnn hP hk hK hO
         have hta5:=htm hta
         replace hD:=Nat.lt_of_le_of_lt hlf hD
         replace hn0:S5.nts.length≤100001:=by omega
         replace b1:=b1.keep hk
         replace hreg:=hreg.keep hk
         clear hk htm hnn hlf
         have hqr:o5=false→(0≤x∧x≤1048576)∧IntKind.i64.wrap (x.tdiv 2)=x / 2∧x.tmod 2=x % 2:=fun ho=>by
          have hxb:=regR_bd hokj (told_ne htj) hta (hdn ho).2.1
          refine⟨hxb,?_,Int.tmod_eq_emod_of_nonneg hxb.1⟩
          rw [Int.tdiv_eq_ediv_of_nonneg hxb.1]
          exact IntWalk.i64_in _ (by omega)
         clear hdn hta
         obtain⟨q,hq⟩:∃ q,IntKind.i64.wrap (x.tdiv 2)=q:=⟨_,rfl⟩
         obtain⟨r,hr⟩:∃ r,x.tmod 2=r:=⟨_,rfl⟩
         rw [hq,hr] at hqr
         by_cases hc:r=bc∧tv≤q
         · have d1:(r==bc)=true:=by rw [beq_iff_eq];exact hc.1
           have d2:decide (tv≤q)=true:=by rw [decide_eq_true_eq];exact hc.2
           have hf:Hid (ROwes R encI B p w ((forP (fun j t=>(regR (regAt rs (1+(N:Int)+j)) m).bind fun x=>.ret (if x % 2=bc then max t (x / 2) else t)) (ranksFrom m (N-(j+1)) ((j:Int)+1)) (IntKind.i64.wrap (q+1)-1)).bind F) o5 S5):=by
            refine Lib.hid ?_
            cases o5 with
            | true=>exact hO.any _
            | false =>
              obtain⟨hxb,e1,e2⟩:=hqr rfl
              rw [IntWalk.i64_in (q+1) (by omega),show q+1-1=q from by omega]
              rw [← e1,← e2,if_pos hc.1,show max (tv-1) q=q from by omega] at hO
              exact hO
           have hb5:o5=false→1≤IntKind.i64.wrap (q+1)∧IntKind.i64.wrap (q+1)≤1048577:=fun ho=>by
            obtain⟨hxb,e1,e2⟩:=hqr ho
            rw [IntWalk.i64_in (q+1) (by omega)]
            omega
           clear hqr hc hO
           obtain⟨v,hv⟩:∃ v,IntKind.i64.wrap (q+1)=v:=⟨_,rfl⟩
           rw [hv] at hf hb5
           go_wp2_with fail
           refine⟨⟨j+1,v,o5,S5,by go_num,rfl,by omega,hb5,hP,hK,b1,hreg,fun _=>hD,hta5,hn0,hf⟩,?_⟩
           simp [intOf];omega
         · have hf:Hid (ROwes R encI B p w ((forP (fun j t=>(regR (regAt rs (1+(N:Int)+j)) m).bind fun x=>.ret (if x % 2=bc then max t (x / 2) else t)) (ranksFrom m (N-(j+1)) ((j:Int)+1)) (tv-1)).bind F) o5 S5):=by
            refine Lib.hid ?_
            cases o5 with
            | true=>exact hO.any _
            | false =>
              obtain⟨hxb,e1,e2⟩:=hqr rfl
              rw [← e1,← e2] at hO
              by_cases hrb:r=bc
              · rw [if_pos hrb,show max (tv-1) q=tv-1 from by omega] at hO
                exact hO
              · rw [if_neg hrb] at hO
                exact hO
           clear hqr hO
           have hd:(r==bc)=false∨(r==bc)=true∧decide (tv≤q)=false:=by
            by_cases hrb:r=bc
            · exact .inr ⟨by simpa using hrb,by simp;omega⟩
            · exact .inl (by simpa using hrb)
           clear hc
           rcases hd with d1 | ⟨d1,d2⟩
           · go_wp2_with fail
             refine⟨⟨j+1,tv,o5,S5,by go_num,rfl,by omega,fun _=>htv,hP,hK,b1,hreg,fun _=>hD,hta5,hn0,hf⟩,?_⟩
             simp [intOf];omega
           · go_wp2_with fail
             refine⟨⟨j+1,tv,o5,S5,by go_num,rfl,by omega,fun _=>htv,hP,hK,b1,hreg,fun _=>hD,hta5,hn0,hf⟩,?_⟩
             simp [intOf];omega
   · obtain rfl:N=j:=by omega
     have dj:decide ((N:Int)<(N:Int))=false:=by simp
     replace hO:=hOh.out
     rw [Nat.sub_self,ranks_zero,forP_nilB] at hO
     have hOh2:=Lib.hid hO
     clear hO hOh
     go_wp2_with fail
     go_meet
     exact⟨tv,o2,S2,rfl,htv,hP,hK,b1,hreg,hD,hta,hn0,hOh2⟩
 case rest =>
  clear hP hK b1 hreg hD hta hn0 hOh
  obtain⟨tv,o2,S2,rfl,htv,hP,hK,b1,hreg,hD,hta,hn0,hOh⟩:=hcut
  have hOF:=Lib.hid (show ROwes R encI B p w (bwThrough D rs N m bc (tv-1)) o2 S2 from by rw [← hFh.out];exact hOh.out)
  clear hOh
  replace hO:=hOF.out
  unfold bwThrough at hO
  rw [regAt_of (show (1:Int)+(m:Int)=((1+m:Nat):Int) from by omega) hrh.out.2.1,regAt_of (show (1:Int)+(N:Int)+(m:Int)=((1+N+m:Nat):Int) from by omega) hrh.out.2.2,show tv-1+1=tv from by omega] at hO
  have hOh:=Lib.hid hO
  clear hO hOF
  obtain⟨_,_,_,_,_,hcc⟩:=hP.cell
  go_upto_if 84 with fail
  go_cut [] (fun wx=>∃ (o3:Bool) (S3:TS),RAt B wx p o3 S3∧KeepR B p w wx∧HeldR wx p z (.cells #[.int .i64 alg,.int .i64 N,.int .i64 mode,.int .i64 base,.int .i64 loc,.int .i64 room] 23)∧RegsAt [3,4,5] wx p b rs∧(o3=false→S3.left<D)∧TameA S3∧S3.nts.length≤100001∧(o3=false→o2=false)∧Hid (ROwes R encI B p w ((regW rc m 0).bind fun _=>(nt 2).bind fun _=>bwIn D rs N m bc tv) o3 S3))
  case first =>
   cases o2 with
   | true =>
     go_wp2_with fail
     go_meet
     exact⟨true,S2,hP,hK,b1,hreg,hD,hta,hn0,(fun h=>by first | exact h | cases h),hOh.out.any _⟩
   | false =>
     replace htv:=htv rfl
     replace hD:=hD rfl
     have hw5:=IntWalk.i64_in (2*tv) (by omega)
     have hw6:=IntWalk.i64_in (2*tv+bc) (by omega)
     have c_b1:=b1.cells
     obtain⟨a0,a1,a2,a3,a4,a5,a6⟩:=hreg.nth hrh.out.2.2
     go_wp2_with fail
     clear a0 a1 a2 a3 a4 a5 a6 c_b1 hcc
     refine rstepA (notes_regW _ _ _) hOh.out hK (reg_write_r B p false S2 rm m (2*tv+bc) _ hP hokm ⟨by omega,hmm⟩) ?_
     clear hOh hK hP
     intro u o5 S5 wn htm hlf hdn hnn hP hk hK hO
     replace hta:=htm hta
     replace hD:=Nat.lt_of_le_of_lt hlf hD
     replace hn0:S5.nts.length≤100001:=by omega
     replace b1:=b1.keep hk
     replace hreg:=hreg.keep hk
     clear hk htm hnn hdn hlf
     have hOh:=Lib.hid hO
     clear hO
     go_wp2_with fail
     go_meet
     exact⟨o5,S5,hP,hK,b1,hreg,fun _=>hD,hta,hn0,(fun _=>by trivial),hOh⟩
  case rest =>
  clear hP hK b1 hreg hD hta hn0 hOh hcc
  obtain⟨o3,S3,hP,hK,b1,hreg,hD,hta,hn0,ho23,hOh⟩:=hcut
  obtain⟨_,_,_,_,_,hcc⟩:=hP.cell
  go_upto_if 104 with fail
  go_cut [] (fun wx=>∃ (o4:Bool) (S4:TS),RAt B wx p o4 S4∧KeepR B p w wx∧HeldR wx p z (.cells #[.int .i64 alg,.int .i64 N,.int .i64 mode,.int .i64 base,.int .i64 loc,.int .i64 room] 23)∧RegsAt [3,4,5] wx p b rs∧(o4=false→S4.left<D)∧TameA S4∧S4.nts.length≤100001∧(o4=false→o2=false)∧Hid (ROwes R encI B p w ((nt 2).bind fun _=>bwIn D rs N m bc tv) o4 S4))
  case first =>
   cases o3 with
   | true =>
     go_wp2_with fail
     go_meet
     exact⟨true,S3,hP,hK,b1,hreg,hD,hta,hn0,(fun h=>by cases h),hOh.out.any _⟩
   | false =>
     replace hD:=hD rfl
     have ho2:=ho23 rfl
     clear ho23
     obtain⟨a0,a1,a2,a3,a4,a5,a6⟩:=hreg.nth hrh.out.2.1
     go_wp2_with fail
     clear a0 a1 a2 a3 a4 a5 a6 hcc
     refine rstepA (notes_regW _ _ _) hOh.out hK (reg_write_r B p false S3 rc m 0 _ hP hokc ⟨by omega,hmc⟩) ?_
     clear hOh hK hP
     intro u o5 S5 wn htm hlf hdn hnn hP hk hK hO
     replace hta:=htm hta
     replace hD:=Nat.lt_of_le_of_lt hlf hD
     replace hn0:S5.nts.length≤100001:=by omega
     replace b1:=b1.keep hk
     replace hreg:=hreg.keep hk
     clear hk htm hnn hdn hlf
     have hOh:=Lib.hid hO
     clear hO
     go_wp2_with fail
     go_meet
     exact⟨o5,S5,hP,hK,b1,hreg,fun _=>hD,hta,hn0,fun _=>ho2,hOh⟩
  case rest =>
  clear hP hK b1 hreg hD hta hn0 hOh hcc ho23
  obtain⟨o4,S4,hP,hK,b1,hreg,hD,hta,hn0,ho24,hOh⟩:=hcut
  go_wp2_with fail
  refine rstepA (notes_nt 2) hOh.out hK (note_r B p o4 S4 2 _ hP (by unfold maxAns;omega)) ?_
  clear hOh hK hP
  intro u o5 S5 wn htm hlf hdn hnn hP hk hK hO
  replace hta:=htm hta
  have ho25:o5=false→o2=false:=fun h=>ho24 (hdn h).1
  replace hD:o5=false→S5.left<D:=fun h=>Nat.lt_of_le_of_lt hlf (hD (hdn h).1)
  replace hn0:S5.nts.length≤100002:=by omega
  replace b1:=b1.keep hk
  replace hreg:=hreg.keep hk
  clear hk htm hnn hdn hlf ho24
  obtain⟨G,hG⟩:∃ G:Unit→Prog Int,G=fun _=>(nt 3).bind fun _=>.ret 0:=⟨_,rfl⟩
  unfold bwIn at hO
  rw [← hG,Int.toNat_natCast] at hO
  have hOh:=Lib.hid hO
  have hGh:=Lib.hid hG
  clear hO hG
  go_upto_block 2 with fail
  go_cut [] (fun wx=>∃ (o3:Bool) (S3:TS),RAt B wx p o3 S3∧KeepR B p w wx∧HeldR wx p z (.cells #[.int .i64 alg,.int .i64 N,.int .i64 mode,.int .i64 base,.int .i64 loc,.int .i64 room] 23)∧RegsAt [3,4,5] wx p b rs∧(o3=false→S3.left<D)∧TameA S3∧S3.nts.length≤100002∧Hid (ROwes R encI B p w (G ()) o3 S3))
  case first =>
   go_wp2_with fail
   go_loopw [13] (fun i wr=>∃ (j:Nat) (o6:Bool) (S6:TS),i=.int .i64 j∧j≤N∧RAt B wr p o6 S6∧KeepR B p w wr∧HeldR wr p z (.cells #[.int .i64 alg,.int .i64 N,.int .i64 mode,.int .i64 base,.int .i64 loc,.int .i64 room] 23)∧RegsAt [3,4,5] wr p b rs∧(o6=false→S6.left<D)∧TameA S6∧S6.nts.length≤100002∧(o6=false→o2=false)∧Hid (ROwes R encI B p w ((forP (fun j _=>bwFor rs D N m j tv bc) (ranksFrom m (N-j) j) ()).bind G) o6 S6)) (fun i _=>N-(intOf i).toNat)
   case atStart=>exact⟨0,o5,S5,rfl,by omega,hP,hK,b1,hreg,hD,hta,hn0,ho25,hOh⟩
   case round =>
    clear hP hK b1 hreg hD hta hn0 hOh ho25
    obtain⟨j,o6,S6,rfl,hj,hP,hK,b1,hreg,hD,hta,hn0,ho26,hOh⟩:=hrel
    obtain⟨_,_,_,_,_,hcc⟩:=hP.cell
    have c_b1:=b1.cells
    by_cases hjN:j<N
    · have dj:decide ((j:Int)<(N:Int))=true:=by rw [decide_eq_true_eq];omega
      cases o6 with
      | true =>
        have hOh2:=Lib.hid (hOh.out.any (G ()))
        clear hOh
        go_wp2_with fail
        go_meet
        exact⟨true,S6,hP,hK,b1,hreg,hD,hta,hn0,hOh2⟩
      | false =>
        have ho2:=ho26 rfl
        replace htv:=htv ho2
        replace hD:=hD rfl
        clear ho26
        obtain⟨g,hg⟩:∃ g,N-j=g+1:=⟨N-j-1,by omega⟩
        by_cases hjm:j=m
        · subst hjm
          have djm:((j:Int) != (j:Int))=false:=by simp
          replace hO:=hOh.out
          rw [hg,ranks_skip,show g=N-(j+1) from by omega] at hO
          have hf:=Lib.hid hO
          clear hO hOh hg
          go_wp2_with fail
          refine⟨⟨j+1,false,S6,by go_num,by omega,hP,hK,b1,hreg,fun _=>hD,hta,hn0,fun _=>ho2,hf⟩,?_⟩
          simp [intOf];omega
        · have djm:((j:Int) != (m:Int))=true:=by rw [bne_iff_ne];omega
          have hw5:=IntWalk.i64_in (2*tv) (by omega)
          have hw6:=IntWalk.i64_in (2*tv+bc) (by omega)
          replace hO:=hOh.out
          rw [hg,ranks_cons _ _ _ (by omega),forP_consB,show g=N-(j+1) from by omega] at hO
          have hOh2:=Lib.hid hO
          clear hO hOh hg
          go_wp2_with fail
          clear hcc c_b1
          have hp1:IntKind.i64.wrap ((2*tv+bc).tdiv 2)=tv:=by
           rw [Int.tdiv_eq_ediv_of_nonneg (by omega),IntWalk.i64_in _ (by omega)]
           omega
          have hp2:(2*tv+bc).tmod 2=bc:=by
           rw [Int.tmod_eq_emod_of_nonneg (by omega)]
           omega
          refine rstepA (notes_bwFor _ _ _ _ _ _ _) hOh2.out hK (bwwait_r B p D N m j false S6 alg mode base loc room tv bc (2*tv+bc) b c rs _ hP hreg h1 h2 hm1 hjN hjm hlenh.out ⟨by omega,by omega⟩ hokh.out htoldh.out hta hD hp1 hp2) ?_
          clear hOh2 hK hP
          intro u o7 S7 wn htm hlf hdn hnn hP hk hK hO
          replace hta:=htm hta
          replace hD:=Nat.lt_of_le_of_lt hlf hD
          replace hn0:S7.nts.length≤100002:=by omega
          replace b1:=b1.keep hk
          replace hreg:=hreg.keep hk
          clear hk htm hnn hdn hlf hp1 hp2
          have hf:=Lib.hid hO
          clear hO
          go_wp2_with fail
          refine⟨⟨j+1,o7,S7,by go_num,by omega,hP,hK,b1,hreg,fun _=>hD,hta,hn0,fun _=>ho2,hf⟩,?_⟩
          simp [intOf];omega
    · obtain rfl:N=j:=by omega
      have dj:decide ((N:Int)<(N:Int))=false:=by simp
      replace hO:=hOh.out
      rw [Nat.sub_self,ranks_zero,forP_nilB] at hO
      have hOh2:=Lib.hid hO
      clear hO hOh
      go_wp2_with fail
      go_meet
      exact⟨o6,S6,hP,hK,b1,hreg,hD,hta,hn0,hOh2⟩
  case rest =>
  clear hP hK b1 hreg hD hta hn0 hOh ho25
  obtain⟨o6,S6,hP,hK,b1,hreg,hD,hta,hn0,hOh⟩:=hcut
  replace hO:=hOh.out
  rw [hGh.out] at hO
  clear hOh b1 hreg hD hta
  have hOh:=Lib.hid hO
  clear hO
  go_wp2_with fail
  refine rstepN (notes_nt 3) hOh.out hK (note_r B p o6 S6 3 _ hP (by unfold maxAns;omega)) ?_
  clear hOh hK hP
  intro u o7 S7 w7 _ _ _ hP _ hK hO
  have hf:R (.returned (encI 0)) w7:=hO.ret hP hK
  clear hO hP hK
  go_wp2_with fail
  first | exact hf | (go_ret;exact hf)
end Go.Proofs.YtbaajjkopdjbgaaGreat
namespace Kv
theorem filWait_succ (r v:Reg)(me level:Int)(n:Nat):filWait r v me level (n+1)=(regR r me).bind fun x=>if x<level then .ret () else (regR v me).bind fun y=>if y=me+1 then filWait r v me level n else .ret ():=rfl
end Kv
namespace Go.Proofs.YtbaajjkopdjbgaaGreat
open Go.RowKit Kv
set_option maxRecDepth 100000 in
set_option maxHeartbeats 1000000 in
theorem filwait_r (B p D:Nat)(o:Bool)(S:TS)(r v:Reg)(me level:Int)(w:World)(h:RAt B w p o S)(hr:r.ok)(hv:v.ok)(hm0:0≤me)(hm9:me≤100)(hmr:me<r.n)(hmv:me<v.n)(ht:r.told me)(hD:o=false→S.left<D) :
  Calls Tryz.prog 207 #[.pointer (some ⟨p,0,none⟩),encR r,encR v,.int .i64 me,.int .i64 level] w (RPost encU B p w (filWait r v me level D) o S):=by
 generalize hR:RPost encU B p w (filWait r v me level D) o S=R
 have hO:ROwes R encU B p w (filWait r v me level D) o S:=hR▸rowes _ _ _ _ _ _ _
 clear hR
 unfold encR
 obtain⟨b1,b2,hK,hP⟩:=h.entry2 (.cells #[.int .i64 r.kind,.int .i64 r.base,.int .i64 r.loc,.int .i64 r.n,.int .i64 r.wr,.int .i64 r.rd,.int .i64 r.top] 67) (.cells #[.int .i64 v.kind,.int .i64 v.base,.int .i64 v.loc,.int .i64 v.n,.int .i64 v.wr,.int .i64 v.rd,.int .i64 v.top] 67)
 have c_b1:=b1.cells
 have c_b2:=b2.cells
 clear h
 go_enter Tryz.func207,Tryz.ntmps207
 go_wp2_with fail
 clear c_b1 c_b2
 generalize hbb:w.heap.size=b at *
 generalize World.alloc (World.alloc _ _) _=W0 at *
 have hOh:=Lib.hid hO
 clear hO hbb
 go_loopw [] (fun wr=>∃ (n:Nat) (o2:Bool) (S2:TS),RAt B wr p o2 S2∧KeepR B p w wr∧HeldR wr p b (.cells #[.int .i64 r.kind,.int .i64 r.base,.int .i64 r.loc,.int .i64 r.n,.int .i64 r.wr,.int .i64 r.rd,.int .i64 r.top] 67)∧HeldR wr p (b+1) (.cells #[.int .i64 v.kind,.int .i64 v.base,.int .i64 v.loc,.int .i64 v.n,.int .i64 v.wr,.int .i64 v.rd,.int .i64 v.top] 67)∧Hid (ROwes R encU B p w (filWait r v me level n) o2 S2)∧(o2=false→S2.left<n)) (fun wr=>leftR wr p)
 case atStart=>exact⟨D,o,S,hP,hK,b1,b2,hOh,hD⟩
 case round =>
  clear hP hK b1 b2 hOh hD
  obtain⟨n,o2,S2,hP,hK,b1,b2,hO,hD⟩:=hrel
  replace hO:=hO.out
  have hlw:=Lib.hid hP.leftR
  obtain⟨_,_,_,_,_,hcc⟩:=hP.cell
  cases o2 with
  | true =>
    have hf:R (.returned (encU ())) wr:=hO.over () hP hK
    clear hO hP hK hD b1 b2
    go_wp2_with fail
    first | exact hf | (refine bodyPost_ret (results_none rfl _ _ _) rfl ?_;exact hf)
  | false =>
    have hD:=hD rfl
    cases n with
    | zero=>omega
    | succ n =>
      rw [filWait_succ] at hO
      have c_b1:=b1.cells
      have hOh:=Lib.hid hO
      clear hO
      go_wp2_with fail
      replace hO:=hOh.out
      clear hcc c_b1 hOh
      refine rstepL hO hK (reg_read_r B p false S2 r me _ hP hr ⟨hm0,hmr⟩) ?_
      clear hO hK hP
      intro x o3 S3 w4 hlf hlt hP hk hK hO
      replace b1:=b1.keep hk
      replace b2:=b2.keep hk
      clear hk
      obtain⟨_,_,_,_,_,hcc⟩:=hP.cell
      by_cases hx:x<level
      · have dx:decide (x<level)=true:=by simpa using hx
        rw [if_pos hx] at hO
        have hf:R (.returned (encU ())) w4:=hO.ret hP hK
        clear hO hP hK hcc hx b1 b2
        go_wp2_with fail
        first | exact hf | (refine bodyPost_ret (results_none rfl _ _ _) rfl ?_;exact hf)
      · have dx:decide (x<level)=false:=by simpa using hx
        rw [if_neg hx] at hO
        clear hx
        cases o3 with
        | true =>
          have hlw2:=Lib.hid hP.leftR
          have hOh:=Lib.hid hO
          clear hO
          go_wp2_with fail
          refine⟨⟨n,true,S3,hP,hK,b1,b2,hOh.out.any _,fun h=>by cases h⟩,?_⟩
          rw [hlw.out,hlw2.out]
          simp
          omega
        | false =>
          replace hlt:=(hlt rfl).2 (asks_regR _ _ ht)
          have c_b2:=b2.cells
          have hOh:=Lib.hid hO
          clear hO
          go_wp2_with fail
          replace hO:=hOh.out
          clear hcc c_b2 hOh
          refine rstepL hO hK (reg_read_r B p false S3 v me _ hP hv ⟨hm0,hmv⟩) ?_
          clear hO hK hP
          intro y o4 S4 w5 hlf4 _ hP hk hK hO
          replace b1:=b1.keep hk
          replace b2:=b2.keep hk
          clear hk
          by_cases hy:y=me+1
          · have dy:(y != me+1)=false:=by simpa using hy
            rw [if_pos hy] at hO
            have hlw2:=Lib.hid hP.leftR
            have hOh:=Lib.hid hO
            clear hO hy
            go_wp2_with fail
            refine⟨⟨n,o4,S4,hP,hK,b1,b2,hOh,fun _=>by omega⟩,?_⟩
            rw [hlw.out,hlw2.out]
            simp only [Bool.false_eq_true,if_false]
            split <;> omega
          · have dy:(y != me+1)=true:=by simpa using hy
            rw [if_neg hy] at hO
            have hf:R (.returned (encU ())) w5:=hO.ret hP hK
            clear hO hP hK hy b1 b2
            go_wp2_with fail
            first | exact hf | (refine bodyPost_ret (results_none rfl _ _ _) rfl ?_;exact hf)
end Go.Proofs.YtbaajjkopdjbgaaGreat
