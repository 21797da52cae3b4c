/-
  RwRowSaid: part 7 of its proof.
-/
import Derived.Test.YtbaajjkopdjbgaaGreatJRwRowSaid6
import Derived.BigQuiet
import Derived.Deep.QuietTactic
open Go.Value renaming int -> V
open Go.IntKind renaming i64 -> Z
namespace Go.Proofs.YtbaajjkopdjbgaaGreat
open Go.RowKit Kv
theorem halves_p (x:Int)(w:World)(h:0<=x)(h2:x<=1048576):Calls Tryz.prog 246 #[V Z x] w fun e w'=>e=.returned (.tuple #[V Z (x / 2),V Z (x % 2)])/\w=w':=by
 have e1:IntKind.i64.wrap (x.tdiv 2)=x / 2:=by
  rw [Int.tdiv_eq_ediv_of_nonneg h]
  exact IntWalk.i64_in _ (by omega)
 go_enter Tryz.func246,Tryz.ntmps246
 go_wp2_with fail
 first | go_ret2 | go_ret
 exact⟨rfl,rfl⟩
set_option maxRecDepth 100000 in
set_option maxHeartbeats 4000000 in
theorem bwacq_p (B p N D:Nat)(S:TS)(alg mode base loc room:Int)(m:Nat)(rs:List Reg)(w:World)(h:Plays B w p S)(h1:1<=N)(h2:N<=8)(hm1:m<N)(hl:layM (bwWants N) N mode base loc=some rs)(hlc:0<=loc/\loc<=32768)
  (hok:∀ r∈rs,r.ok/\r.n=N)(htold:∀ (i:Nat) r,rs[i]?=some r->i≠1+m->i≠1+N+m->2<=N->r.told m)(hta:TameA S)(hD:S.left<D)(hn0:S.nts.length<=100000) :
  Calls Tryz.prog 186 #[.pointer (some ⟨p,0,none⟩),.agg #[V Z alg,V Z N,V Z mode,V Z base,V Z loc,V Z room],V Z m] w (Post encI B p w ((bwA D rs (loc+sumL rs) N m).run S)):=by
 have hlen:=layM_len hl
 rw [bwWants_len] at hlen
 generalize hR:Post encI B p w ((bwA D rs (loc+sumL rs) N m).run S)=R
 have hO:Owes R encI B p w ((bwA D rs (loc+sumL rs) N m).run S):=hR▸owes _ _ _ _ _
 clear hR
 obtain⟨b1,hK,hP⟩:=h.entry (.cells #[V Z alg,V Z N,V Z mode,V Z base,V Z loc,V Z room] 23)
 have c_b1:=b1.cells;clear h;rw [bwA_eq] at hO
 obtain⟨r0,hr0⟩:∃ r,rs[0]?=some r:=⟨_,List.getElem?_eq_getElem (by omega)⟩
 obtain⟨rc,hrc⟩:∃ r,rs[1+m]?=some r:=⟨_,List.getElem?_eq_getElem (by omega)⟩
 obtain⟨rm,hrm⟩:∃ r,rs[1+N+m]?=some r:=⟨_,List.getElem?_eq_getElem (by omega)⟩
 have hok0:=(hok _ (List.mem_of_getElem? hr0)).1
 have hm0':(m:Int)<r0.n:=by rw [(hok _ (List.mem_of_getElem? hr0)).2];omega
 have hokc:=(hok _ (List.mem_of_getElem? hrc)).1
 have hmc:(m:Int)<rc.n:=by rw [(hok _ (List.mem_of_getElem? hrc)).2];omega
 have hokm:=(hok _ (List.mem_of_getElem? hrm)).1
 have hmm:(m:Int)<rm.n:=by rw [(hok _ (List.mem_of_getElem? hrm)).2];omega
 rw [regAt_of (show (0:Int)=((0:Nat):Int) from rfl) hr0,regAt_of (show (1:Int)+(m:Int)=((1+m:Nat):Int) from by omega) hrc] at hO
 have hmN:(m:Int)<(N:Int):=by omega
 have hrh:=Hd (And.intro hr0 (And.intro hrc hrm))
 have hlM:=Hd hl
 have hlenh:=Hd hlen
 have hokh:=Hd hok
 have htoldh:=Hd htold
 clear hlen hr0 hrc hrm hok hl htold;have hOh:=Hd hO;clear hO
 go_enter Tryz.func186,Tryz.ntmps186
 go_wp2_with fail
 refine (bwlay_p alg mode base loc room m N rs _ h1 h2 hlM.out hlc (by omega) (by omega) r0 hrh.out.1).mono ?_
 rintro e w1 ⟨b,c1,c2,rfl,hge,hb,hcells,hx⟩
 have hreg:RegsAt [2,3,4] w1 p b rs:=⟨hb,hP.fresh hx hge,hcells⟩
 replace hK:=hK.trans (Keep.of_ext hx hP.lt hP.le);replace hP:=hP.ext hx;clear hx hcells hge hb c_b1 b1
 generalize w.heap.size=z0 at *
 obtain⟨obj,hobj⟩:∃ obj,obj=Obj.cells #[V Z r0.kind,V Z r0.base,V Z r0.loc,V Z r0.n,V Z r0.wr,V Z r0.rd,V Z r0.top,.slice (some ⟨b,7,none⟩) N c1,.slice (some ⟨b,(1+N)*7,none⟩) N c2,V Z (loc+sumL rs)] 187:=⟨_,rfl⟩
 have g1:=hP.held obj
 replace hreg:=hreg.extL ((Ext.refl w1).alloc obj) hP.lt
 replace hK:=hK.trans (Keep.alloc obj hP.lt hP.le)
 replace hP:=hP.alloc obj
 rw [hobj] at g1 hreg hK hP
 clear hobj obj;go_wp2_with fail
 generalize w1.heap.size=z at *
 generalize w1.alloc _=W at *
 refine tstepA (notes_nt 1) hOh.out hK (noteO hP (by unfold maxAns;omega)) (fun _ h=>⟨rfl,h⟩) ?_
 clear hOh hK hP;intro u S1 w2 hrun hlf _ hnn hP hk hK hO;replace hD:=Nat.lt_of_le_of_lt hlf hD
 replace hn0:S1.nts.length<=100001:=by omega
 replace hta:=hta.run hrun;replace hreg:=hreg.keep hk;replace g1:=g1.keep hk;clear hk hrun hlf hnn;have hOh:=Hd hO;clear hO;have c_g:=g1.cells
 obtain⟨a0,a1,a2,a3,a4,a5,a6⟩:=hreg.nth hrh.out.2.1
 have hsh:(1+m)*7=7+m*7:=by omega
 rw [hsh] at a0 a1 a2 a3 a4 a5 a6
 go_wp2_with fail
 clear a0 a1 a2 a3 a4 a5 a6 c_g
 refine tstepA (notes_regW _ _ _) hOh.out hK (reg_write_p B p S1 rc m 1 _ hP hokc ⟨by omega,hmc⟩) (fun _ h=>⟨rfl,h⟩) ?_
 clear hOh hK hP;intro u S2 w3 hrun hlf _ hnn hP hk hK hO;replace hD:=Nat.lt_of_le_of_lt hlf hD
 replace hn0:S2.nts.length<=100001:=by omega
 replace hta:=hta.run hrun;replace hreg:=hreg.keep hk;replace g1:=g1.keep hk;clear hk hrun hlf hnn;have hOh:=Hd hO;clear hO;have c_g:=g1.cells;go_wp2_with fail
 clear c_g
 refine tstepA (notes_regR _ _) hOh.out hK (reg_read_p B p S2 r0 m _ hP hok0 ⟨by omega,hm0'⟩) (fun _ h=>⟨rfl,h⟩) ?_
 clear hOh hK hP;intro y S3 w4 hrun hlf _ hnn hP hk hK hO;replace hD:=Nat.lt_of_le_of_lt hlf hD
 replace hn0:S3.nts.length<=100001:=by omega
 replace hta:=hta.run hrun;replace hreg:=hreg.keep hk;replace g1:=g1.keep hk;clear hk hrun hlf hnn;have hOh:=Hd hO;clear hO;go_wp2_with fail
 refine (bwbit_p y _).mono ?_
 rintro e w' ⟨rfl,rfl⟩
 have hbx:bitM y=0∨bitM y=1:=by unfold bitM;split <;> simp
 generalize bitM y=bc at *
 have c_g:=g1.cells;go_wp2_with fail
 clear c_g
 refine tstepA (notes_st _ _) hOh.out hK (setO hP) (fun _ h=>⟨rfl,h⟩) ?_
 clear hOh hK hP;intro u S4 w5 hrun hlf _ hnn hP hk hK hO;replace hD:=Nat.lt_of_le_of_lt hlf hD
 replace hn0:S4.nts.length<=100001:=by omega
 replace hta:=hta.run hrun;replace hreg:=hreg.keep hk;replace g1:=g1.keep hk;clear hk hrun hlf hnn;have hOh:=Hd hO;clear hO;have c_g:=g1.cells;go_wp2_with fail
 obtain⟨F,hF⟩:∃ F:Int->Prog Int,F=bwThrough D rs N m bc:=⟨_,rfl⟩
 replace hO:=hOh.out
 rw [<- hF,Int.toNat_natCast] at hO
 clear hOh;have hOh:=Hd hO
 have hFh:=Hd hF
 clear hO hF c_g
 go_loopw [10,51] (fun u i wr=>∃ (j:Nat) (tv:Int) (S5:TS),i=V Z j/\u=V Z tv/\0<=tv/\tv<=1048576/\j<=N/\Plays B wr p S5/\KeepP B p w wr/\RegsAt [2,3,4] wr p b rs/\HeldP wr p z (.cells #[V Z r0.kind,V Z r0.base,V Z r0.loc,V Z r0.n,V Z r0.wr,V Z r0.rd,V Z r0.top,.slice (some ⟨b,7,none⟩) N c1,.slice (some ⟨b,(1+N)*7,none⟩) N c2,V Z (loc+sumL rs)] 187)/\S5.left<D/\S5.nts.length<=100001/\TameA S5/\Hid (Owes R encI B p w (((forP (fun j t=>(regR (regAt rs (1+(N:Int)+j)) m).bind fun x=>.ret (if x % 2=bc then max t (x / 2) else t)) (ranksFrom m (N-j) j) tv).bind F).run S5))) (fun _ i _=>N-(intOf i).toNat)
 case atStart=>exact⟨0,0,S4,rfl,rfl,by omega,by omega,by omega,hP,hK,hreg,g1,hD,hn0,hta,hOh⟩
 case round =>
  clear hP hK hreg g1 hD hn0 hta hOh
  obtain⟨j,tv,S5,rfl,rfl,ht0,ht1,hj,hP,hK,hreg,g1,hD,hn0,hta,hO⟩:=hrel
  replace hO:=hO.out
  by_cases hjN:j<N
  · have dj:decide ((j:Int)<(N:Int))=true:=by rw [decide_eq_true_eq];omega
    obtain⟨g,hg⟩:∃ g,N-j=g+1:=⟨N-j-1,by omega⟩
    obtain⟨rj,hrj⟩:∃ r,rs[1+N+j]?=some r:=⟨_,List.getElem?_eq_getElem (by have:=hlenh.out;omega)⟩
    have hokj:=(hokh.out _ (List.mem_of_getElem? hrj)).1
    have hmj:(m:Int)<rj.n:=by rw [(hokh.out _ (List.mem_of_getElem? hrj)).2];omega
    have hsj:(1+N+j)*7=(1+N)*7+j*7:=by omega
    obtain⟨a0,a1,a2,a3,a4,a5,a6⟩:=hreg.nth hrj
    rw [hsj] at a0 a1 a2 a3 a4 a5 a6
    have bn:=hP.held (.cells #[V Z rj.kind,V Z rj.base,V Z rj.loc,V Z rj.n,V Z rj.wr,V Z rj.rd,V Z rj.top] 67)
    have hKn:=hK.trans (Keep.alloc (.cells #[V Z rj.kind,V Z rj.base,V Z rj.loc,V Z rj.n,V Z rj.wr,V Z rj.rd,V Z rj.top] 67) hP.lt hP.le)
    have hPn:=hP.alloc (.cells #[V Z rj.kind,V Z rj.base,V Z rj.loc,V Z rj.n,V Z rj.wr,V Z rj.rd,V Z rj.top] 67)
    have g1n:=g1.alloc (.cells #[V Z rj.kind,V Z rj.base,V Z rj.loc,V Z rj.n,V Z rj.wr,V Z rj.rd,V Z rj.top] 67) hP.lt
    have hregn:=hreg.extL ((Ext.refl wr).alloc (.cells #[V Z rj.kind,V Z rj.base,V Z rj.loc,V Z rj.n,V Z rj.wr,V Z rj.rd,V Z rj.top] 67)) hP.lt
    have c_bn:=bn.cells
    by_cases hjm:j=m
    · subst hjm
      rw [hg,ranks_skip,show g=N-(j+1) from by omega] at hO
      have hf:=Hd hO
      clear hO hg hK hP g1 hreg
      have djm:((j:Int)==(j:Int))=true:=by simp
      go_wp2_with fail
      refine⟨⟨j+1,tv,S5,by go_num,rfl,ht0,ht1,by omega,hPn,hKn,hregn,g1n,by omega,by omega,hta,hf⟩,?_⟩
      simp [intOf];omega
    · have djm:((j:Int)==(m:Int))=false:=by rw [beq_eq_false_iff_ne];omega
      have htj:=htoldh.out _ rj hrj (by omega) (by omega) (by omega)
      rw [hg,ranks_cons _ _ _ (by omega),bwMost_cons,regAt_of (show (1:Int)+(N:Int)+(j:Int)=((1+N+j:Nat):Int) from by omega) hrj,show g=N-(j+1) from by omega] at hO
      have hOh:=Hd hO;clear hO hg hK hP g1 hreg hrj;go_wp2_with fail
      clear a0 a1 a2 a3 a4 a5 a6 c_bn bn
      refine tstepA (notes_regR _ _) hOh.out hKn (reg_read_p B p S5 rj m _ hPn hokj ⟨by omega,hmj⟩) (fun _ h=>⟨rfl,h⟩) ?_
      clear hOh hKn hPn;intro x S6 w6 hrun hlf _ hnn hP hk hK hO
      have hxb:=regR_bd hokj (told_ne htj) hta hrun
      replace hta:=hta.run hrun;replace hreg:=hregn.keep hk;replace g1:=g1n.keep hk;clear hregn g1n hrun hk;have hOh:=Hd hO;clear hO;go_wp2_with fail
      refine (halves_p x _ hxb.1 hxb.2).mono ?_
      rintro e w' ⟨rfl,rfl⟩
      by_cases hc:x % 2=bc
      · have dc:(x % 2==bc)=true:=by rw [beq_iff_eq];exact hc
        replace hO:=hOh.out;rw [if_pos hc] at hO
        have hf:=Hd hO
        clear hOh hO hc
        have hx2:0<=max tv (x / 2)/\max tv (x / 2)<=1048576:=by omega
        go_wp2_with fail
        refine⟨⟨j+1,max tv (x / 2),S6,by go_num,?_,hx2.1,hx2.2,by omega,hP,hK,hreg,g1,by omega,by omega,hta,hf⟩,?_⟩
        · rfl
        · simp [intOf];omega
      · have dc:(x % 2==bc)=false:=by rw [beq_eq_false_iff_ne];exact hc
        replace hO:=hOh.out;rw [if_neg hc] at hO
        have hf:=Hd hO
        clear hOh hO hc;go_wp2_with fail
        refine⟨⟨j+1,tv,S6,by go_num,rfl,ht0,ht1,by omega,hP,hK,hreg,g1,by omega,by omega,hta,hf⟩,?_⟩
        simp [intOf];omega
  · obtain rfl:N=j:=by omega
    have dj:decide ((N:Int)<(N:Int))=false:=by simp
    rw [Nat.sub_self,ranks_zero,forP_nilB,hFh.out] at hO;unfold bwThrough at hO
    rw [regAt_of (show (1:Int)+(m:Int)=((1+m:Nat):Int) from by omega) hrh.out.2.1,regAt_of (show (1:Int)+(N:Int)+(m:Int)=((1+N+m:Nat):Int) from by omega) hrh.out.2.2] at hO
    have hOh:=Hd hO;clear hO
    have hw1:=IntWalk.i64_in (tv+1) (by omega)
    have hw2:=IntWalk.i64_in (2*(tv+1)) (by omega)
    have hw3:=IntWalk.i64_in (2*(tv+1)+bc) (by omega)
    have hsm:(1+N+m)*7=(1+N)*7+m*7:=by omega
    obtain⟨a0,a1,a2,a3,a4,a5,a6⟩:=hreg.nth hrh.out.2.2
    rw [hsm] at a0 a1 a2 a3 a4 a5 a6
    have c_g:=g1.cells;go_wp2_with fail
    clear a0 a1 a2 a3 a4 a5 a6 c_g
    refine tstepA (notes_regW _ _ _) hOh.out hK (reg_write_p B p S5 rm m (2*(tv+1)+bc) _ hP hokm ⟨by omega,hmm⟩) (fun _ h=>⟨rfl,h⟩) ?_
    clear hOh hK hP;intro u S6 wn hrun hlf _ hnn hP hk hK hO;replace hD:=Nat.lt_of_le_of_lt hlf hD
    replace hn0:S6.nts.length<=100001:=by omega
    replace hta:=hta.run hrun;replace hreg:=hreg.keep hk;replace g1:=g1.keep hk;clear hk hrun hlf hnn;have hOh:=Hd hO;clear hO;have c_g:=g1.cells
    obtain⟨a0,a1,a2,a3,a4,a5,a6⟩:=hreg.nth hrh.out.2.1
    rw [hsh] at a0 a1 a2 a3 a4 a5 a6
    go_wp2_with fail
    clear a0 a1 a2 a3 a4 a5 a6 c_g
    refine tstepA (notes_regW _ _ _) hOh.out hK (reg_write_p B p S6 rc m 0 _ hP hokc ⟨by omega,hmc⟩) (fun _ h=>⟨rfl,h⟩) ?_
    clear hOh hK hP;intro u S7 wn hrun hlf _ hnn hP hk hK hO;replace hD:=Nat.lt_of_le_of_lt hlf hD
    replace hn0:S7.nts.length<=100001:=by omega
    replace hta:=hta.run hrun;replace hreg:=hreg.keep hk;replace g1:=g1.keep hk;clear hk hrun hlf hnn;have hOh:=Hd hO;clear hO;go_wp2_with fail
    refine tstepA (notes_nt 2) hOh.out hK (noteO hP (by unfold maxAns;omega)) (fun _ h=>⟨rfl,h⟩) ?_
    clear hOh hK hP;intro u S8 wn hrun hlf _ hnn hP hk hK hO;replace hD:=Nat.lt_of_le_of_lt hlf hD
    replace hn0:S8.nts.length<=100002:=by omega
    replace hta:=hta.run hrun;replace hreg:=hreg.keep hk;replace g1:=g1.keep hk;clear hk hrun hlf hnn;have hOh:=Hd hO;clear hO;have c_g:=g1.cells
    obtain⟨G,hG⟩:∃ G:Unit->Prog Int,G=fun _=>(nt 3).bind fun _=>.ret 0:=⟨_,rfl⟩
    replace hO:=hOh.out;unfold bwIn at hO
    rw [<- hG,Int.toNat_natCast] at hO
    clear hOh;have hOh:=Hd hO
    have hGh:=Hd hG
    clear hO hG
    generalize hT:tv+1=T at *
    have hT0:1<=T/\T<=1048577:=by omega
    clear hT hw1 hw2 hw3;go_wp2_with fail
    clear c_g
    go_loopw [101] (fun i wr=>∃ (j:Nat) (S5:TS),i=V Z j/\j<=N/\Plays B wr p S5/\KeepP B p w wr/\RegsAt [2,3,4] wr p b rs/\HeldP wr p z (.cells #[V Z r0.kind,V Z r0.base,V Z r0.loc,V Z r0.n,V Z r0.wr,V Z r0.rd,V Z r0.top,.slice (some ⟨b,7,none⟩) N c1,.slice (some ⟨b,(1+N)*7,none⟩) N c2,V Z (loc+sumL rs)] 187)/\S5.left<D/\S5.nts.length<=100002/\TameA S5/\Hid (Owes R encI B p w (((forP (fun j _=>bwFor rs D N m j T bc) (ranksFrom m (N-j) j) ()).bind G).run S5))) (fun i _=>N-(intOf i).toNat)
    case atStart=>exact⟨0,S8,rfl,by omega,hP,hK,hreg,g1,hD,hn0,hta,hOh⟩
    case round =>
     clear hP hK hreg g1 hD hn0 hta hOh
     obtain⟨j,S5,rfl,hj,hP,hK,hreg,g1,hD,hn0,hta,hOh⟩:=hrel
     by_cases hjN:j<N
     · have dj:decide ((j:Int)<(N:Int))=true:=by rw [decide_eq_true_eq];omega
       obtain⟨g,hg⟩:∃ g,N-j=g+1:=⟨N-j-1,by omega⟩
       go_wp2_with fail
       rename_i hKK
       replace hKK:=Hd hKK
       by_cases hjm:j=m
       · subst hjm
         replace hO:=hOh.out
         rw [hg,ranks_skip,show g=N-(j+1) from by omega] at hO
         have hf:=Hd hO
         clear hO hOh hg
         have djm:((j:Int)==(j:Int))=true:=by simp
         refine wp_scope_straight ?_
         go_wp2_with fail
         refine hKK.out _ _ ?_
         go_wp2_with fail
         refine⟨⟨j+1,S5,by go_num,by omega,hP,hK,hreg,g1,by omega,by omega,hta,hf⟩,?_⟩
         simp [intOf];omega
       · have djm:((j:Int)==(m:Int))=false:=by rw [beq_eq_false_iff_ne];omega
         obtain⟨rh,hrh1⟩:∃ r,rs[1+j]?=some r:=⟨_,List.getElem?_eq_getElem (by have:=hlenh.out;omega)⟩
         obtain⟨rj,hrj⟩:∃ r,rs[1+N+j]?=some r:=⟨_,List.getElem?_eq_getElem (by have:=hlenh.out;omega)⟩
         have hokx:=(hokh.out _ (List.mem_of_getElem? hrh1)).1
         have hmx:(m:Int)<rh.n:=by rw [(hokh.out _ (List.mem_of_getElem? hrh1)).2];omega
         have hokj:=(hokh.out _ (List.mem_of_getElem? hrj)).1
         have hmj:(m:Int)<rj.n:=by rw [(hokh.out _ (List.mem_of_getElem? hrj)).2];omega
         have htx:=htoldh.out _ rh hrh1 (by omega) (by omega) (by omega)
         have htj:=htoldh.out _ rj hrj (by omega) (by omega) (by omega)
         obtain⟨H,hH⟩:∃ H:Unit->Prog Int,H=fun _=>(forP (fun j _=>bwFor rs D N m j T bc) (ranksFrom m (N-(j+1)) ((j:Int)+1)) ()).bind G:=⟨_,rfl⟩
         replace hO:=hOh.out
         rw [hg,ranks_cons _ _ _ (by omega),forP_consB,show g=N-(j+1) from by omega,bwFor_bind,regAt_of (show (1:Int)+(j:Int)=((1+j:Nat):Int) from by omega) hrh1,<- hH] at hO
         have hHh:=Hd hH
         have hOh2:=Hd hO
         have hrjh:=Hd (And.intro hrh1 hrj)
         clear hO hOh hg hH hrh1 hrj
         obtain⟨J0,hJ0⟩:∃ J0:World->Prop,∀ wr,J0 wr↔∃ (n:Nat) (S6:TS),Plays B wr p S6/\KeepP B p w wr/\RegsAt [2,3,4] wr p b rs/\HeldP wr p z (.cells #[V Z r0.kind,V Z r0.base,V Z r0.loc,V Z r0.n,V Z r0.wr,V Z r0.rd,V Z r0.top,.slice (some ⟨b,7,none⟩) N c1,.slice (some ⟨b,(1+N)*7,none⟩) N c2,V Z (loc+sumL rs)] 187)/\S6.left<D/\S6.nts.length<=100002/\TameA S6/\S6.left<n/\Hid (Owes R encI B p w (((zeroP rh m n).bind fun _=>(bwWait rs N m j T bc D).bind H).run S6)):=⟨_,fun _=>Iff.rfl⟩
         obtain⟨J1,hJ1⟩:∃ J1:World->Prop,∀ wr,J1 wr↔∃ (n:Nat) (S6:TS),Plays B wr p S6/\KeepP B p w wr/\RegsAt [2,3,4] wr p b rs/\HeldP wr p z (.cells #[V Z r0.kind,V Z r0.base,V Z r0.loc,V Z r0.n,V Z r0.wr,V Z r0.rd,V Z r0.top,.slice (some ⟨b,7,none⟩) N c1,.slice (some ⟨b,(1+N)*7,none⟩) N c2,V Z (loc+sumL rs)] 187)/\S6.left<D/\S6.nts.length<=100002/\TameA S6/\S6.left<n/\Hid (Owes R encI B p w (((bwWait rs N m j T bc n).bind H).run S6)):=⟨_,fun _=>Iff.rfl⟩
         refine wp_scope_mask [false,false,false,false,false,false,false,false,false,false,false,false,false,false,false,false,true,true,false,false,false,false,false,false,false,false,false,false,false,false,false,false,false,false,false,false,false,false,false,false,false,false,false,false,false,false,false,false,false,false,false,false,false,false,false,false,false,false,false,false,false,false,false,false,false,false,false,false,false,false,false,false,false,false,false,false,false,false,false,false,false,false,false,false,false,false,false,false,false,false,false,false,false,false,false,false,false,false,false,false,false,false,false,false,true,true,true,true,true,true,true,true,true,true,true,true,true,true,true,true,true,true,true,true,true,true,true,true,true,true,true,true,true,true,true,true,true,true,true,true,true,true,true,true,true,true,true,true,true,true,true,true,true,true,true,true,true,true,true,true,true,true,true,true] (fun l wr=>l=0/\J0 wr∨l=1/\J1 wr) (fun _ wr=>leftW 1 3 wr p) ?pass ?first
         case first =>
          intro hfall
          refine (fun (hfall:Hid _)=>?_) (Hd hfall)
          go_wp2_with fail
          refine wp_label ?_
          rename_i hKK2
          replace hKK2:=Hd hKK2
          refine hKK2.out _ _ ?_
          exact hfall.out 0 _ _ _ rfl ⟨rfl,rfl,rfl⟩ (.inl ⟨rfl,(hJ0 _).2 ⟨D,S5,hP,hK,hreg,g1,hD,hn0,hta,hD,hOh2⟩⟩)
         case pass =>
          clear hP hK hreg g1 hD hn0 hta hOh2;intro l wq hrel ih
          refine (fun (ih:Hid _)=>?_) (Hd ih)
          dsimp only [FrG]
          intro u16 u17 u104 u105 u106 u107 u108 u109 u110 u111 u112 u113 u114 u115 u116 u117 u118 u119 u120 u121 u122 u123 u124 u125 u126 u127 u128 u129 u130 u131 u132 u133 u134 u135 u136 u137 u138 u139 u140 u141 u142 u143 u144 u145 u146 u147 u148 u149 u150 u151 u152 u153 u154 u155 u156 u157 u158 u159 u160 u161 u162 u163
          rcases hrel with⟨rfl,hrel⟩ | ⟨rfl,hrel⟩
          · rw [hJ0] at hrel
            obtain⟨n,S6,hP,hK,hreg,g1,hD,hn0,hta,hDn,hOh⟩:=hrel
            cases n with
            | zero=>omega
            | succ n =>
              refine⟨_,rfl,?_⟩
              replace hO:=hOh.out;rw [zeroP_bind] at hO;clear hOh;have hOh:=Hd hO;clear hO
              have hlw:=Hd hP.left
              have c_g:=g1.cells
              obtain⟨a0,a1,a2,a3,a4,a5,a6⟩:=hreg.nth hrjh.out.1
              rw [show (1+j)*7=7+j*7 from by omega] at a0 a1 a2 a3 a4 a5 a6
              go_wp2_with fail
              clear a0 a1 a2 a3 a4 a5 a6 c_g
              refine tstepA (notes_regR _ _) hOh.out hK (reg_read_p B p S6 rh m _ hP hokx ⟨by omega,hmx⟩) (fun _ h=>⟨rfl,h⟩) ?_
              clear hOh hK hP;intro x S7 wn hrun hlf hla hnn hP hk hK hO
              have hlt:=hla (asks_regR _ _ htx)
              replace hD:=Nat.lt_of_le_of_lt hlf hD;replace hn0:=Nat.le_trans hnn hn0;replace hreg:=hreg.keep hk;replace g1:=g1.keep hk;replace hta:=hta.run hrun;clear hk hnn hrun hlf
              have hlw2:=Hd hP.left
              by_cases hx:x=0
              · have dx:(x != 0)=false:=by simpa using hx
                rw [if_pos hx] at hO;have hOh:=Hd hO;clear hO hx;go_wp2_with fail
                refine wp_label ?_
                rename_i hKK2
                replace hKK2:=Hd hKK2
                refine hKK2.out _ _ ?_
                refine ih.out 1 _ _ _ rfl ⟨rfl,rfl,rfl⟩ (.inr ⟨rfl,(hJ1 _).2 ⟨D,S7,hP,hK,hreg,g1,hD,hn0,hta,hD,hOh⟩⟩) ?_
                rw [hlw.out,hlw2.out]
                exact hlt
              · have dx:(x != 0)=true:=by simpa using hx
                rw [if_neg hx] at hO;have hOh:=Hd hO;clear hO hx;go_wp2_with fail
                refine wp_goto ?_
                refine And.intro ⟨⟨rfl,rfl,rfl⟩,.inl ⟨rfl,(hJ0 _).2 ⟨n,S7,hP,hK,hreg,g1,hD,hn0,hta,by omega,hOh⟩⟩⟩ ?_
                rw [hlw.out,hlw2.out]
                exact hlt
          · rw [hJ1] at hrel
            obtain⟨n,S6,hP,hK,hreg,g1,hD,hn0,hta,hDn,hOh⟩:=hrel
            cases n with
            | zero=>omega
            | succ n =>
              refine⟨_,rfl,?_⟩
              replace hO:=hOh.out
              rw [bwWait_bind,regAt_of (show (1:Int)+(N:Int)+(j:Int)=((1+N+j:Nat):Int) from by omega) hrjh.out.2,regAt_of (show (0:Int)=((0:Nat):Int) from rfl) hrh.out.1] at hO
              clear hOh;have hOh:=Hd hO;clear hO
              have hlw:=Hd hP.left
              have c_g:=g1.cells
              obtain⟨a0,a1,a2,a3,a4,a5,a6⟩:=hreg.nth hrjh.out.2
              rw [show (1+N+j)*7=(1+N)*7+j*7 from by omega] at a0 a1 a2 a3 a4 a5 a6
              go_wp2_with fail
              clear a0 a1 a2 a3 a4 a5 a6 c_g
              refine tstepA (notes_regR _ _) hOh.out hK (reg_read_p B p S6 rj m _ hP hokj ⟨by omega,hmj⟩) (fun _ h=>⟨rfl,h⟩) ?_
              clear hOh hK hP;intro x S7 wn hrun hlf hla hnn hP hk hK hO
              have hlt:=hla (asks_regR _ _ htj)
              have hxb:=regR_bd hokj (told_ne htj) hta hrun
              replace hD:=Nat.lt_of_le_of_lt hlf hD;replace hn0:=Nat.le_trans hnn hn0;replace hreg:=hreg.keep hk;replace g1:=g1.keep hk;replace hta:=hta.run hrun;clear hk hnn hrun
              have hlt2:S7.left<n:=by omega
              clear hla hlf;have hOh:=Hd hO;clear hO;go_wp2_with fail
              refine (halves_p x _ hxb.1 hxb.2).mono ?_
              rintro e w' ⟨rfl,rfl⟩;replace hO:=hOh.out;clear hOh
              generalize x / 2=xt at *
              generalize x % 2=xc at *
              clear hxb
              by_cases hq0:xt=0
              · have d0:(xt==0)=true:=by rw [beq_iff_eq];exact hq0
                rw [if_pos hq0] at hO;have hOh:=Hd hO;clear hO hq0;replace hO:=hOh.out;rw [hHh.out] at hO
                have hf:=Hd hO
                clear hO hOh;go_wp2_with fail
                refine hKK.out _ _ ?_
                go_wp2_with fail
                refine⟨⟨j+1,S7,by go_num,by omega,hP,hK,hreg,g1,hD,hn0,hta,hf⟩,?_⟩
                simp [intOf];omega
              · have d0:(xt==0)=false:=by rw [beq_eq_false_iff_ne];exact hq0
                rw [if_neg hq0] at hO;clear hq0
                by_cases hqc:xc=bc
                · have dc:(xc==bc)=true:=by rw [beq_iff_eq];exact hqc
                  have dc2:(xc != bc)=false:=by simpa using hqc
                  rw [if_pos hqc] at hO;clear hqc
                  by_cases hg1:T<xt
                  · have d1:decide (T<xt)=true:=by rw [decide_eq_true_eq];exact hg1
                    rw [if_pos (.inl hg1)] at hO
                    have hOh:=Hd hO;clear hO hg1;replace hO:=hOh.out;rw [hHh.out] at hO
                    have hf:=Hd hO
                    clear hO hOh;go_wp2_with fail
                    refine hKK.out _ _ ?_
                    go_wp2_with fail
                    refine⟨⟨j+1,S7,by go_num,by omega,hP,hK,hreg,g1,hD,hn0,hta,hf⟩,?_⟩
                    simp [intOf];omega
                  · have d1:decide (T<xt)=false:=by rw [decide_eq_false_iff_not];exact hg1
                    by_cases hg2:xt=T
                    · have d2:(xt==T)=true:=by rw [beq_iff_eq];exact hg2
                      by_cases hg3:(m:Int)<(j:Int)
                      · have d3:decide (m<j)=true:=by rw [decide_eq_true_eq];omega
                        rw [if_pos (.inr ⟨hg2,hg3⟩)] at hO
                        have hOh:=Hd hO;clear hO hg1 hg2 hg3;replace hO:=hOh.out;rw [hHh.out] at hO
                        have hf:=Hd hO
                        clear hO hOh;go_wp2_with fail
                        refine hKK.out _ _ ?_
                        go_wp2_with fail
                        refine⟨⟨j+1,S7,by go_num,by omega,hP,hK,hreg,g1,hD,hn0,hta,hf⟩,?_⟩
                        simp [intOf];omega
                      · have d3:decide (m<j)=false:=by rw [decide_eq_false_iff_not];omega
                        rw [if_neg (by omega)] at hO
                        have hOh:=Hd hO;clear hO hg1 hg2 hg3
                        have hlw2:=Hd hP.left
                        go_wp2_with fail
                        first | refine wp_goto ?_ | skip
                        refine And.intro ⟨⟨rfl,rfl,rfl⟩,.inr ⟨rfl,(hJ1 _).2 ⟨n,S7,hP,hK,hreg,g1,hD,hn0,hta,by omega,hOh⟩⟩⟩ ?_
                        rw [hlw.out,hlw2.out]
                        omega
                    · have d2:(xt==T)=false:=by rw [beq_eq_false_iff_ne];exact hg2
                      rw [if_neg (by omega)] at hO
                      have hOh:=Hd hO;clear hO hg1 hg2
                      have hlw2:=Hd hP.left
                      go_wp2_with fail
                      first | refine wp_goto ?_ | skip
                      refine And.intro ⟨⟨rfl,rfl,rfl⟩,.inr ⟨rfl,(hJ1 _).2 ⟨n,S7,hP,hK,hreg,g1,hD,hn0,hta,by omega,hOh⟩⟩⟩ ?_
                      rw [hlw.out,hlw2.out]
                      omega
                · have dc:(xc==bc)=false:=by rw [beq_eq_false_iff_ne];exact hqc
                  have dc2:(xc != bc)=true:=by simpa using hqc
                  rw [if_neg hqc] at hO;have hOh:=Hd hO;clear hO hqc;have c_g:=g1.cells;go_wp2_with fail
                  clear c_g
                  refine tstepA (notes_regR _ _) hOh.out hK (reg_read_p B p S7 r0 m _ hP hok0 ⟨by omega,hm0'⟩) (fun _ h=>⟨rfl,h⟩) ?_
                  clear hOh hK hP;intro y2 S8 wn hrun hlf hla hnn hP hk hK hO;replace hD:=Nat.lt_of_le_of_lt hlf hD;replace hn0:=Nat.le_trans hnn hn0;replace hreg:=hreg.keep hk;replace g1:=g1.keep hk;replace hta:=hta.run hrun;clear hk hnn hrun;have hOh:=Hd hO;clear hO;go_wp2_with fail
                  refine (bwbit_p y2 _).mono ?_
                  rintro e w' ⟨rfl,rfl⟩;replace hO:=hOh.out;clear hOh
                  generalize bitM y2=b2 at *
                  by_cases hb:b2=bc
                  · have db:(b2 != bc)=false:=by simpa using hb
                    rw [if_pos hb] at hO;have hOh:=Hd hO;clear hO hb
                    have hlw2:=Hd hP.left
                    go_wp2_with fail
                    first | refine wp_goto ?_ | skip
                    refine And.intro ⟨⟨rfl,rfl,rfl⟩,.inr ⟨rfl,(hJ1 _).2 ⟨n,S8,hP,hK,hreg,g1,hD,hn0,hta,by omega,hOh⟩⟩⟩ ?_
                    rw [hlw.out,hlw2.out]
                    omega
                  · have db:(b2 != bc)=true:=by simpa using hb
                    rw [if_neg hb] at hO;have hOh:=Hd hO;clear hO hb;replace hO:=hOh.out;rw [hHh.out] at hO
                    have hf:=Hd hO
                    clear hO hOh;go_wp2_with fail
                    refine hKK.out _ _ ?_
                    go_wp2_with fail
                    refine⟨⟨j+1,S8,by go_num,by omega,hP,hK,hreg,g1,hD,hn0,hta,hf⟩,?_⟩
                    simp [intOf];omega
     · obtain rfl:N=j:=by omega
       have dj:decide ((N:Int)<(N:Int))=false:=by simp
       replace hO:=hOh.out;rw [Nat.sub_self,ranks_zero,forP_nilB,hGh.out] at hO
       have hOh2:=Hd hO
       clear hO hOh;go_wp2_with fail
       refine tstepN (notes_nt 3) hOh2.out hK (noteO hP (by unfold maxAns;omega)) (fun _ h=>⟨rfl,h⟩) ?_
       clear hOh2 hK hP;intro u S9 w9 _ _ _ hP _ hK hO
       have hf:=hO.done (v:=(0:Int)) hP hK
       clear hO hP hK;go_wp2_with fail
       first | exact hf | (go_ret;exact hf)
set_option maxRecDepth 100000 in
set_option maxHeartbeats 1000000 in
theorem filacq_p (B p N D:Nat)(S:TS)(alg mode base loc room:Int)(m:Nat)(rs:List Reg)(w:World)(h:Plays B w p S)(_hBw:B<=w.heap.size)(h1:1<=N)(h2:N<=8)(hm1:m<N)(hl:layM (filWants N) N mode base loc=some rs)
  (hok:∀ r∈rs,r.ok/\r.n=N)(htold:∀ (i:Nat) r,rs[i]?=some r->i≠m->2<=N->r.told m)(hD:S.left<D)(hn0:S.nts.length<=100000) :
  Calls Tryz.prog 189 #[.pointer (some ⟨p,0,none⟩),.agg #[V Z alg,V Z N,V Z mode,V Z base,V Z loc,V Z room],V Z m] w (Post encI B p w ((filA D rs N m).run S)):=by
 have hlen:=layM_len hl
 rw [filWants_len] at hlen
 generalize hR:Post encI B p w ((filA D rs N m).run S)=R
 have hO:Owes R encI B p w ((filA D rs N m).run S):=hR▸owes _ _ _ _ _
 clear hR
 obtain⟨b1,hK,hP⟩:=h.entry (.cells #[V Z alg,V Z N,V Z mode,V Z base,V Z loc,V Z room] 23)
 have c_b1:=b1.cells;clear h;unfold filA at hO
 go_enter Tryz.func189,Tryz.ntmps189
 go_wp2_with fail
 refine (fillay_p alg mode base loc room m N rs _ h1 h2 hl (by omega) (by omega)).mono ?_
 rintro e w1 ⟨b,c,A2,c2,rfl,hA2,hge,hb,hcells,q1,q2,hx⟩
 have hreg:RegsAt [2,3,4] w1 p b rs:=⟨hb,hP.fresh hx hge,hcells⟩
 replace hK:=hK.trans (Keep.of_ext hx hP.lt hP.le);replace hP:=hP.ext hx
 have hA2:=Hd hA2
 have hlh:=Hd hlen
 have hlM:=Hd hl
 clear hx hcells hge hb b1 c_b1 hlen hl;go_wp2_with fail
 refine tstepN (notes_nt 1) hO hK (noteO hP (by unfold maxAns;omega)) (fun _ h=>⟨rfl,h⟩) ?_
 clear hO hK hP;intro u S1 w2 hlf _ hnn hP hk hK hO;replace hD:=Nat.lt_of_le_of_lt hlf hD
 replace hn0:S1.nts.length<=100001:=by omega
 replace hreg:=hreg.keep hk;clear hk hlf hnn
 generalize hM:N-1=M at *
 rw [show ((N:Int)-1).toNat=M from by omega] at hO
 have hOh:=Hd hO
 have hNM:=Hd hM
 clear hO hM;go_wp2_with fail
 go_loopw [28] (fun i wr=>∃ (k:Nat) (S2:TS),i=V Z k/\k<=M/\Plays B wr p S2/\KeepP B p w wr/\RegsAt [2,3,4] wr p b rs/\S2.left<D/\S2.nts.length<=100001/\Hid (Owes R encI B p w (((forP (fun level _=>filLevel D rs N m level) (ranksFrom (-1) (M-k) ((k:Int)+1)) ()).bind fun _=>(nt 3).bind fun _=>.ret 0).run S2))) (fun i _=>M-(intOf i).toNat)
 case atStart=>exact⟨0,S1,rfl,by omega,hP,hK,hreg,hD,hn0,hOh⟩
 case round =>
  clear hP hK hreg hD hn0 hOh
  obtain⟨k,S2,rfl,hk,hP,hK,hreg,hD,hn0,hO⟩:=hrel
  by_cases hlt:k<M
  · have hNe:k+2<=N:=by have:=hNM.out;omega
    obtain rfl:=hA2.out (by omega)
    have hlen:=hlh.out
    obtain⟨r0,hr0⟩:∃ r,rs[m]?=some r:=⟨_,List.getElem?_eq_getElem (by omega)⟩
    obtain⟨rv,hrv⟩:∃ r,rs[N+k]?=some r:=⟨_,List.getElem?_eq_getElem (by omega)⟩
    have hok0:=(hok _ (List.mem_of_getElem? hr0)).1
    have hokv:=(hok _ (List.mem_of_getElem? hrv)).1
    have hm0:(m:Int)<r0.n:=by rw [(hok _ (List.mem_of_getElem? hr0)).2];omega
    have hmv:(m:Int)<rv.n:=by rw [(hok _ (List.mem_of_getElem? hrv)).2];omega
    have hcv:=hreg.nth hrv
    rw [show (N+k)*7=N*7+k*7 from by omega] at hcv
    obtain⟨e0,e1,e2,e3,e4,e5,e6⟩:=hcv
    have e0r:=regAt_of (i:=(m:Int)) rfl hr0
    have evr:=regAt_of (i:=(N:Int)-1+((k:Int)+1)) (by omega) hrv
    replace hO:=hO.out
    rw [show M-k=(M-(k+1))+1 from by omega,ranks_cons _ _ _ (by omega),forP_consB] at hO
    rw [filLevel_bind,e0r,evr,Int.toNat_natCast] at hO;have hOh:=Hd hO
    have hrh:=Hd (And.intro hr0 (And.intro hrv hlen))
    have hk8:k<8:=by omega
    have hN2:2<=N:=by omega
    clear hO hr0 hrv hlen hNe e0r evr hA2;have hPo:=hP
    have bV:=hP.held (.cells #[V Z rv.kind,V Z rv.base,V Z rv.loc,V Z rv.n,V Z rv.wr,V Z rv.rd,V Z rv.top] 67)
    replace hK:=hK.trans (Keep.alloc (.cells #[V Z rv.kind,V Z rv.base,V Z rv.loc,V Z rv.n,V Z rv.wr,V Z rv.rd,V Z rv.top] 67) hP.lt hP.le)
    replace hP:=hP.alloc (.cells #[V Z rv.kind,V Z rv.base,V Z rv.loc,V Z rv.n,V Z rv.wr,V Z rv.rd,V Z rv.top] 67)
    have c_bV:=bV.cells
    replace hreg:=hreg.extL ((Ext.refl wr).alloc (.cells #[V Z rv.kind,V Z rv.base,V Z rv.loc,V Z rv.n,V Z rv.wr,V Z rv.rd,V Z rv.top] 67)) hPo.lt
    clear hPo;go_wp2_with fail
    rename_i hKK
    replace hKK:=Hd hKK
    refine wp_scope_straight ?_
    clear e0 e1 e2 e3 e4 e5 e6
    obtain⟨a0,a1,a2,a3,a4,a5,a6⟩:=hreg.nth hrh.out.1
    generalize wr.heap.size=v at *
    generalize wr.alloc _=W at *
    go_wp2_with fail
    clear a0 a1 a2 a3 a4 a5 a6;replace hO:=hOh.out;clear hOh c_bV
    refine tstepN (notes_regW _ _ _) hO hK (reg_write_p B p S2 r0 m (k+1) _ hP hok0 ⟨by omega,hm0⟩) (fun _ h=>⟨rfl,h⟩) ?_
    clear hO hK hP;intro u S3 w3 hlf _ hnn hP hk1 hK hO;replace hD:=Nat.lt_of_le_of_lt hlf hD;replace hn0:=Nat.le_trans hnn hn0;replace hreg:=hreg.keep hk1;replace bV:=bV.keep hk1;have c_bV:=bV.cells;have hOh:=Hd hO;clear hk1 hlf hnn hO;go_wp2_with fail
    replace hO:=hOh.out;clear hOh c_bV
    refine tstepN (notes_regW _ _ _) hO hK (reg_write_p B p S3 rv m (m+1) _ hP hokv ⟨by omega,hmv⟩) (fun _ h=>⟨rfl,h⟩) ?_
    clear hO hK hP;intro u S4 w4 hlf _ hnn hP hk1 hK hO;replace hD:=Nat.lt_of_le_of_lt hlf hD;replace hn0:=Nat.le_trans hnn hn0;replace hreg:=hreg.keep hk1;replace bV:=bV.keep hk1;have hOh:=Hd hO;clear hk1 hlf hnn hO;go_wp2_with fail
    apply wp_label
    replace hO:=hOh.out;clear hOh
    obtain⟨F,hF⟩:∃ F:Unit->Prog Int,F=(fun _:Unit=>(forP (fun level _=>filLevel D rs N m level) (ranksFrom (-1) (M-(k+1)) ((k:Int)+1+1)) ()).bind fun _=>(nt 3).bind fun _=>Prog.ret (0:Int)):=⟨_,rfl⟩
    rw [<- hF] at hO
    have hFh:=Hd hF
    have hOh:=Hd hO;clear hF hO;go_wp2_with fail
    go_loopw [51] (fun i wr=>∃ (j:Nat) (S5:TS),i=V Z j/\j<=N/\Plays B wr p S5/\KeepP B p w wr/\RegsAt [2,3,4] wr p b rs/\HeldP wr p v (.cells #[V Z rv.kind,V Z rv.base,V Z rv.loc,V Z rv.n,V Z rv.wr,V Z rv.rd,V Z rv.top] 67)/\S5.left<D/\S5.nts.length<=100001/\Hid (Owes R encI B p w (((forP (fun j _=>filWait (regAt rs j) rv m ((k:Int)+1) D) (ranksFrom m (N-j) j) ()).bind F).run S5))) (fun i _=>N-(intOf i).toNat)
    case atStart=>exact⟨0,S4,rfl,by omega,hP,hK,hreg,bV,hD,hn0,hOh⟩
    case round =>
     clear hP hK hreg bV hD hn0 hOh
     obtain⟨j,S5,rfl,hj,hP,hK,hreg,bV,hD,hn0,hO⟩:=hrel
     replace hO:=hO.out
     by_cases hjN:j<N
     · obtain⟨g,hg⟩:∃ g,N-j=g+1:=⟨N-j-1,by omega⟩
       by_cases hjm:j=m
       · subst hjm
         rw [hg,ranks_skip,show g=N-(j+1) from by omega] at hO
         clear hg
         have hf:=Hd hO
         clear hO;go_wp2_with fail
         refine⟨⟨j+1,S5,by go_num,by omega,hP,hK,hreg,bV,by omega,by omega,hf⟩,?_⟩
         simp [intOf];omega
       · have djm:((j:Int)==(m:Int))=false:=by rw [beq_eq_false_iff_ne];omega
         obtain⟨rj,hrj⟩:∃ r,rs[j]?=some r:=⟨_,List.getElem?_eq_getElem (by have:=hrh.out.2.2;omega)⟩
         have hokj:=(hok _ (List.mem_of_getElem? hrj)).1
         have hmj:(m:Int)<rj.n:=by rw [(hok _ (List.mem_of_getElem? hrj)).2];omega
         have htj:=htold j rj hrj hjm (by omega)
         rw [hg,ranks_cons _ _ _ (by omega),forP_consB,regAt_of rfl hrj,show g=N-(j+1) from by omega] at hO
         have hrjh:=Hd hrj
         have hOh:=Hd hO;clear hg hrj hO;go_wp2_with fail
         go_loopw [] (fun wr=>∃ (n:Nat) (S6:TS),Plays B wr p S6/\KeepP B p w wr/\RegsAt [2,3,4] wr p b rs/\HeldP wr p v (.cells #[V Z rv.kind,V Z rv.base,V Z rv.loc,V Z rv.n,V Z rv.wr,V Z rv.rd,V Z rv.top] 67)/\S6.left<D/\S6.nts.length<=100001/\S6.left<n/\Hid (Owes R encI B p w (((filWait rj rv m ((k:Int)+1) n).bind fun _=>(forP (fun j _=>filWait (regAt rs j) rv m ((k:Int)+1) D) (ranksFrom m (N-(j+1)) ((j:Int)+1)) ()).bind F).run S6))) (fun wr=>leftW 1 3 wr p)
         case atStart=>exact⟨D,S5,hP,hK,hreg,bV,hD,hn0,hD,hOh⟩
         case round =>
          clear hP hK hreg bV hD hn0 hOh
          obtain⟨n,S6,hP,hK,hreg,bV,hD,hn0,hDn,hO⟩:=hrel
          replace hO:=hO.out
          have hlw:=Hd hP.left
          cases n with
          | zero=>omega
          | succ n =>
            rw [filWait_bind] at hO
            obtain⟨a0,a1,a2,a3,a4,a5,a6⟩:=hreg.nth hrjh.out
            have hOh:=Hd hO;clear hO;go_wp2_with fail
            replace hO:=hOh.out;clear hOh a0 a1 a2 a3 a4 a5 a6
            refine tstepN (notes_regR _ _) hO hK (reg_read_p B p S6 rj m _ hP hokj ⟨by omega,hmj⟩) (fun _ h=>⟨rfl,h⟩) ?_
            clear hO hK hP;intro x S7 w5 _ hlf hnn hP hk1 hK hO
            replace hlf:=hlf (asks_regR _ _ htj)
            replace hreg:=hreg.keep hk1;replace bV:=bV.keep hk1;replace hn0:=Nat.le_trans hnn hn0;clear hk1 hnn
            by_cases hx:x<(k:Int)+1
            · have dx:decide (x<(k:Int)+1)=true:=by simpa using hx
              rw [if_pos hx] at hO
              have hD7:S7.left<D:=by omega
              clear hx
              have hf:=Hd hO
              clear hO;go_wp2_with fail
              refine⟨⟨j+1,S7,by go_num,by omega,hP,hK,hreg,bV,by omega,hn0,hf⟩,?_⟩
              simp [intOf];omega
            · have dx:decide (x<(k:Int)+1)=false:=by simpa using hx
              rw [if_neg hx] at hO;clear hx;have c_bV:=bV.cells;have hOh:=Hd hO;clear hO;go_wp2_with fail
              replace hO:=hOh.out;clear hOh c_bV
              refine tstepN (notes_regR _ _) hO hK (reg_read_p B p S7 rv m _ hP hokv ⟨by omega,hmv⟩) (fun _ h=>⟨rfl,h⟩) ?_
              clear hO hK hP;intro y S8 w6 hlf2 _ hnn hP hk1 hK hO;replace hreg:=hreg.keep hk1;replace bV:=bV.keep hk1;replace hn0:=Nat.le_trans hnn hn0;clear hk1 hnn
              by_cases hy:y=(m:Int)+1
              · have dy:(y != (m:Int)+1)=false:=by simpa using hy
                rw [if_pos hy] at hO;clear hy
                have hlw2:=Hd hP.left
                have hf:=Hd hO
                clear hO;go_wp2_with fail
                refine⟨⟨n,S8,hP,hK,hreg,bV,by omega,hn0,by omega,hf⟩,?_⟩
                rw [hlw.out,hlw2.out]
                omega
              · have dy:(y != (m:Int)+1)=true:=by simpa using hy
                rw [if_neg hy] at hO;clear hy
                have hf:=Hd hO
                clear hO;go_wp2_with fail
                refine⟨⟨j+1,S8,by go_num,by omega,hP,hK,hreg,bV,by omega,hn0,hf⟩,?_⟩
                simp [intOf];omega
     · obtain rfl:j=N:=by omega
       rw [Nat.sub_self,ranks_zero,forP_nilB,hFh.out] at hO
       have hf:=Hd (show Owes R encI B p w (((forP (fun level _=>filLevel D rs j m level) (ranksFrom (-1) (M-(k+1)) (((k+1:Nat):Int)+1)) ()).bind fun _=>(nt 3).bind fun _=>Prog.ret (0:Int)).run S5) from by
        rw [show (((k+1:Nat):Int)+1)=(k:Int)+1+1 from by omega]
        exact hO)
       clear hO;go_wp2_with fail
       refine hKK.out _ _ ?_
       go_wp2_with fail
       refine⟨⟨k+1,S5,by go_num,by omega,hP,hK,hreg,hD,hn0,hf⟩,?_⟩
       simp [intOf];omega
  · obtain rfl:k=M:=by omega
    replace hO:=hO.out;rw [Nat.sub_self,ranks_zero,forP_nilB] at hO;go_wp2_with fail
    refine tstepN (notes_nt 3) hO hK (noteO hP (by unfold maxAns;omega)) (fun _ h=>⟨rfl,h⟩) ?_
    clear hO hK hP;intro u S3 w3 _ _ _ hP _ hK hO
    have hf:=hO.done (v:=(0:Int)) hP hK
    clear hO hP hK;go_wp2_with fail
    first | exact hf | (go_ret;exact hf)
set_option maxRecDepth 100000 in
theorem filrel_p (B p N:Nat)(S:TS)(alg mode base loc room:Int)(m:Nat)(rs:List Reg)(w:World)(h:Plays B w p S)(h1:1<=N)(h2:N<=8)(hm1:m<N)(hl:layM (filWants N) N mode base loc=some rs)
  (hok:∀ r∈rs,r.ok/\r.n=N)(hn0:S.nts.length<=100000) :
  Calls Tryz.prog 190 #[.pointer (some ⟨p,0,none⟩),.agg #[V Z alg,V Z N,V Z mode,V Z base,V Z loc,V Z room],V Z m] w (Post encU B p w ((filR rs m).run S)):=by
 have hlen:=layM_len hl
 rw [filWants_len] at hlen
 generalize hR:Post encU B p w ((filR rs m).run S)=R
 have hO:Owes R encU B p w ((filR rs m).run S):=hR▸owes _ _ _ _ _
 clear hR
 obtain⟨b1,hK,hP⟩:=h.entry (.cells #[V Z alg,V Z N,V Z mode,V Z base,V Z loc,V Z room] 23)
 have c_b1:=b1.cells;clear h;unfold filR at hO
 go_enter Tryz.func190,Tryz.ntmps190
 go_wp2_with fail
 refine (fillay_p alg mode base loc room m N rs _ h1 h2 hl (by omega) (by omega)).mono ?_
 rintro e w1 ⟨b,c,A2,c2,rfl,hA2,hge,hb,hcells,q1,q2,hx⟩
 have hreg:RegsAt [2,3,4] w1 p b rs:=⟨hb,hP.fresh hx hge,hcells⟩
 replace hK:=hK.trans (Keep.of_ext hx hP.lt hP.le);replace hP:=hP.ext hx
 obtain⟨r0,hr0⟩:∃ r,rs[m]?=some r:=⟨_,List.getElem?_eq_getElem (by omega)⟩
 have hok0:=(hok _ (List.mem_of_getElem? hr0)).1
 have hm0:(m:Int)<r0.n:=by rw [(hok _ (List.mem_of_getElem? hr0)).2];omega
 rw [regAt_of rfl hr0] at hO
 have hrh:=Hd hr0
 clear hx hcells hge hb b1 c_b1 hlen hl hr0 hA2 hok;go_wp2_with fail
 refine tstepN (notes_nt 5) hO hK (noteO hP (by unfold maxAns;omega)) (fun _ h=>⟨rfl,h⟩) ?_
 clear hO hK hP;intro u S1 w2 _ _ _ hP hk hK hO;replace hreg:=hreg.keep hk;clear hk
 obtain⟨a0,a1,a2,a3,a4,a5,a6⟩:=hreg.nth hrh.out
 go_wp2_with fail
 clear a0 a1 a2 a3 a4 a5 a6 hrh hreg
 refine tlast hO hK (reg_write_p B p S1 r0 m 0 _ hP hok0 ⟨by omega,hm0⟩) (fun _ h=>⟨rfl,h⟩) ?_
 clear hO hK hP;intro u S2 w3 hr hP hk hK hO
 have hf:=hO.done hP hK
 clear hO hP hK hr hk;go_wp2_with fail
 first | exact hf | (refine bodyPost_ret (results_none rfl _ _ _) rfl ?_;exact hf)
set_option maxRecDepth 100000 in
set_option maxHeartbeats 4000000 in
theorem fastacq_p (B p N D:Nat)(S:TS)(alg mode base loc room:Int)(m:Nat)(rs:List Reg)(w:World)(h:Plays B w p S)(h1:1<=N)(h2:N<=8)(hm1:m<N)(hl:layM (fastWants N) N mode base loc=some rs)
  (hok:∀ r∈rs,r.ok/\r.n=N)(htold:∀ (i:Nat) r,rs[i]?=some r->i≠2+m->r.told m)(hD:S.left<D)(hn0:S.nts.length<=100000)
  (Zq:TS->Prop)(hzw:∀ rm,rs[2+m]?=some rm->∀ S S',(regW rm m 0).run S=(some (),S')->Zq S')
  (hzk:∀ (j:Nat) r,rs[j]?=some r->∀ S S',(zeroP r m D).run S=(some (),S')->Zq S->Zq S')
  (hzz:∀ rm,rs[2+m]?=some rm->∀ S,Zq S->rm.told m∨(regR rm m).run S=(some 0,S)) :
  Calls Tryz.prog 192 #[.pointer (some ⟨p,0,none⟩),.agg #[V Z alg,V Z N,V Z mode,V Z base,V Z loc,V Z room],V Z m] w (Post encI B p w ((fastA D rs N m).run S)):=by
 have hlen:=layM_len hl
 rw [fastWants_len] at hlen
 generalize hR:Post encI B p w ((fastA D rs N m).run S)=R
 have hO:Owes R encI B p w ((fastA D rs N m).run S):=hR▸owes _ _ _ _ _
 clear hR
 obtain⟨b1,hK,hP⟩:=h.entry (.cells #[V Z alg,V Z N,V Z mode,V Z base,V Z loc,V Z room] 23)
 have c_b1:=b1.cells;clear h;unfold fastA at hO
 obtain⟨r0,hr0⟩:∃ r,rs[0]?=some r:=⟨_,List.getElem?_eq_getElem (by omega)⟩
 obtain⟨r1,hr1⟩:∃ r,rs[1]?=some r:=⟨_,List.getElem?_eq_getElem (by omega)⟩
 obtain⟨rm,hrm⟩:∃ r,rs[2+m]?=some r:=⟨_,List.getElem?_eq_getElem (by omega)⟩
 have hok0:=(hok _ (List.mem_of_getElem? hr0)).1
 have hm0':(m:Int)<r0.n:=by rw [(hok _ (List.mem_of_getElem? hr0)).2];omega
 have ht0:=htold 0 r0 hr0 (by omega)
 have hok1:=(hok _ (List.mem_of_getElem? hr1)).1
 have hm1':(m:Int)<r1.n:=by rw [(hok _ (List.mem_of_getElem? hr1)).2];omega
 have ht1:=htold 1 r1 hr1 (by omega)
 have hokm:=(hok _ (List.mem_of_getElem? hrm)).1
 have hmm:(m:Int)<rm.n:=by rw [(hok _ (List.mem_of_getElem? hrm)).2];omega
 have hw2:=IntWalk.i64_in ((m:Int)+1) (by omega)
 have hrh:=Hd (And.intro hr0 (And.intro hr1 hrm))
 have hokh:=Hd hok
 have htoldh:=Hd htold
 have hlenh:=Hd hlen
 have hzwh:=Hd (hzw rm hrm)
 have hzkh:=Hd hzk
 have hzzh:=Hd (hzz rm hrm)
 have hlh:=Hd hl
 clear hzw hzk hzz hlen hr0 hr1 hrm hok htold hl
 go_enter Tryz.func192,Tryz.ntmps192
 have hOh:=Hd hO;clear hO;go_wp2_with fail
 obtain⟨J0,hJ0⟩:∃ J0:Nat->Nat->Nat->Nat->World->Prop,∀ x y b cc wr,J0 x y b cc wr↔∃ (k:Nat) (S2:TS),Plays B wr p S2/\KeepP B p w wr/\HeldP wr p x (.cells #[V Z r0.kind,V Z r0.base,V Z r0.loc,V Z r0.n,V Z r0.wr,V Z r0.rd,V Z r0.top] 67)/\HeldP wr p y (.cells #[V Z r1.kind,V Z r1.base,V Z r1.loc,V Z r1.n,V Z r1.wr,V Z r1.rd,V Z r1.top] 67)/\RegsAt [2,3,4] wr p b rs/\S2.left<D/\S2.nts.length<=100001/\S2.left<k/\Hid (Owes R encI B p w (((fastTry D rs N m k).bind fun _=>(nt 3).bind fun _=>.ret 0).run S2)):=⟨_,fun _ _ _ _ _=>Iff.rfl⟩
 obtain⟨J1,hJ1⟩:∃ J1:World->Prop,∀ wr,J1 wr↔∃ S2:TS,Plays B wr p S2/\KeepP B p w wr/\S2.nts.length<=100001/\Hid (Owes R encI B p w (((nt 3).bind fun _=>.ret (0:Int)).run S2)):=⟨_,fun _=>Iff.rfl⟩
 refine wp_scope_fall (fun l a wr=>∃ x y b cc:Nat,a.defers=[]/\a.tmps.size=111/\a.tmps[0]?=some (.pointer (some ⟨p,0,none⟩))/\a.tmps[2]?=some (V Z m)/\a.tmps[9]?=some (.pointer (some ⟨x,0,none⟩))/\a.tmps[10]?=some (.pointer (some ⟨y,0,none⟩))/\a.tmps[11]?=some (.slice (some ⟨b,14,none⟩) N cc)/\(l=0/\J0 x y b cc wr∨l=1/\J1 wr)) (fun l _ wr=>if l=0 then leftW 1 3 wr p+1 else 0) ?pass ?first
 case pass =>
  clear hP hK b1 hOh hD hn0 c_b1
  rintro l a wq ⟨x,y,b,cc,ha,hs,f0,f2,f9,f10,f11,hrel⟩
  try dsimp only
  refine fr_act 111 (fun a'=>a'.tmps[0]?=some (.pointer (some ⟨p,0,none⟩))->a'.tmps[2]?=some (V Z m)->a'.tmps[9]?=some (.pointer (some ⟨x,0,none⟩))->a'.tmps[10]?=some (.pointer (some ⟨y,0,none⟩))->a'.tmps[11]?=some (.slice (some ⟨b,14,none⟩) N cc)->∃ rest,findLabel _ l=some (.seq .skip rest)/\rest.wp _ _ a' wq) ?_ a ha hs f0 f2 f9 f10 f11
  clear f0 f2 f9 f10 f11;clear ha hs a
  dsimp only [Fr]
  intro u0 u1 u2 u3 u4 u5 u6 u7 u8 u9 u10 u11 u12 u13 u14 u15 u16 u17 u18 u19 u20 u21 u22 u23 u24 u25 u26 u27 u28 u29 u30 u31 u32 u33 u34 u35 u36 u37 u38 u39 u40 u41 u42 u43 u44 u45 u46 u47 u48 u49 u50 u51 u52 u53 u54 u55 u56 u57 u58 u59 u60 u61 u62 u63 u64 u65 u66 u67 u68 u69 u70 u71 u72 u73 u74 u75 u76 u77 u78 u79 u80 u81 u82 u83 u84 u85 u86 u87 u88 u89 u90 u91 u92 u93 u94 u95 u96 u97 u98 u99 u100 u101 u102 u103 u104 u105 u106 u107 u108 u109 u110 f0 f2 f9 f10 f11
  obtain rfl:=Option.some.inj f0
  obtain rfl:=Option.some.inj f2
  obtain rfl:=Option.some.inj f9
  obtain rfl:=Option.some.inj f10
  obtain rfl:=Option.some.inj f11
  clear f0 f2 f9 f10 f11
  rcases hrel with⟨rfl,hrel⟩ | ⟨rfl,hrel⟩
  · rw [hJ0] at hrel
    obtain⟨k,S2,hP,hK,bx,by',hreg,hD,hn0,hkk,hOh⟩:=hrel
    cases k with
    | zero=>omega
    | succ k =>
      replace hO:=hOh.out;clear hOh
      rw [fastTry_bind,regAt_of (show (0:Int)=((0:Nat):Int) from rfl) hrh.out.1,regAt_of (show (1:Int)=((1:Nat):Int) from rfl) hrh.out.2.1,regAt_of (show (2:Int)+(m:Int)=((2+m:Nat):Int) from by omega) hrh.out.2.2] at hO
      have hlw:=Hd hP.left
      have hsh:(2+m)*7=14+m*7:=by omega
      have hmN:(m:Int)<(N:Int):=by omega
      have hOh:=Hd hO;clear hO
      refine⟨_,rfl,?_⟩
      obtain⟨a0,a1,a2,a3,a4,a5,a6⟩:=hreg.nth hrh.out.2.2
      rw [hsh] at a0 a1 a2 a3 a4 a5 a6
      go_wp2_with fail
      replace hO:=hOh.out;clear hOh a0 a1 a2 a3 a4 a5 a6
      refine tstepA (notes_regW _ _ _) hO hK (reg_write_p B p S2 rm m 1 _ hP hokm ⟨by omega,hmm⟩) (fun _ h=>⟨rfl,h⟩) ?_
      clear hO hK hP;intro u S3 w2 hrun hlf hla hnn hP hk hK hO;replace hD:=Nat.lt_of_le_of_lt hlf hD
      replace hn0:S3.nts.length<=100001:=by omega
      replace hreg:=hreg.keep hk;replace bx:=bx.keep hk;replace by':=by'.keep hk;clear hk;have hOh:=Hd hO;clear hO;have c_bx:=bx.cells;go_wp2_with fail
      replace hO:=hOh.out;clear hOh c_bx
      refine tstepA (notes_regW _ _ _) hO hK (reg_write_p B p S3 r0 m _ _ hP hok0 ⟨by omega,hm0'⟩) (fun _ h=>⟨rfl,h⟩) ?_
      clear hO hK hP;intro u S4 w2 hrun hlf hla hnn hP hk hK hO;replace hD:=Nat.lt_of_le_of_lt hlf hD
      replace hn0:S4.nts.length<=100001:=by omega
      replace hreg:=hreg.keep hk;replace bx:=bx.keep hk;replace by':=by'.keep hk;clear hk;have hOh:=Hd hO;clear hO;have c_by:=by'.cells;go_wp2_with fail
      replace hO:=hOh.out;clear hOh c_by
      refine tstepA (notes_regR _ _) hO hK (reg_read_p B p S4 r1 m _ hP hok1 ⟨by omega,hm1'⟩) (fun _ h=>⟨rfl,h⟩) ?_
      clear hO hK hP;intro y0 S5 w2 hrun hlf5 hla5 hnn hP hk hK hO
      have hlt5:=hla5 (asks_regR _ _ ht1)
      replace hD:=Nat.lt_of_le_of_lt hlf5 hD
      replace hn0:S5.nts.length<=100001:=by omega
      replace hreg:=hreg.keep hk;replace bx:=bx.keep hk;replace by':=by'.keep hk
      have hl5:S5.left<S2.left:=by omega
      clear hk;clear hlt5 hla5 hlf5
      by_cases hy:y0=0
      · have dy:(y0 != 0)=false:=by simpa using hy
        rw [if_pos hy] at hO;clear hy;have hOh:=Hd hO;clear hO;have c_by:=by'.cells;go_wp2_with fail
        replace hO:=hOh.out;clear hOh c_by
        refine tstepA (notes_regW _ _ _) hO hK (reg_write_p B p S5 r1 m _ _ hP hok1 ⟨by omega,hm1'⟩) (fun _ h=>⟨rfl,h⟩) ?_
        clear hO hK hP;intro u S6 w2 hrun hlf hla hnn hP hk hK hO;replace hD:=Nat.lt_of_le_of_lt hlf hD
        replace hn0:S6.nts.length<=100001:=by omega
        replace hreg:=hreg.keep hk;replace bx:=bx.keep hk;replace by':=by'.keep hk;clear hk;have hOh:=Hd hO;clear hO;have c_bx:=bx.cells;go_wp2_with fail
        replace hO:=hOh.out;clear hOh c_bx
        refine tstepA (notes_regR _ _) hO hK (reg_read_p B p S6 r0 m _ hP hok0 ⟨by omega,hm0'⟩) (fun _ h=>⟨rfl,h⟩) ?_
        clear hO hK hP;intro u S7 w2 hrun hlf hla hnn hP hk hK hO;replace hD:=Nat.lt_of_le_of_lt hlf hD
        replace hn0:S7.nts.length<=100001:=by omega
        replace hreg:=hreg.keep hk;replace bx:=bx.keep hk;replace by':=by'.keep hk;clear hk;have hOh:=Hd hO;clear hO
        by_cases hx:u=(m:Int)+1
        · have dx:(u==(m:Int)+1)=true:=by simpa using hx
          replace hO:=hOh.out;rw [if_pos hx] at hO;clear hx hOh;have hOh:=Hd hO;clear hO;go_wp2_with fail
          refine wp_goto ?_
          refine And.intro ⟨x,y,b,cc,rfl,rfl,rfl,rfl,rfl,rfl,rfl,.inr ⟨rfl,(hJ1 _).2 ⟨S7,hP,hK,hn0,hOh⟩⟩⟩ ?_
          show 0<leftW 1 3 wq p+1
          omega
        · have dx:(u==(m:Int)+1)=false:=by simpa using hx
          replace hO:=hOh.out;rw [if_neg hx] at hO;clear hx hOh;have hOh:=Hd hO;clear hO
          obtain⟨a0,a1,a2,a3,a4,a5,a6⟩:=hreg.nth hrh.out.2.2
          rw [hsh] at a0 a1 a2 a3 a4 a5 a6
          go_wp2_with fail
          replace hO:=hOh.out;clear hOh a0 a1 a2 a3 a4 a5 a6
          refine tstepA (notes_regW _ _ _) hO hK (reg_write_p B p S7 rm m 0 _ hP hokm ⟨by omega,hmm⟩) (fun _ h=>⟨rfl,h⟩) ?_
          clear hO hK hP;intro u S8 w2 hrun hlf hla hnn hP hk hK hO;replace hD:=Nat.lt_of_le_of_lt hlf hD
          replace hn0:S8.nts.length<=100001:=by omega
          replace hreg:=hreg.keep hk;replace bx:=bx.keep hk;replace by':=by'.keep hk;clear hk;have hOh:=Hd hO;clear hO
          have hz:=hzwh.out _ _ hrun
          replace hO:=hOh.out
          rw [show (N:Int).toNat=N from by omega] at hO
          clear hOh hrun
          have hzh:=Hd hz
          have hOh:=Hd hO;clear hO hz;go_wp2_with fail
          have hl8:S8.left<S2.left:=by omega
          obtain⟨F,hF⟩:∃ F:Unit->Prog Int,F=fun _=>(regR r1 m).bind fun y=>if y=(m:Int)+1 then (nt 3).bind fun _=>.ret 0 else (zeroP r1 m D).bind fun _=>(fastTry D rs N m k).bind fun _=>(nt 3).bind fun _=>.ret 0:=⟨_,rfl⟩
          replace hO:=hOh.out
          rw [<- hF] at hO
          clear hOh;have hOh:=Hd hO
          have hFh:=Hd hF
          clear hO hF
          go_loopw [89] (fun i wr=>∃ (q:Nat) (S9:TS),i=V Z q/\q<=N/\Plays B wr p S9/\KeepP B p w wr/\HeldP wr p x (.cells #[V Z r0.kind,V Z r0.base,V Z r0.loc,V Z r0.n,V Z r0.wr,V Z r0.rd,V Z r0.top] 67)/\HeldP wr p y (.cells #[V Z r1.kind,V Z r1.base,V Z r1.loc,V Z r1.n,V Z r1.wr,V Z r1.rd,V Z r1.top] 67)/\RegsAt [2,3,4] wr p b rs/\S9.left<D/\S9.left<S2.left/\S9.nts.length<=100001/\Hid (Zq S9)/\Hid (Owes R encI B p w (((forP (fun j _=>zeroP (regAt rs (2+j)) m D) (ranksFrom (-1) (N-q) q) ()).bind F).run S9))) (fun i _=>N-(intOf i).toNat)
          case atStart=>exact⟨0,S8,rfl,by omega,hP,hK,bx,by',hreg,hD,hl8,hn0,hzh,hOh⟩
          case round =>
           clear hP hK hreg bx by' hD hn0 hzh hOh hl8
           obtain⟨q,S9,rfl,hq,hP,hK,bx,by',hreg,hD,hl9,hn0,hzh,hOh⟩:=hrel
           by_cases hlt:q<N
           · have dlt:decide ((q:Int)<(N:Int))=true:=by rw [decide_eq_true_eq];omega
             obtain⟨v,hv⟩:∃ v,N-q=v+1:=⟨N-q-1,by omega⟩
             obtain⟨rk,hrk⟩:∃ r,rs[2+q]?=some r:=⟨_,List.getElem?_eq_getElem (by have:=hlenh.out;omega)⟩
             replace hO:=hOh.out
             rw [hv,ranks_cons _ _ _ (by omega),forP_consB,regAt_of (show (2:Int)+(q:Int)=((2+q:Nat):Int) from by omega) hrk,show v=N-(q+1) from by omega,zeroT_bind] at hO
             have hokk:=(hokh.out _ (List.mem_of_getElem? hrk)).1
             have hmk:(m:Int)<rk.n:=by rw [(hokh.out _ (List.mem_of_getElem? hrk)).2];omega
             have hcall:∀ W,Plays B W p S9->Calls Tryz.prog 249 #[.pointer (some ⟨p,0,none⟩),encR rk,V Z m] W (Post encB B p W (((zeroP rk m D).bind fun _=>.ret true).run S9)):=fun W hW=>by
              by_cases hkm:q=m
              · subst hkm
                obtain rfl:rm=rk:=Option.some.inj (hrh.out.2.2.symm.trans hrk)
                rcases hzzh.out _ hzh.out with ht | hz
                · exact fwait_p B p D S9 rm q W hW hokk (by omega) hmk ht hD
                · obtain⟨E,rfl⟩:∃ E,D=E+1:=⟨D-1,by omega⟩
                  exact fwait_z B p E S9 rm q W hW hokk (by omega) hmk hz
              · exact fwait_p B p D S9 rk m W hW hokk (by omega) hmk (htoldh.out _ _ hrk (by omega)) hD
             have hch:=Hd hcall
             have hrkh:=Hd hrk
             have hsq:(2+q)*7=14+q*7:=by omega
             obtain⟨a0,a1,a2,a3,a4,a5,a6⟩:=hreg.nth hrk
             rw [hsq] at a0 a1 a2 a3 a4 a5 a6
             have hOh:=Hd hO;clear hO hcall hrk hv
             have bn:=hP.held (.cells #[V Z rk.kind,V Z rk.base,V Z rk.loc,V Z rk.n,V Z rk.wr,V Z rk.rd,V Z rk.top] 67)
             have hKn:=hK.trans (Keep.alloc (.cells #[V Z rk.kind,V Z rk.base,V Z rk.loc,V Z rk.n,V Z rk.wr,V Z rk.rd,V Z rk.top] 67) hP.lt hP.le)
             have hPn:=hP.alloc (.cells #[V Z rk.kind,V Z rk.base,V Z rk.loc,V Z rk.n,V Z rk.wr,V Z rk.rd,V Z rk.top] 67)
             have bxn:=bx.alloc (.cells #[V Z rk.kind,V Z rk.base,V Z rk.loc,V Z rk.n,V Z rk.wr,V Z rk.rd,V Z rk.top] 67) hP.lt
             have byn:=by'.alloc (.cells #[V Z rk.kind,V Z rk.base,V Z rk.loc,V Z rk.n,V Z rk.wr,V Z rk.rd,V Z rk.top] 67) hP.lt
             have hregn:=hreg.extL ((Ext.refl wr).alloc (.cells #[V Z rk.kind,V Z rk.base,V Z rk.loc,V Z rk.n,V Z rk.wr,V Z rk.rd,V Z rk.top] 67)) hP.lt
             have c_bn:=bn.cells;clear hK hP bx by' hreg;go_wp2_with fail
             clear c_bn a0 a1 a2 a3 a4 a5 a6 bn;have hP:=hPn;have hK:=hKn;have bx:=bxn;have by':=byn;have hreg:=hregn;clear hPn hKn bxn byn hregn
             generalize wr.alloc _=W at *
             replace hO:=hOh.out;clear hOh
             refine tstepA (notes_zeroT _ _ _) hO hK (hch.out _ hP) (fun _ h=>⟨rfl,h⟩) ?_
             clear hO hK hP;intro vb S10 w2 hrun hlf hla hnn hP hk hK hO;replace hD:=Nat.lt_of_le_of_lt hlf hD
             replace hn0:S10.nts.length<=100001:=by omega
             replace hreg:=hreg.keep hk;replace bx:=bx.keep hk;replace by':=by'.keep hk;clear hk;have hOh:=Hd hO;clear hO
             obtain⟨rfl,hzr⟩:=zeroT_run hrun
             have hz:=hzkh.out _ _ hrkh.out _ _ hzr hzh.out
             clear hzh hrun hzr hch
             have hzh:=Hd hz
             clear hz;go_wp2_with fail
             refine⟨⟨q+1,S10,by go_num,by omega,hP,hK,bx,by',hreg,hD,by omega,hn0,hzh,hOh⟩,?_⟩
             simp [intOf];omega
           · obtain rfl:q=N:=by omega
             have dlt:decide ((q:Int)<(q:Int))=false:=by rw [decide_eq_false_iff_not];omega
             replace hO:=hOh.out;rw [Nat.sub_self,ranks_zero,forP_nilB,hFh.out] at hO;clear hOh hzh hlt hFh;have hOh:=Hd hO;clear hO;have c_by:=by'.cells;go_wp2_with fail
             replace hO:=hOh.out;clear hOh c_by
             refine tstepA (notes_regR _ _) hO hK (reg_read_p B p S9 r1 m _ hP hok1 ⟨by omega,hm1'⟩) (fun _ h=>⟨rfl,h⟩) ?_
             clear hO hK hP;intro y1 S10 w2 hrun hlf hla hnn hP hk hK hO;replace hD:=Nat.lt_of_le_of_lt hlf hD
             replace hn0:S10.nts.length<=100001:=by omega
             replace hreg:=hreg.keep hk;replace bx:=bx.keep hk;replace by':=by'.keep hk;clear hk;have hOh:=Hd hO;clear hO
             by_cases hx:y1=(m:Int)+1
             · have dx:(y1==(m:Int)+1)=true:=by simpa using hx
               replace hO:=hOh.out;rw [if_pos hx] at hO;clear hx hOh;have hOh:=Hd hO;clear hO;go_wp2_with fail
               refine wp_goto ?_
               refine And.intro ⟨x,y,b,cc,rfl,rfl,rfl,rfl,rfl,rfl,rfl,.inr ⟨rfl,(hJ1 _).2 ⟨S10,hP,hK,hn0,hOh⟩⟩⟩ ?_
               show 0<leftW 1 3 wq p+1
               omega
             · have dx:(y1==(m:Int)+1)=false:=by simpa using hx
               replace hO:=hOh.out;rw [if_neg hx,zeroT_bind] at hO;clear hx hOh;have hOh:=Hd hO;clear hO;have c_by:=by'.cells;go_wp2_with fail
               replace hO:=hOh.out;clear hOh c_by
               refine tstepA (notes_zeroT _ _ _) hO hK (fwait_p B p D S10 r1 m _ hP hok1 (by omega) hm1' ht1 hD) (fun _ h=>⟨rfl,h⟩) ?_
               clear hO hK hP;intro vb S11 w2 hrun hlf hla hnn hP hk hK hO;replace hD:=Nat.lt_of_le_of_lt hlf hD
               replace hn0:S11.nts.length<=100001:=by omega
               replace hreg:=hreg.keep hk;replace bx:=bx.keep hk;replace by':=by'.keep hk;clear hk;have hOh:=Hd hO;clear hO
               obtain⟨rfl,-⟩:=zeroT_run hrun
               go_wp2_with fail
               have hlw2:=hP.left
               refine wp_goto ?_
               refine And.intro ⟨x,y,b,cc,rfl,rfl,rfl,rfl,rfl,rfl,rfl,.inl ⟨rfl,(hJ0 _ _ _ _ _).2 ⟨k,S11,hP,hK,bx,by',hreg,hD,hn0,by omega,hOh⟩⟩⟩ ?_
               show leftW 1 3 _ p+1<leftW 1 3 wq p+1
               rw [hlw.out,hlw2]
               omega
      · have dy:(y0 != 0)=true:=by simpa using hy
        rw [if_neg hy] at hO;clear hy;have hOh:=Hd hO;clear hO
        obtain⟨a0,a1,a2,a3,a4,a5,a6⟩:=hreg.nth hrh.out.2.2
        rw [hsh] at a0 a1 a2 a3 a4 a5 a6
        go_wp2_with fail
        replace hO:=hOh.out;clear hOh a0 a1 a2 a3 a4 a5 a6
        refine tstepA (notes_regW _ _ _) hO hK (reg_write_p B p S5 rm m 0 _ hP hokm ⟨by omega,hmm⟩) (fun _ h=>⟨rfl,h⟩) ?_
        clear hO hK hP;intro u S6 w2 hrun hlf hla hnn hP hk hK hO;replace hD:=Nat.lt_of_le_of_lt hlf hD
        replace hn0:S6.nts.length<=100001:=by omega
        replace hreg:=hreg.keep hk;replace bx:=bx.keep hk;replace by':=by'.keep hk;clear hk;have hOh:=Hd hO;clear hO;replace hO:=hOh.out;rw [zeroT_bind] at hO;clear hOh;have hOh:=Hd hO;clear hO;have c_by:=by'.cells;go_wp2_with fail
        replace hO:=hOh.out;clear hOh c_by
        refine tstepA (notes_zeroT _ _ _) hO hK (fwait_p B p D S6 r1 m _ hP hok1 (by omega) hm1' ht1 hD) (fun _ h=>⟨rfl,h⟩) ?_
        clear hO hK hP;intro vb S7 w2 hrun hlf hla hnn hP hk hK hO;replace hD:=Nat.lt_of_le_of_lt hlf hD
        replace hn0:S7.nts.length<=100001:=by omega
        replace hreg:=hreg.keep hk;replace bx:=bx.keep hk;replace by':=by'.keep hk;clear hk;have hOh:=Hd hO;clear hO
        obtain⟨rfl,-⟩:=zeroT_run hrun
        go_wp2_with fail
        have hlw2:=hP.left
        refine wp_goto ?_
        refine And.intro ⟨x,y,b,cc,rfl,rfl,rfl,rfl,rfl,rfl,rfl,.inl ⟨rfl,(hJ0 _ _ _ _ _).2 ⟨k,S7,hP,hK,bx,by',hreg,hD,hn0,by omega,hOh⟩⟩⟩ ?_
        show leftW 1 3 _ p+1<leftW 1 3 wq p+1
        rw [hlw.out,hlw2]
        omega
  · rw [hJ1] at hrel
    obtain⟨S2,hP,hK,hn0,hOh⟩:=hrel
    clear hJ0 hJ1 hzzh hzkh hzwh
    refine⟨_,rfl,?_⟩
    go_wp2_with fail
    refine tstepN (notes_nt 3) hOh.out hK (noteO hP (by unfold maxAns;omega)) (fun _ h=>⟨rfl,h⟩) ?_
    clear hOh hK hP;intro u S3 w3 _ _ _ hP _ hK hO
    have hf:=hO.done (v:=(0:Int)) hP hK
    clear hO hP hK;go_wp2_with fail
    first | exact hf | (go_ret;exact hf)
 case first =>
  intro hfall
  refine (fun (hfall:Hid _)=>?_) (Hd hfall)
  clear hzwh hzkh hzzh htoldh hJ1;go_wp2_with fail
  refine (fastlay_p alg mode base loc room m N rs _ h1 h2 hlh.out (by omega) (by omega)).mono ?_
  rintro e w1 ⟨b,c0,rfl,hge,hb,hcells,q1,q2,hx⟩
  obtain⟨c,rfl⟩:∃ c,c0=c+3:=⟨c0-3,by have:=hlenh.out;omega⟩
  have hreg:RegsAt [2,3,4] w1 p b rs:=⟨hb,hP.fresh hx hge,hcells⟩
  replace hK:=hK.trans (Keep.of_ext hx hP.lt hP.le);replace hP:=hP.ext hx
  have hl2:2<=rs.length:=by have:=hlenh.out;omega
  have hl3:1<rs.length:=by have:=hlenh.out;omega
  have hl4:0<rs.length:=by have:=hlenh.out;omega
  have hl5:(2:Int)<=(rs.length:Int):=by omega
  have hl6:(1:Int)<(rs.length:Int):=by omega
  have hl7:(0:Int)<(rs.length:Int):=by omega
  clear hx hcells hge hb b1 c_b1
  generalize w.alloc _=W0 at *
  go_upto_region 4 with fail
  go_cut [9,10,11] (fun s9 s10 s11 wx=>∃ (x y:Nat),s9=.pointer (some ⟨x,0,none⟩)/\s10=.pointer (some ⟨y,0,none⟩)/\s11=.slice (some ⟨b,14,none⟩) (rs.length-2) (c+1)/\HeldP wx p x (.cells #[V Z r0.kind,V Z r0.base,V Z r0.loc,V Z r0.n,V Z r0.wr,V Z r0.rd,V Z r0.top] 67)/\HeldP wx p y (.cells #[V Z r1.kind,V Z r1.base,V Z r1.loc,V Z r1.n,V Z r1.wr,V Z r1.rd,V Z r1.top] 67)/\Plays B wx p S/\KeepP B p w wx/\RegsAt [2,3,4] wx p b rs)
  case first =>
   have hS:∀ w',RegsAt [2,3,4] w' p b rs->((w'.cell? ⟨b,0,none⟩=some (V Z r0.kind)/\w'.cell? ⟨b,1,none⟩=some (V Z r0.base)/\w'.cell? ⟨b,2,none⟩=some (V Z r0.loc)/\w'.cell? ⟨b,3,none⟩=some (V Z r0.n)/\w'.cell? ⟨b,4,none⟩=some (V Z r0.wr)/\w'.cell? ⟨b,5,none⟩=some (V Z r0.rd)/\w'.cell? ⟨b,6,none⟩=some (V Z r0.top))/\(w'.cell? ⟨b,7,none⟩=some (V Z r1.kind)/\w'.cell? ⟨b,8,none⟩=some (V Z r1.base)/\w'.cell? ⟨b,9,none⟩=some (V Z r1.loc)/\w'.cell? ⟨b,10,none⟩=some (V Z r1.n)/\w'.cell? ⟨b,11,none⟩=some (V Z r1.wr)/\w'.cell? ⟨b,12,none⟩=some (V Z r1.rd)/\w'.cell? ⟨b,13,none⟩=some (V Z r1.top))):=fun w' y=>by
    obtain⟨a0,a1,a2,a3,a4,a5,a6⟩:=y.nth hrh.out.1
    obtain⟨e0,e1,e2,e3,e4,e5,e6⟩:=y.nth hrh.out.2.1
    exact⟨⟨a0,a1,a2,a3,a4,a5,a6⟩,⟨e0,e1,e2,e3,e4,e5,e6⟩⟩
   have hrg2:=hreg.extL (Ext.refl w1).drew hP.lt
   obtain⟨⟨a0,a1,a2,a3,a4,a5,a6⟩,⟨e0,e1,e2,e3,e4,e5,e6⟩⟩:=hS _ hreg
   go_region_held2 (fun w'=>(w'.cell? ⟨b,0,none⟩=some (V Z r0.kind)/\w'.cell? ⟨b,1,none⟩=some (V Z r0.base)/\w'.cell? ⟨b,2,none⟩=some (V Z r0.loc)/\w'.cell? ⟨b,3,none⟩=some (V Z r0.n)/\w'.cell? ⟨b,4,none⟩=some (V Z r0.wr)/\w'.cell? ⟨b,5,none⟩=some (V Z r0.rd)/\w'.cell? ⟨b,6,none⟩=some (V Z r0.top))/\(w'.cell? ⟨b,7,none⟩=some (V Z r1.kind)/\w'.cell? ⟨b,8,none⟩=some (V Z r1.base)/\w'.cell? ⟨b,9,none⟩=some (V Z r1.loc)/\w'.cell? ⟨b,10,none⟩=some (V Z r1.n)/\w'.cell? ⟨b,11,none⟩=some (V Z r1.wr)/\w'.cell? ⟨b,12,none⟩=some (V Z r1.rd)/\w'.cell? ⟨b,13,none⟩=some (V Z r1.top))) (first | with_reducible exact hS _ hrg2 | go_keep) (fail)
   · rename_i hh
     clear hh
     obtain⟨bx,by',hP2,hK2,hl9⟩:=two_laid hP hreg (.cells #[V Z r0.kind,V Z r0.base,V Z r0.loc,V Z r0.n,V Z r0.wr,V Z r0.rd,V Z r0.top] 67) (.cells #[V Z r1.kind,V Z r1.base,V Z r1.loc,V Z r1.n,V Z r1.wr,V Z r1.rd,V Z r1.top] 67)
     replace hK2:=hK.trans hK2;clear hS hrg2 hreg hP hK a0 a1 a2 a3 a4 a5 a6 e0 e1 e2 e3 e4 e5 e6;go_wp2_with fail
     go_meet
     exact⟨_,_,rfl,rfl,rfl,bx,by',hP2,hK2,hl9⟩
   · rename_i hh
     clear hh
     obtain⟨by',bx,hP2,hK2,hl9⟩:=two_laid hP hreg (.cells #[V Z r1.kind,V Z r1.base,V Z r1.loc,V Z r1.n,V Z r1.wr,V Z r1.rd,V Z r1.top] 67) (.cells #[V Z r0.kind,V Z r0.base,V Z r0.loc,V Z r0.n,V Z r0.wr,V Z r0.rd,V Z r0.top] 67)
     replace hK2:=hK.trans hK2;clear hS hrg2 hreg hP hK a0 a1 a2 a3 a4 a5 a6 e0 e1 e2 e3 e4 e5 e6;go_wp2_with fail
     go_meet
     exact⟨_,_,rfl,rfl,rfl,bx,by',hP2,hK2,hl9⟩
  case rest =>
   clear hreg hP
   obtain⟨x,y,rfl,rfl,hs11,bx,by',hP,hK,hreg⟩:=hcut
   rw [show rs.length-2=N from by have:=hlenh.out;omega] at hs11
   generalize c+1=cc at hs11
   subst hs11;go_wp2_with fail
   refine tstepN (notes_nt 1) hOh.out hK (noteO hP (by unfold maxAns;omega)) (fun _ h=>⟨rfl,h⟩) ?_
   clear hOh hK hP;intro u S1 w2 hlf _ hnn hP hk hK hO;replace hD:=Nat.lt_of_le_of_lt hlf hD
   replace hn0:S1.nts.length<=100001:=by omega
   replace hreg:=hreg.keep hk;replace bx:=bx.keep hk;replace by':=by'.keep hk;have hOh:=Hd hO;clear hO hk;go_wp2_with fail
   refine wp_label ?_
   rename_i hKK
   replace hKK:=Hd hKK
   refine hKK.out _ _ ?_
   exact hfall.out 0 _ _ _ rfl ⟨x,y,b,cc,rfl,rfl,rfl,rfl,rfl,rfl,rfl,.inl ⟨rfl,(hJ0 _ _ _ _ _).2 ⟨D,S1,hP,hK,bx,by',hreg,hD,hn0,hD,hOh⟩⟩⟩
@[go_sem] theorem build_adreg (x y:Value) (a:Int) (w:World) (A1 A2:Option Addr) (n1 c1 n2 c2:Nat) (hx:x=.slice A1 n1 c1) (hy:y=.slice A2 n2 c2):(Instr.build 96 #[(0,x),(1,y),(2,V Z a)]).run Tryz.prog w=.ok (.agg #[x,y,V Z a]) w:=by
 subst hx hy
 exact run_build w 96 _ _ (by kernel_rfl)
set_option maxRecDepth 100000 in
set_option maxHeartbeats 1000000 in
theorem adlay_p (alg mode base loc room me:Int)(N:Nat)(rs:List Reg)(w:World)(h1:1<=N)(h2:N<=8)(hl:layM (adWants N) N mode base loc=some rs)(hlc:0<=loc/\loc<=32768)(hm0:0<=me)(hm1:me<N) :
  Calls Tryz.prog 88 #[.agg #[V Z alg,V Z N,V Z mode,V Z base,V Z loc,V Z room],V Z me] w fun e w'=>∃ b A c2,e=.returned (.tuple #[.agg #[.slice (some ⟨b,0,none⟩) (2*triN N) (2*triN N),.slice A (rs.length-2*triN N) c2,V Z (loc+sumL rs)],V Z 0])/\(rs.length≠2*triN N->A=some ⟨b,2*triN N*7,none⟩)/\rs.length-2*triN N<=c2/\c2<=9223372036854775807/\w.heap.size<=b/\b<w'.heap.size/\(∀ (i:Nat) u,(rs.flatMap regVals)[i]?=some u->w'.cell? ⟨b,i,none⟩=some u)/\Ext w w':=by
 have hlen:=layM_len hl
 rw [adWants_len] at hlen
 have ht:=adTree_le h1 h2
 obtain⟨q1,q2⟩:=triN_le h1 h2
 have hok:∀ r∈rs,r.ok:=fun r hr=>(laid_all hl r hr).1
 have hbd:=sum_bd hok rs.length (Nat.le_refl _)
 rw [List.take_length] at hbd
 have hlen3:rs.length<=261:=by omega
 have hw:=IntWalk.i64_in (loc+sumL rs) (by omega)
 replace hl:=Hd hl
 have hlenh:=Hd hlen
 have hokh:=Hd hok
 have hW:=fun w=>adwants_p N w h1 h2
 have hRW:=fun w=>renwants_p N w h1 h2
 have hwl:(adWants N).length<=1000:=by rw [adWants_len];omega
 obtain⟨L,hL⟩:∃ L,3*(2 ^ levels (triN N:Nat)-1)=L:=⟨_,rfl⟩
 rw [hL] at hlen
 obtain⟨cut,hcut⟩:∃ cut,cut=2*triN N:=⟨_,rfl⟩
 rw [<- hcut] at hRW hlen ⊢
 have hcutn:((2*triN N:Nat):Int)=(cut:Int):=by rw [hcut]
 have hcb:1<=cut/\cut<=72:=by omega
 have hlenc:Hid (rs.length=cut+L):=Hd hlen
 clear hlen hok hbd hL ht hlenh
 have d1:decide (me<0)=false:=by rw [decide_eq_false_iff_not];omega
 have d2:decide ((N:Int)<=me)=false:=by rw [decide_eq_false_iff_not];omega
 have hX:=Ext.refl w
 have b1:=Blk.new w (.cells #[V Z alg,V Z N,V Z mode,V Z base,V Z loc,V Z room] 23)
 replace hX:=hX.alloc (.cells #[V Z alg,V Z N,V Z mode,V Z base,V Z loc,V Z room] 23)
 have c_b1:=b1.cells
 go_enter Tryz.func88,Tryz.ntmps88
 go_wp2_with fail
 have z1:=Blk.new (w.alloc (.cells #[V Z alg,V Z N,V Z mode,V Z base,V Z loc,V Z room] 23)) (.cells #[.slice none 0 0,.slice none 0 0,V Z 0] 96)
 rw [World.size_alloc] at z1
 replace b1:=b1.alloc (.cells #[.slice none 0 0,.slice none 0 0,V Z 0] 96)
 replace hX:=hX.alloc (.cells #[.slice none 0 0,.slice none 0 0,V Z 0] 96)
 clear c_b1
 generalize World.alloc (World.alloc w _) _=W at *
 have hXW:=hX;clear hX
 have hX:=(Ext.refl W).drew
 have hS:∀ w',Ext W w'->(∀ i,w'.cell? ⟨w.heap.size,i,none⟩=(#[V Z alg,V Z N,V Z mode,V Z base,V Z loc,V Z room]:Array Value)[i]?):=fun w' hx=>(b1.ext hx).cells
 go_region_held2 (fun w'=>∀ i,w'.cell? ⟨w.heap.size,i,none⟩=(#[V Z alg,V Z N,V Z mode,V Z base,V Z loc,V Z room]:Array Value)[i]?) (exact hS _ hX)
  (first
    | (go_at_call 98
       refine (hW _).mono ?_
       rintro e w2 ⟨v2,rfl,hw2,hx⟩
       replace hX:=hX.trans hx;have hz2:=hX.size
       clear hx)
    | (go_at_call 163
       refine (layp_some hl.out _ (hw2.ext (Ext.refl _)) hwl).mono ?_
       rintro e w3 ⟨v3,rfl,hr3,hx⟩
       replace hX:=hX.trans hx
       clear hx))
 rename_i hh
 clear hh
 obtain⟨⟨A,c0,rfl,q3,q4,hV⟩,hown⟩:=hr3
 obtain⟨b,rfl,hb,hcells⟩:=hV (by cases rs with | nil=>have:=hlenc.out;simp only [List.length_nil] at this;omega | cons r l=>simp [regVals])
 have hgeW:W.heap.size<=b:=Nat.le_trans hz2 (hown b rfl)
 have hge:w.heap.size<=b:=Nat.le_trans hXW.size hgeW
 have hch:=Hd hcells
 clear hcells hV hown hz2;go_wp2_with fail
 refine (size_p b c0 rs w3 hb hch.out hokh.out (by omega)).mono ?_
 rintro e w4 ⟨rfl,hx4⟩
 have hX4:=hX.trans hx4
 have hcells4:∀ (i:Nat) u,(rs.flatMap regVals)[i]?=some u->w4.cell? ⟨b,i,none⟩=some u:=fun i u hu=>(hx4.cell (p:=⟨b,i,none⟩) hb).trans (hch.out i u hu)
 have hb4:=Nat.lt_of_lt_of_le hb hx4.size
 have c_b4:=(b1.ext hX4).cells
 clear hX hx4 hb hch;go_wp2_with fail
 refine (hRW _).mono ?_
 rintro e w5 ⟨v5,rfl,hown5,hx5⟩
 obtain⟨A5,c5,rfl,_,_,_⟩:=Recs.of_row hown5
 have hX5:=hX4.trans hx5
 have hcells5:∀ (i:Nat) u,(rs.flatMap regVals)[i]?=some u->w5.cell? ⟨b,i,none⟩=some u:=fun i u hu=>(hx5.cell (p:=⟨b,i,none⟩) hb4).trans (hcells4 i u hu)
 have hb5:=Nat.lt_of_lt_of_le hb4 hx5.size
 clear c_b4 hown5 hx5 hcells4 hb4 hX4
 have c_b5:=(b1.ext hX5).cells
 have z5:=z1.ext hX5
 have c_z5:=z5.cells
 have hfz:∀ i,w5.frozen? ⟨w.heap.size+1,i,none⟩=false:=fun i=>by
  have z6:=z5
  unfold Blk at z6
  simp [World.frozen?,z6]
 have hcells5h:=Hd hcells5
 clear hcells5
 have l1:(cut:Int)<=(c0:Int):=by have:=hlenc.out;omega
 have l2:(cut:Int)<=(rs.length:Int):=by have:=hlenc.out;omega
 have l3:(0:Int)<=(cut:Int):=by omega
 go_wp2_with fail
 go_region
 obtain⟨A,hA⟩:∃ A:Option Addr,A=if c0=2*triN N then some ⟨b,0,none⟩ else some ⟨b,2*triN N*7,none⟩:=⟨_,rfl⟩
 rw [<- hA]
 have hA2:Hid (rs.length≠2*triN N->A=some ⟨b,2*triN N*7,none⟩):=Hd fun hne=>by
  rw [hA,if_neg (by have:=hlenc.out;omega)]
 clear hA
 have hne:w.heap.size+1≠b:=by have:=z1.lt;omega
 have hE4:Ext w w5:=hXW.trans hX5
 have hg9:w.heap.size<=w.heap.size+1:=Nat.le_succ _
 have hWW:((w5.setCell ⟨w.heap.size+1,0,none⟩ (.slice (some ⟨b,0,none⟩) (2*triN N) (2*triN N))).setCell ⟨w.heap.size+1,1,none⟩ (.slice A (rs.length-2*triN N) (c0-2*triN N))).setCell ⟨w.heap.size+1,2,none⟩ (V Z (loc+sumL rs))=w5.setCells (w.heap.size+1) 0 [.slice (some ⟨b,0,none⟩) (2*triN N) (2*triN N),.slice A (rs.length-2*triN N) (c0-2*triN N),V Z (loc+sumL rs)]:=rfl
 obtain⟨W6,hW6⟩:∃ W6,W6=w5.setCells (w.heap.size+1) 0 [.slice (some ⟨b,0,none⟩) (2*triN N) (2*triN N),.slice A (rs.length-2*triN N) (c0-2*triN N),V Z (loc+sumL rs)]:=⟨_,rfl⟩
 have z6:W6.heap[w.heap.size+1]?=some (.cells #[.slice (some ⟨b,0,none⟩) (2*triN N) (2*triN N),.slice A (rs.length-2*triN N) (c0-2*triN N),V Z (loc+sumL rs)] 96 (0,0)):=by
  rw [hW6]
  exact heap_setCells_all z5 [.slice (some ⟨b,0,none⟩) (2*triN N) (2*triN N),.slice A (rs.length-2*triN N) (c0-2*triN N),V Z (loc+sumL rs)] rfl
 have hE6:Ext w W6:=by
  rw [hW6]
  exact Ext.setCells hE4 hg9 _ _
 have hB:W6.heap[b]?=w5.heap[b]?:=by
  rw [hW6]
  exact World.heap_setCells_other _ _ _ _ hb5 (fun h=>hne h.symm)
 rw [<- hW6] at hWW
 clear hW6
 have hcl:∀ i,W6.cell? ⟨b,i,none⟩=w5.cell? ⟨b,i,none⟩:=fun i=>World.cell?_of_block (w:=w5) (a:=⟨b,i,none⟩) hB
 have hb6:b<W6.heap.size:=by
  have:W6.heap[b]?=some w5.heap[b]:=by rw [hB];exact Array.getElem?_eq_getElem hb5
  exact (Array.getElem?_eq_some_iff.1 this).1
 have hcells6:Hid (∀ (i:Nat) u,(rs.flatMap regVals)[i]?=some u->W6.cell? ⟨b,i,none⟩=some u):=Hd fun i u hu=>(hcl i).trans (hcells5h.out i u hu)
 have c_z6:=fun i=>cell_of_heap z6 i
 rw [hWW]
 clear c_b5 c_z5 hfz hcl hB hcells5h z5 z1 b1;go_wp2_with fail
 refine bodyPost_ret (v:=.tuple #[.agg #[.slice (some ⟨b,0,none⟩) (2*triN N) (2*triN N),.slice A (rs.length-2*triN N) (c0-2*triN N),V Z (loc+sumL rs)],V Z 0]) (by simp [results,Tryz.results88,go_sem,c_z6]) rfl ?_
 subst hcut
 refine⟨_,_,_,rfl,hA2.out,by omega,by omega,hge,hb6,hcells6.out,hE6.drew⟩
theorem RegsAt.part {ix:List Nat}{p b:Nat}{w:World}{rs:List Reg}(h:RegsAt ix w p b rs)(n:Nat):RegsAt ix w p b (rs.take n):=by
 refine⟨h.1,h.2,fun i u hu=>h.3 i u ?_⟩
 have:rs.flatMap regVals=(rs.take n).flatMap regVals++(rs.drop n).flatMap regVals:=by rw [<- List.flatMap_append,List.take_append_drop]
 rw [this,List.getElem?_append_left (List.getElem?_eq_some_iff.1 hu).1]
 exact hu
theorem climb_bad_p (p n c:Nat)(A:Option Addr)(m place me:Int)(w:World)(h:m<1∨64<m∨place<0∨m<=place) :
  Calls Tryz.prog 91 #[.pointer (some ⟨p,0,none⟩),.slice A n c,V Z 6,V Z m,V Z place,V Z me] w fun e w'=>e=.returned (.tuple #[])/\Ext w w':=by
 have hPth:=fun w=>path_none_p m place w h
 have hN:=fun w=>nodeOf_p 6 w
 rw [show nodeV 6=.agg #[.func (.func 235) #[] #[],.func (.func 236) #[] #[],.func (.func 237) #[] #[]] from by unfold nodeV;rw [if_neg (by decide)];rfl] at hN
 go_enter Tryz.func91,Tryz.ntmps91
 go_wp2_with fail
 refine (hN _).mono ?_
 rintro e w2 ⟨rfl,hx2⟩
 have hx3:=hx2.alloc (.cells #[.func (.func 235) #[] #[],.func (.func 236) #[] #[],.func (.func 237) #[] #[]] 147)
 clear hx2;go_wp2_with fail
 generalize w2.alloc _=W at *
 refine (hPth _).mono ?_
 rintro e w' ⟨rfl,rfl⟩;go_wp2_with fail
 go_loopw [21] (fun i wr=>i=V Z 0/\Ext w wr) (fun _ _=>0)
 case atStart=>exact⟨rfl,hx3⟩
 case round =>
  obtain⟨rfl,hX⟩:=hrel
  clear hx3
  have hf:=Hd hX
  clear hX;go_wp2_with fail
  first | go_end0 | refine bodyPost_ret (results_none rfl _ _ _) rfl ?_
  exact⟨rfl,hf.out⟩
theorem down_bad_p (p n c:Nat)(A:Option Addr)(m place me:Int)(w:World)(h:m<1∨64<m∨place<0∨m<=place) :
  Calls Tryz.prog 94 #[.pointer (some ⟨p,0,none⟩),.slice A n c,V Z 6,V Z m,V Z place,V Z me] w fun e w'=>e=.returned (.tuple #[])/\Ext w w':=by
 have hPth:=fun w=>path_none_p m place w h
 have hN:=fun w=>nodeOf_p 6 w
 rw [show nodeV 6=.agg #[.func (.func 235) #[] #[],.func (.func 236) #[] #[],.func (.func 237) #[] #[]] from by unfold nodeV;rw [if_neg (by decide)];rfl] at hN
 go_enter Tryz.func94,Tryz.ntmps94
 go_wp2_with fail
 refine (hN _).mono ?_
 rintro e w2 ⟨rfl,hx2⟩
 have hx3:=hx2.alloc (.cells #[.func (.func 235) #[] #[],.func (.func 236) #[] #[],.func (.func 237) #[] #[]] 147)
 clear hx2;go_wp2_with fail
 generalize w2.alloc _=W at *
 refine (hPth _).mono ?_
 rintro e w' ⟨rfl,rfl⟩;go_wp2_with fail
 refine (reverse_p (Ext.refl W) (IntRow.nil _ _) (by simp)).mono ?_
 rintro e w4 ⟨rfl,hx4,_⟩
 replace hx3:=hx3.trans hx4;clear hx4;go_wp2_with fail
 go_loopw [25] (fun i wr=>i=V Z 0/\Ext w wr) (fun _ _=>0)
 case atStart=>exact⟨rfl,hx3⟩
 case round =>
  obtain⟨rfl,hX⟩:=hrel
  clear hx3
  have hf:=Hd hX
  clear hX;go_wp2_with fail
  first | go_end0 | refine bodyPost_ret (results_none rfl _ _ _) rfl ?_
  exact⟨rfl,hf.out⟩
theorem adclimb_p (B p D:Nat)(S:TS)(M:Nat)(name me:Int)(rs:List Reg)(o:Nat)(A:Option Addr)(c:Nat)(w:World)(h:Plays B w p S)(h1:1<=M)(h2:M<=64)(hlen:(rs.drop o).length=3*(2 ^ levels M-1))(hc1:(rs.drop o).length<=c)(hc2:c<=9223372036854775807)
  (hreg:rs.drop o≠[]->∃ b,A=some ⟨b,o*7,none⟩/\RegsAt [2,3,4] w p b rs)(hall:∀ r∈rs.drop o,r.ok/\me<r.n/\r.told me)(hm0:0<=me)(hD:S.left<D) :
  Calls Tryz.prog 91 #[.pointer (some ⟨p,0,none⟩),.slice A (rs.drop o).length c,V Z 6,V Z M,V Z name,V Z me] w (Post encU B p w ((adClimb D (rs.drop o) M me name).run S)):=by
 generalize hR:Post encU B p w ((adClimb D (rs.drop o) M me name).run S)=R
 have hO:Owes R encU B p w ((adClimb D (rs.drop o) M me name).run S):=hR▸owes _ _ _ _ _
 clear hR;unfold adClimb at hO
 by_cases hv:0<=name/\name<M
 · rw [if_pos hv] at hO
   obtain⟨k,rfl⟩:=Int.eq_ofNat_of_zero_le hv.1
   rw [Int.toNat_natCast] at hO
   refine tlast hO (Keep.refl [2,3,4] B p w) (climb_o3 B p D S 6 M k me rs (rs.drop o) o rfl A c w h (by decide) h1 h2 (by omega) hlen hc1 hc2 hreg hall hm0 hD) (fun _ h=>h) ?_
   intro u S1 w1 _ hP _ hK hO
   exact hO.done hP hK
 · rw [if_neg hv] at hO
   refine (climb_bad_p p _ c A M name me w (by omega)).mono ?_
   rintro e w1 ⟨rfl,hx⟩
   exact hO.done (v:=()) (h.ext hx) (Keep.of_ext hx h.lt h.le)
theorem addown_p (B p:Nat)(S:TS)(M:Nat)(name me:Int)(rs:List Reg)(o:Nat)(A:Option Addr)(c:Nat)(w:World)(h:Plays B w p S)(h1:1<=M)(h2:M<=64)(hlen:(rs.drop o).length=3*(2 ^ levels M-1))(hc1:(rs.drop o).length<=c)(hc2:c<=9223372036854775807)
  (hreg:rs.drop o≠[]->∃ b,A=some ⟨b,o*7,none⟩/\RegsAt [2,3,4] w p b rs)(hall:∀ r∈rs.drop o,r.ok/\me<r.n/\r.told me)(hm0:0<=me) :
  Calls Tryz.prog 94 #[.pointer (some ⟨p,0,none⟩),.slice A (rs.drop o).length c,V Z 6,V Z M,V Z name,V Z me] w (Post encU B p w ((adDown (rs.drop o) M me name).run S)):=by
 generalize hR:Post encU B p w ((adDown (rs.drop o) M me name).run S)=R
 have hO:Owes R encU B p w ((adDown (rs.drop o) M me name).run S):=hR▸owes _ _ _ _ _
 clear hR;unfold adDown at hO
 by_cases hv:0<=name/\name<M
 · rw [if_pos hv] at hO
   obtain⟨k,rfl⟩:=Int.eq_ofNat_of_zero_le hv.1
   rw [Int.toNat_natCast] at hO
   refine tlast hO (Keep.refl [2,3,4] B p w) (down_o3 B p S 6 M k me rs (rs.drop o) o rfl A c w h (by decide) h1 h2 (by omega) hlen hc1 hc2 hreg hall hm0) (fun _ h=>h) ?_
   intro u S1 w1 _ hP _ hK hO
   exact hO.done hP hK
 · rw [if_neg hv] at hO
   refine (down_bad_p p _ c A M name me w (by omega)).mono ?_
   rintro e w1 ⟨rfl,hx⟩
   exact hO.done (v:=()) (h.ext hx) (Keep.of_ext hx h.lt h.le)
set_option maxRecDepth 100000 in
set_option maxHeartbeats 1000000 in
theorem adacq_p (B p N D:Nat)(S:TS)(alg mode base loc room:Int)(m:Nat)(rs:List Reg)(w:World)(h:Plays B w p S)(h1:1<=N)(h2:N<=8)(hm1:m<N)(hl:layM (adWants N) N mode base loc=some rs)(hlc:0<=loc/\loc<=32768)
  (hall:∀ r∈rs,r.ok/\r.n=N)(htold:∀ r∈rs.drop (2*triN N),r.told m)(hD:S.left<D)(hn0:S.nts.length<=100000) :
  Calls Tryz.prog 15 #[.pointer (some ⟨p,0,none⟩),.agg #[V Z alg,V Z N,V Z mode,V Z base,V Z loc,V Z room],V Z m] w (Post encI B p w ((adA D rs (loc+sumL rs) N m).run S)):=by
 have hlen:=layM_len hl
 rw [adWants_len] at hlen
 obtain⟨q1,q2⟩:=triN_le h1 h2
 have ht:=adTree_le h1 h2
 generalize hR:Post encI B p w ((adA D rs (loc+sumL rs) N m).run S)=R
 have hO:Owes R encI B p w ((adA D rs (loc+sumL rs) N m).run S):=hR▸owes _ _ _ _ _
 clear hR
 obtain⟨b1,hK,hP⟩:=h.entry (.cells #[V Z alg,V Z N,V Z mode,V Z base,V Z loc,V Z room] 23)
 have c_b1:=b1.cells;clear h;unfold adA at hO
 have hlay:=fun w=>adlay_p alg mode base loc room m N rs w h1 h2 hl hlc (by omega) (by omega)
 have hS:=fun w=>gsize_p N (by omega) w
 have hdl:(rs.drop (2*triN N)).length=3*(2 ^ levels (triN N:Nat)-1):=by rw [List.length_drop];omega
 have hdl2:rs.length-2*triN N=(rs.drop (2*triN N)).length:=by rw [List.length_drop]
 have htk:(rs.take (2*triN N)).length=2*triN N:=by rw [List.length_take];omega
 have hdall:∀ r∈rs.drop (2*triN N),r.ok/\(m:Int)<r.n/\r.told m:=fun r hr=>by
  have q:=hall r (List.mem_of_mem_drop hr)
  refine⟨q.1,by rw [q.2];omega,htold r hr⟩
 have htall:∀ r∈rs.take (2*triN N),r.ok/\r.n=N:=fun r hr=>hall r (List.mem_of_mem_take hr)
 have hdlh:=Hd (And.intro hdl (And.intro hdl2 (And.intro htk (And.intro hdall htall))))
 clear hlen ht hdl hdl2 htk hdall htall hl hall htold;have hOh:=Hd hO;clear hO
 go_enter Tryz.func15,Tryz.ntmps15
 go_wp2_with fail
 refine (hlay _).mono ?_
 rintro e w1 ⟨b,A,c2,rfl,hA,qc1,qc2,hge,hb,hcells,hx⟩
 have hreg:RegsAt [2,3,4] w1 p b rs:=⟨hb,hP.fresh hx hge,hcells⟩
 replace hK:=hK.trans (Keep.of_ext hx hP.lt hP.le);replace b1:=b1.ext hx hP.lt;replace hP:=hP.ext hx;clear hx hcells hge hb c_b1 hlay
 have hqch:=Hd (And.intro hA (And.intro qc1 qc2))
 clear hA qc1 qc2
 generalize w.heap.size=z at *
 have c_b1:=b1.cells;go_wp2_with fail
 have hreg2:=hreg.extL ((Ext.refl w1).alloc (.cells #[.slice (some ⟨b,0,none⟩) (2*triN N) (2*triN N),.slice A (rs.length-2*triN N) c2,V Z (loc+sumL rs)] 96)) hP.lt
 clear hreg;have hreg:=hreg2;clear hreg2
 have b2:=hP.held (.cells #[.slice (some ⟨b,0,none⟩) (2*triN N) (2*triN N),.slice A (rs.length-2*triN N) c2,V Z (loc+sumL rs)] 96)
 clear c_b1
 replace b1:=b1.alloc (.cells #[.slice (some ⟨b,0,none⟩) (2*triN N) (2*triN N),.slice A (rs.length-2*triN N) c2,V Z (loc+sumL rs)] 96) hP.lt
 replace hK:=hK.trans (Keep.alloc (.cells #[.slice (some ⟨b,0,none⟩) (2*triN N) (2*triN N),.slice A (rs.length-2*triN N) c2,V Z (loc+sumL rs)] 96) hP.lt hP.le)
 replace hP:=hP.alloc (.cells #[.slice (some ⟨b,0,none⟩) (2*triN N) (2*triN N),.slice A (rs.length-2*triN N) c2,V Z (loc+sumL rs)] 96)
 have c_b1:=b1.cells;have c_b2:=b2.cells
 generalize w1.heap.size=y at *
 generalize w1.alloc _=W1 at *
 go_wp2_with fail
 refine tstepN (notes_nt 1) hOh.out hK (noteO hP (by unfold maxAns;omega)) (fun _ h=>⟨rfl,h⟩) ?_
 clear hOh hK hP;intro u S1 wn hlf _ hnn hP hk hK hO;replace hD:=Nat.lt_of_le_of_lt hlf hD
 replace hn0:S1.nts.length<=100001:=by omega
 replace b1:=b1.keep hk;replace b2:=b2.keep hk;replace hreg:=hreg.keep hk;clear hk hnn hlf c_b1 c_b2;have hOh:=Hd hO;clear hO;have c_b1:=b1.cells;have c_b2:=b2.cells;go_wp2_with fail
 clear c_b1 c_b2
 have hgn:=getname_p B p N S1 (rs.take (2*triN N)) (loc+sumL rs) m b 0 _ hP (hreg.part _) hdlh.out.2.2.1 hdlh.out.2.2.2.2 h1 h2 hm1 (by omega)
 rw [hdlh.out.2.2.1,Nat.zero_add] at hgn
 refine tstepN (notes_getM _ _ _ _) hOh.out hK hgn (fun _ h=>⟨rfl,h⟩) ?_
 clear hOh hK hP hgn;intro name S2 wn hlf _ hnn hP hk hK hO;replace hD:=Nat.lt_of_le_of_lt hlf hD
 replace hn0:S2.nts.length<=100001:=by omega
 replace b1:=b1.keep hk;replace b2:=b2.keep hk;replace hreg:=hreg.keep hk;clear hk hnn hlf;go_wp2_with fail
 replace hP:=hP.drew;replace hK:=hK.drew;replace b1:=b1.drew;replace b2:=b2.drew
 replace hreg:=hreg.extL (Ext.refl _).drew hP.lt
 have c_b1:=b1.cells;have c_b2:=b2.cells
 go_region_held2 (fun w'=>(∀ i:Nat,w'.cell? ⟨z,i,none⟩=(#[V Z alg,V Z N,V Z mode,V Z base,V Z loc,V Z room]:Array Value)[i]?)/\(∀ i:Nat,w'.cell? ⟨y,i,none⟩=(#[.slice (some ⟨b,0,none⟩) (2*triN N) (2*triN N),.slice A (rs.length-2*triN N) c2,V Z (loc+sumL rs)]:Array Value)[i]?)) (first | with_reducible exact⟨c_b1,c_b2⟩ | go_keep)
  (first
    | (go_at_call 92
       refine (hS _).mono ?_
       rintro e w' ⟨rfl,rfl⟩)
    | (go_at_call 91
       rw [hdlh.out.2.1]
       refine tstepN (notes_adClimb _ _ _ _ _) hO hK (adclimb_p B p D S2 (triN N) name m rs (2*triN N) A c2 _ hP q1 (by omega) hdlh.out.1 (by rw [<- hdlh.out.2.1];exact hqch.out.2.1) hqch.out.2.2 (fun hne=>⟨b,hqch.out.1 (fun he=>hne (List.eq_nil_of_length_eq_zero (by rw [<- hdlh.out.2.1,he];omega))),hreg⟩) hdlh.out.2.2.2.1 (by omega) hD) (fun _ h=>⟨rfl,h⟩) ?_
       clear hO hK hP c_b1 c_b2;intro u S3 w3 hlf _ hnn hP hk hK hO
       replace hn0:S3.nts.length<=100001:=by omega
       replace b1:=b1.keep hk;replace b2:=b2.keep hk;have c_b1:=b1.cells;have c_b2:=b2.cells
       clear hk hnn hlf hreg))
 have hOh:=Hd hO;clear hO c_b1 c_b2;go_wp2_with fail
 refine tstepN (notes_nt 3) hOh.out hK (noteO hP (by unfold maxAns;omega)) (fun _ h=>⟨rfl,h⟩) ?_
 clear hOh hK hP;intro u S9 w9 _ _ _ hP _ hK hO
 have hf:=hO.done (v:=(0:Int)) hP hK
 clear hO hP hK;go_wp2_with fail
 first | exact hf | (go_ret;exact hf)
set_option maxRecDepth 100000 in
set_option maxHeartbeats 1000000 in
theorem adrel_p (B p N:Nat)(S:TS)(alg mode base loc room:Int)(m:Nat)(rs:List Reg)(w:World)(h:Plays B w p S)(h1:1<=N)(h2:N<=8)(hm1:m<N)(hl:layM (adWants N) N mode base loc=some rs)(hlc:0<=loc/\loc<=32768)
  (hall:∀ r∈rs,r.ok/\r.n=N)(htold:∀ r∈rs.drop (2*triN N),r.told m)(hn0:S.nts.length<=100000) :
  Calls Tryz.prog 19 #[.pointer (some ⟨p,0,none⟩),.agg #[V Z alg,V Z N,V Z mode,V Z base,V Z loc,V Z room],V Z m] w (Post encU B p w ((adR rs (loc+sumL rs) N m).run S)):=by
 have hlen:=layM_len hl
 rw [adWants_len] at hlen
 obtain⟨q1,q2⟩:=triN_le h1 h2
 have ht:=adTree_le h1 h2
 generalize hR:Post encU B p w ((adR rs (loc+sumL rs) N m).run S)=R
 have hO:Owes R encU B p w ((adR rs (loc+sumL rs) N m).run S):=hR▸owes _ _ _ _ _
 clear hR
 obtain⟨b1,hK,hP⟩:=h.entry (.cells #[V Z alg,V Z N,V Z mode,V Z base,V Z loc,V Z room] 23)
 have c_b1:=b1.cells;clear h;unfold adR at hO
 have hlay:=fun w=>adlay_p alg mode base loc room m N rs w h1 h2 hl hlc (by omega) (by omega)
 have hS:=fun w=>gsize_p N (by omega) w
 have hdl:(rs.drop (2*triN N)).length=3*(2 ^ levels (triN N:Nat)-1):=by rw [List.length_drop];omega
 have hdl2:rs.length-2*triN N=(rs.drop (2*triN N)).length:=by rw [List.length_drop]
 have htk:(rs.take (2*triN N)).length=2*triN N:=by rw [List.length_take];omega
 have hdall:∀ r∈rs.drop (2*triN N),r.ok/\(m:Int)<r.n/\r.told m:=fun r hr=>by
  have q:=hall r (List.mem_of_mem_drop hr)
  refine⟨q.1,by rw [q.2];omega,htold r hr⟩
 have htall:∀ r∈rs.take (2*triN N),r.ok/\r.n=N:=fun r hr=>hall r (List.mem_of_mem_take hr)
 have hdlh:=Hd (And.intro hdl (And.intro hdl2 (And.intro htk (And.intro hdall htall))))
 clear hlen ht hdl hdl2 htk hdall htall hl hall htold;have hOh:=Hd hO;clear hO
 go_enter Tryz.func19,Tryz.ntmps19
 go_wp2_with fail
 refine (hlay _).mono ?_
 rintro e w1 ⟨b,A,c2,rfl,hA,qc1,qc2,hge,hb,hcells,hx⟩
 have hreg:RegsAt [2,3,4] w1 p b rs:=⟨hb,hP.fresh hx hge,hcells⟩
 replace hK:=hK.trans (Keep.of_ext hx hP.lt hP.le);replace b1:=b1.ext hx hP.lt;replace hP:=hP.ext hx;clear hx hcells hge hb c_b1 hlay
 have hqch:=Hd (And.intro hA (And.intro qc1 qc2))
 clear hA qc1 qc2
 generalize w.heap.size=z at *
 have c_b1:=b1.cells;go_wp2_with fail
 have hreg2:=hreg.extL ((Ext.refl w1).alloc (.cells #[.slice (some ⟨b,0,none⟩) (2*triN N) (2*triN N),.slice A (rs.length-2*triN N) c2,V Z (loc+sumL rs)] 96)) hP.lt
 clear hreg;have hreg:=hreg2;clear hreg2
 have b2:=hP.held (.cells #[.slice (some ⟨b,0,none⟩) (2*triN N) (2*triN N),.slice A (rs.length-2*triN N) c2,V Z (loc+sumL rs)] 96)
 clear c_b1
 replace b1:=b1.alloc (.cells #[.slice (some ⟨b,0,none⟩) (2*triN N) (2*triN N),.slice A (rs.length-2*triN N) c2,V Z (loc+sumL rs)] 96) hP.lt
 replace hK:=hK.trans (Keep.alloc (.cells #[.slice (some ⟨b,0,none⟩) (2*triN N) (2*triN N),.slice A (rs.length-2*triN N) c2,V Z (loc+sumL rs)] 96) hP.lt hP.le)
 replace hP:=hP.alloc (.cells #[.slice (some ⟨b,0,none⟩) (2*triN N) (2*triN N),.slice A (rs.length-2*triN N) c2,V Z (loc+sumL rs)] 96)
 have c_b1:=b1.cells;have c_b2:=b2.cells
 generalize w1.heap.size=y at *
 generalize w1.alloc _=W1 at *
 go_wp2_with fail
 refine tstepN (notes_nt 5) hOh.out hK (noteO hP (by unfold maxAns;omega)) (fun _ h=>⟨rfl,h⟩) ?_
 clear hOh hK hP;intro u S1 wn _ _ _ hP hk hK hO;replace b1:=b1.keep hk;replace b2:=b2.keep hk;replace hreg:=hreg.keep hk;clear hk c_b1 c_b2;rw [run_gt] at hO
 obtain⟨had,hhad⟩:∃ x,S1.got (loc+sumL rs)=x:=⟨_,rfl⟩
 rw [hhad] at hO
 obtain⟨name,hname⟩:∃ x,wrap64 (had-1)=x:=⟨_,rfl⟩
 rw [hname] at hO;go_wp2_with fail
 replace hP:=hP.drew;replace hK:=hK.drew;replace b1:=b1.drew;replace b2:=b2.drew
 replace hreg:=hreg.extL (Ext.refl _).drew hP.lt
 have c_b1:=b1.cells;have c_b2:=b2.cells
 have hw1:IntKind.i64.wrap (had-1)=name:=by rw [<- hname,IntKind.wrap_i64];first | rfl | (unfold wrap64;omega)
 go_region_held2 (fun w'=>(∀ i:Nat,w'.cell? ⟨z,i,none⟩=(#[V Z alg,V Z N,V Z mode,V Z base,V Z loc,V Z room]:Array Value)[i]?)/\(∀ i:Nat,w'.cell? ⟨y,i,none⟩=(#[.slice (some ⟨b,0,none⟩) (2*triN N) (2*triN N),.slice A (rs.length-2*triN N) c2,V Z (loc+sumL rs)]:Array Value)[i]?)) (first | with_reducible exact⟨c_b1,c_b2⟩ | go_keep)
  (first
    | (go_at_call 92
       refine (hS _).mono ?_
       rintro e w' ⟨rfl,rfl⟩)
    | (go_at_call 95
       refine (get_p B p S1 (loc+sumL rs) _ hP).mono ?_
       rintro e w' ⟨rfl,rfl⟩
       rw [hhad])
    | (go_at_call 94
       rw [hdlh.out.2.1]
       refine tlast hO hK (addown_p B p S1 (triN N) name m rs (2*triN N) A c2 _ hP q1 (by omega) hdlh.out.1 (by rw [<- hdlh.out.2.1];exact hqch.out.2.1) hqch.out.2.2 (fun hne=>⟨b,hqch.out.1 (fun he=>hne (List.eq_nil_of_length_eq_zero (by rw [<- hdlh.out.2.1,he];omega))),hreg⟩) hdlh.out.2.2.2.1 (by omega)) (fun _ h=>⟨rfl,h⟩) ?_
       clear hO hK hP c_b1 c_b2;intro u S3 w3 hr hP hk hK hO;replace b1:=b1.keep hk;replace b2:=b2.keep hk;have c_b1:=b1.cells;have c_b2:=b2.cells
       clear hk hr hreg))
 have hf:=hO.done hP hK
 clear hO hP hK c_b1 c_b2;go_wp2_with fail
 first | exact hf | go_end0 | (refine bodyPost_ret (results_none rfl _ _ _) rfl ?_)
 all_goals exact hf
theorem sizes_p (alg N mode base loc room:Int)(w:World)(h1:1<=N/\N<=8)(h2:1<=room/\room<=1048576) :
  Calls Tryz.prog 365 #[.agg #[V Z alg,V Z N,V Z mode,V Z base,V Z loc,V Z room]] w fun e w'=>e=.returned (.tuple #[V Z N,V Z room])/\Ext w w':=by
 have e1:min (max N 1) 8=N:=by omega
 have e2:min (max room 1) 1048576=room:=by omega
 have hX:=Ext.refl w
 have b1:=Blk.new w (.cells #[V Z alg,V Z N,V Z mode,V Z base,V Z loc,V Z room] 23)
 replace hX:=hX.alloc (.cells #[V Z alg,V Z N,V Z mode,V Z base,V Z loc,V Z room] 23)
 have c_b1:=b1.cells
 go_enter Tryz.func365,Tryz.ntmps365
 go_wp2_with fail
 go_quiet (fail)
 go_wp2_with fail
 first | go_ret2 | go_ret
 exact⟨rfl,hX.drewN _⟩
set_option maxRecDepth 100000 in
set_option maxHeartbeats 4000000 in
theorem bakacq_p (B p N D:Nat)(S:TS)(alg mode base loc room:Int)(m:Nat)(w:World)(h:Plays B w p S)(h1:1<=N)(h2:N<=8)(hm1:m<N)(hba:0<=base/\base<=32768)(hro:1<=room/\room<=1048576)
  (hta:TameA S)(hD:S.left<D)(hn0:S.nts.length<=100000) :
  Calls Tryz.prog 360 #[.pointer (some ⟨p,0,none⟩),.agg #[V Z alg,V Z N,V Z mode,V Z base,V Z loc,V Z room],V Z m] w (Post encI B p w ((bakA D base N room loc m).run S)):=by
 generalize hR:Post encI B p w ((bakA D base N room loc m).run S)=R
 have hO:Owes R encI B p w ((bakA D base N room loc m).run S):=hR▸owes _ _ _ _ _
 clear hR
 obtain⟨b1,hK,hP⟩:=h.entry (.cells #[V Z alg,V Z N,V Z mode,V Z base,V Z loc,V Z room] 23)
 have c_b1:=b1.cells;clear h;unfold bakA at hO
 have hsz:=fun w=>sizes_p alg N mode base loc room w (by omega) hro
 have hw1:=IntWalk.i64_in (base+(N:Int)) (by omega)
 have hw2:=IntWalk.i64_in (base+(m:Int)) (by omega)
 have hw3:=IntWalk.i64_in (base+(N:Int)+(m:Int)) (by omega)
 have hmN:(m:Int)<(N:Int):=by omega
 have hOh:=Hd hO;clear hO
 go_enter Tryz.func360,Tryz.ntmps360
 go_wp2_with fail
 refine (hsz _).mono ?_
 rintro e w1 ⟨rfl,hx⟩
 replace hK:=hK.trans (Keep.of_ext hx hP.lt hP.le);replace b1:=b1.ext hx hP.lt;replace hP:=hP.ext hx;clear hx c_b1 hsz;have c_b1:=b1.cells;go_wp2_with fail
 go_quiet (fail)
 replace hK:=hK.drewN nq
 replace b1:=b1.ext ((Ext.refl w1).drewN nq) hP.lt
 replace hP:=hP.ext ((Ext.refl w1).drewN nq)
 clear c_b1;go_wp2_with fail
 generalize w.heap.size=z at *
 generalize w1.drewN nq=W1 at *
 refine tstepA (notes_nt 1) hOh.out hK (noteO hP (by unfold maxAns;omega)) (fun _ h=>⟨rfl,h⟩) ?_
 clear hOh hK hP;intro u S1 wn hrun hlf hla hnn hP hk hK hO;replace hD:=Nat.lt_of_le_of_lt hlf hD
 replace hn0:S1.nts.length<=100001:=by omega
 replace hta:=hta.run hrun;replace b1:=b1.keep hk;clear hk hnn hrun;have hOh:=Hd hO;clear hO;go_wp2_with fail
 refine tstepA (notes_wr _ _) hOh.out hK (write_p B p S1 _ _ _ hP) (fun _ h=>⟨rfl,h⟩) ?_
 clear hOh hK hP;intro u S2 wn hrun hlf hla hnn hP hk hK hO;replace hD:=Nat.lt_of_le_of_lt hlf hD
 replace hn0:S2.nts.length<=100001:=by omega
 replace hta:=hta.run hrun;replace b1:=b1.keep hk;clear hk hnn hrun;have hOh:=Hd hO;clear hO
 obtain⟨F,hF⟩:∃ F:Int->Prog Int,F=bakIn D base N room loc m:=⟨_,rfl⟩
 replace hO:=hOh.out
 rw [<- hF,Int.toNat_natCast] at hO
 clear hOh;have hOh:=Hd hO
 have hFh:=Hd hF
 clear hO hF;go_wp2_with fail
 go_loopw [11,34] (fun u i wr=>∃ (j:Nat) (tv:Int) (S5:TS),i=V Z j/\u=V Z tv/\0<=tv/\tv<=1048576/\j<=N/\Plays B wr p S5/\KeepP B p w wr/\HeldP wr p z (.cells #[V Z alg,V Z N,V Z mode,V Z base,V Z loc,V Z room] 23)/\S5.left<D/\S5.nts.length<=100001/\TameA S5/\Hid (Owes R encI B p w (((forP (fun j t=>(rd (base+N+j)).bind fun x=>.ret (max t x)) (ranksFrom m (N-j) j) tv).bind F).run S5))) (fun _ i _=>N-(intOf i).toNat)
 case atStart=>exact⟨0,0,S2,rfl,rfl,by omega,by omega,by omega,hP,hK,b1,hD,hn0,hta,hOh⟩
 case round =>
  clear hP hK b1 hD hn0 hta hOh
  obtain⟨j,tv,S5,rfl,rfl,ht0,ht1,hj,hP,hK,b1,hD,hn0,hta,hOh⟩:=hrel
  by_cases hjN:j<N
  · have dj:decide ((j:Int)<(N:Int))=true:=by rw [decide_eq_true_eq];omega
    obtain⟨g,hg⟩:∃ g,N-j=g+1:=⟨N-j-1,by omega⟩
    by_cases hjm:j=m
    · subst hjm
      replace hO:=hOh.out
      rw [hg,ranks_skip,show g=N-(j+1) from by omega] at hO
      have hf:=Hd hO
      clear hO hOh hg
      have djm:((j:Int) != (j:Int))=false:=by simp
      go_wp2_with fail
      refine⟨⟨j+1,tv,S5,by go_num,rfl,ht0,ht1,by omega,hP,hK,b1,by omega,by omega,hta,hf⟩,?_⟩
      simp [intOf];omega
    · have djm:((j:Int) != (m:Int))=true:=by rw [bne_iff_ne];omega
      have hw4:=IntWalk.i64_in (base+(N:Int)+(j:Int)) (by omega)
      replace hO:=hOh.out
      rw [hg,ranks_cons _ _ _ (by omega),bakMost_cons,show g=N-(j+1) from by omega] at hO
      clear hOh;have hOh:=Hd hO;clear hO hg;go_wp2_with fail
      refine tstepA (notes_rd _) hOh.out hK (read_p B p S5 _ _ hP) (fun _ h=>⟨rfl,h⟩) ?_
      clear hOh hK hP;intro x S6 wn hrun hlf hla hnn hP hk hK hO
      have hxb:=rd_bd hta hrun
      replace hD:=Nat.lt_of_le_of_lt hlf hD
      replace hn0:S6.nts.length<=100001:=by omega
      replace hta:=hta.run hrun;replace b1:=b1.keep hk;clear hk hnn hrun;have hOh:=Hd hO;clear hO;clear hlf hla
      have hx2:0<=max tv x/\max tv x<=1048576:=by omega
      go_wp2_with fail
      refine⟨⟨j+1,max tv x,S6,by go_num,rfl,hx2.1,hx2.2,by omega,hP,hK,b1,by omega,by omega,hta,hOh⟩,?_⟩
      simp [intOf];omega
  · obtain rfl:N=j:=by omega
    have dj:decide ((N:Int)<(N:Int))=false:=by simp
    replace hO:=hOh.out;rw [Nat.sub_self,ranks_zero,forP_nilB,hFh.out] at hO;unfold bakIn at hO
    have hw4:=IntWalk.i64_in (tv+1) (by omega)
    have c_b1:=b1.cells;clear hOh
    by_cases hfull:room<tv+1
    · have df:decide (room<tv+1)=true:=by rw [decide_eq_true_eq];exact hfull
      rw [if_pos hfull] at hO;have hOh:=Hd hO;clear hO hfull;go_wp2_with fail
      clear c_b1
      refine tstepA (notes_wr _ _) hOh.out hK (write_p B p S5 _ _ _ hP) (fun _ h=>⟨rfl,h⟩) ?_
      clear hOh hK hP;intro u S6 wn hrun hlf hla hnn hP hk hK hO;replace hD:=Nat.lt_of_le_of_lt hlf hD
      replace hn0:S6.nts.length<=100001:=by omega
      replace hta:=hta.run hrun;replace b1:=b1.keep hk;clear hk hnn hrun;have hOh:=Hd hO;clear hO;go_wp2_with fail
      refine tstepN (notes_nt 4) hOh.out hK (noteO hP (by unfold maxAns;omega)) (fun _ h=>⟨rfl,h⟩) ?_
      clear hOh hK hP;intro u S9 w9 _ _ _ hP _ hK hO
      have hf:=hO.done (v:=(11:Int)) hP hK
      clear hO hP hK;go_wp2_with fail
      first | exact hf | (go_ret;exact hf)
    · have df:decide (room<tv+1)=false:=by rw [decide_eq_false_iff_not];exact hfull
      rw [if_neg hfull] at hO;have hOh:=Hd hO;clear hO hfull;go_wp2_with fail
      clear c_b1
      refine tstepA (notes_wr _ _) hOh.out hK (write_p B p S5 _ _ _ hP) (fun _ h=>⟨rfl,h⟩) ?_
      clear hOh hK hP;intro u S6 wn hrun hlf hla hnn hP hk hK hO;replace hD:=Nat.lt_of_le_of_lt hlf hD
      replace hn0:S6.nts.length<=100001:=by omega
      replace hta:=hta.run hrun;replace b1:=b1.keep hk;clear hk hnn hrun;have hOh:=Hd hO;clear hO;have c_b1:=b1.cells;go_wp2_with fail
      clear c_b1
      refine tstepA (notes_st _ _) hOh.out hK (setO hP) (fun _ h=>⟨rfl,h⟩) ?_
      clear hOh hK hP;intro u S7 wn hrun hlf hla hnn hP hk hK hO;replace hD:=Nat.lt_of_le_of_lt hlf hD
      replace hn0:S7.nts.length<=100001:=by omega
      replace hta:=hta.run hrun;replace b1:=b1.keep hk;clear hk hnn hrun;have hOh:=Hd hO;clear hO;go_wp2_with fail
      refine tstepA (notes_wr _ _) hOh.out hK (write_p B p S7 _ _ _ hP) (fun _ h=>⟨rfl,h⟩) ?_
      clear hOh hK hP;intro u S8 wn hrun hlf hla hnn hP hk hK hO;replace hD:=Nat.lt_of_le_of_lt hlf hD
      replace hn0:S8.nts.length<=100001:=by omega
      replace hta:=hta.run hrun;replace b1:=b1.keep hk;clear hk hnn hrun;have hOh:=Hd hO;clear hO;go_wp2_with fail
      refine tstepA (notes_nt 2) hOh.out hK (noteO hP (by unfold maxAns;omega)) (fun _ h=>⟨rfl,h⟩) ?_
      clear hOh hK hP;intro u S9 wn hrun hlf hla hnn hP hk hK hO;replace hD:=Nat.lt_of_le_of_lt hlf hD
      replace hn0:S9.nts.length<=100002:=by omega
      replace hta:=hta.run hrun;replace b1:=b1.keep hk;clear hk hnn hrun;have hOh:=Hd hO;clear hO
      obtain⟨G,hG⟩:∃ G:Unit->Prog Int,G=fun _=>(nt 3).bind fun _=>.ret 0:=⟨_,rfl⟩
      replace hO:=hOh.out
      rw [<- hG,Int.toNat_natCast] at hO
      clear hOh;have hOh:=Hd hO
      have hGh:=Hd hG
      clear hO hG b1
      generalize hT:tv+1=T at *
      have hT0:1<=T/\T<=1048577:=by omega
      clear hT hw4 df;go_wp2_with fail
      go_loopw [79] (fun i wr=>∃ (j:Nat) (S5:TS),i=V Z j/\j<=N/\Plays B wr p S5/\KeepP B p w wr/\S5.left<D/\S5.nts.length<=100002/\TameA S5/\Hid (Owes R encI B p w (((forP (fun j _=>bakFor D base N m T j) (ranksFrom m (N-j) j) ()).bind G).run S5))) (fun i _=>N-(intOf i).toNat)
      case atStart=>exact⟨0,S9,rfl,by omega,hP,hK,hD,hn0,hta,hOh⟩
      case round =>
       clear hP hK hD hn0 hta hOh
       obtain⟨j,S5,rfl,hj,hP,hK,hD,hn0,hta,hOh⟩:=hrel
       by_cases hjN:j<N
       · have dj:decide ((j:Int)<(N:Int))=true:=by rw [decide_eq_true_eq];omega
         obtain⟨g,hg⟩:∃ g,N-j=g+1:=⟨N-j-1,by omega⟩
         go_wp2_with fail
         rename_i hKK
         replace hKK:=Hd hKK
         by_cases hjm:j=m
         · subst hjm
           replace hO:=hOh.out
           rw [hg,ranks_skip,show g=N-(j+1) from by omega] at hO
           have hf:=Hd hO
           clear hO hOh hg
           have djm:((j:Int)==(j:Int))=true:=by simp
           refine wp_scope_straight ?_
           go_wp2_with fail
           refine hKK.out _ _ ?_
           go_wp2_with fail
           refine⟨⟨j+1,S5,by go_num,by omega,hP,hK,by omega,by omega,hta,hf⟩,?_⟩
           simp [intOf];omega
         · have djm:((j:Int)==(m:Int))=false:=by rw [beq_eq_false_iff_ne];omega
           have hw5:=IntWalk.i64_in (base+(j:Int)) (by omega)
           have hw6:=IntWalk.i64_in (base+(N:Int)+(j:Int)) (by omega)
           obtain⟨H,hH⟩:∃ H:Unit->Prog Int,H=fun _=>(forP (fun j _=>bakFor D base N m T j) (ranksFrom m (N-(j+1)) ((j:Int)+1)) ()).bind G:=⟨_,rfl⟩
           replace hO:=hOh.out
           rw [hg,ranks_cons _ _ _ (by omega),forP_consB,show g=N-(j+1) from by omega,<- hH] at hO
           unfold bakFor at hO;rw [Prog.bind_assoc] at hO
           have hHh:=Hd hH
           have hOh2:=Hd hO
           clear hO hOh hg hH
           obtain⟨J0,hJ0⟩:∃ J0:World->Prop,∀ wr,J0 wr↔∃ (n:Nat) (S6:TS),Plays B wr p S6/\KeepP B p w wr/\S6.left<D/\S6.nts.length<=100002/\TameA S6/\S6.left<n/\Hid (Owes R encI B p w (((zeroC (base+j) n).bind fun _=>(bakWait (base+N+j) T m j D).bind H).run S6)):=⟨_,fun _=>Iff.rfl⟩
           obtain⟨J1,hJ1⟩:∃ J1:World->Prop,∀ wr,J1 wr↔∃ (n:Nat) (S6:TS),Plays B wr p S6/\KeepP B p w wr/\S6.left<D/\S6.nts.length<=100002/\TameA S6/\S6.left<n/\Hid (Owes R encI B p w (((bakWait (base+N+j) T m j n).bind H).run S6)):=⟨_,fun _=>Iff.rfl⟩
           refine wp_scope_mask [false,false,false,false,false,false,false,false,false,false,false,false,false,false,true,false,false,false,false,false,false,false,false,false,false,false,false,false,false,false,false,false,false,false,false,false,false,false,false,false,false,false,false,false,false,false,false,false,false,false,false,false,false,false,false,false,false,false,false,false,false,false,false,false,false,false,false,false,false,false,false,false,false,false,false,false,false,false,false,false,false,false,true,true,true,true,true,true,true,true,true,true,true,true,true,true,true,true,true,true,true,true,true,true,true,true,true,true,true,true,true,true,true] (fun l wr=>l=0/\J0 wr∨l=1/\J1 wr) (fun _ wr=>leftW 1 3 wr p) ?pass ?first
           case first =>
            intro hfall
            refine (fun (hfall:Hid _)=>?_) (Hd hfall)
            go_wp2_with fail
            refine wp_label ?_
            rename_i hKK2
            replace hKK2:=Hd hKK2
            refine hKK2.out _ _ ?_
            exact hfall.out 0 _ _ _ rfl ⟨rfl,rfl,rfl⟩ (.inl ⟨rfl,(hJ0 _).2 ⟨D,S5,hP,hK,hD,hn0,hta,hD,hOh2⟩⟩)
           case pass =>
            clear hP hK hD hn0 hta hOh2;intro l wq hrel ih
            refine (fun (ih:Hid _)=>?_) (Hd ih)
            dsimp only [FrG]
            intro u14 u82 u83 u84 u85 u86 u87 u88 u89 u90 u91 u92 u93 u94 u95 u96 u97 u98 u99 u100 u101 u102 u103 u104 u105 u106 u107 u108 u109 u110 u111 u112
            rcases hrel with⟨rfl,hrel⟩ | ⟨rfl,hrel⟩
            · rw [hJ0] at hrel
              obtain⟨n,S6,hP,hK,hD,hn0,hta,hDn,hOh⟩:=hrel
              cases n with
              | zero=>omega
              | succ n =>
                refine⟨_,rfl,?_⟩
                replace hO:=hOh.out;rw [zeroC_bind] at hO;clear hOh;have hOh:=Hd hO;clear hO
                have hlw:=Hd hP.left
                go_wp2_with fail
                refine tstepA (notes_rd _) hOh.out hK (read_p B p S6 _ _ hP) (fun _ h=>⟨rfl,h⟩) ?_
                clear hOh hK hP;intro x S7 wn hrun hlf hla hnn hP hk hK hO
                have hlt:=hla (asks_rd _)
                replace hD:=Nat.lt_of_le_of_lt hlf hD
                replace hn0:S7.nts.length<=100002:=by omega
                replace hta:=hta.run hrun;clear hk hnn hrun;clear hlf hla
                have hlw2:=Hd hP.left
                by_cases hx:x=0
                · have dx:(x != 0)=false:=by simpa using hx
                  rw [if_pos hx] at hO;have hOh:=Hd hO;clear hO hx;go_wp2_with fail
                  refine wp_label ?_
                  rename_i hKK2
                  replace hKK2:=Hd hKK2
                  refine hKK2.out _ _ ?_
                  refine ih.out 1 _ _ _ rfl ⟨rfl,rfl,rfl⟩ (.inr ⟨rfl,(hJ1 _).2 ⟨D,S7,hP,hK,hD,hn0,hta,hD,hOh⟩⟩) ?_
                  rw [hlw.out,hlw2.out]
                  exact hlt
                · have dx:(x != 0)=true:=by simpa using hx
                  rw [if_neg hx] at hO;have hOh:=Hd hO;clear hO hx;go_wp2_with fail
                  first | refine wp_goto ?_ | skip
                  refine And.intro ⟨⟨rfl,rfl,rfl⟩,.inl ⟨rfl,(hJ0 _).2 ⟨n,S7,hP,hK,hD,hn0,hta,by omega,hOh⟩⟩⟩ ?_
                  rw [hlw.out,hlw2.out]
                  exact hlt
            · rw [hJ1] at hrel
              obtain⟨n,S6,hP,hK,hD,hn0,hta,hDn,hOh⟩:=hrel
              cases n with
              | zero=>omega
              | succ n =>
                refine⟨_,rfl,?_⟩
                replace hO:=hOh.out;rw [bakWait_bind] at hO;clear hOh;have hOh:=Hd hO;clear hO
                have hlw:=Hd hP.left
                go_wp2_with fail
                refine tstepA (notes_rd _) hOh.out hK (read_p B p S6 _ _ hP) (fun _ h=>⟨rfl,h⟩) ?_
                clear hOh hK hP;intro x S7 wn hrun hlf hla hnn hP hk hK hO
                have hlt:=hla (asks_rd _)
                replace hD:=Nat.lt_of_le_of_lt hlf hD
                replace hn0:S7.nts.length<=100002:=by omega
                replace hta:=hta.run hrun;clear hk hnn hrun;clear hlf hla
                by_cases hq0:x=0
                · have d0:(x != 0)=false:=by simpa using hq0
                  rw [if_neg (by omega)] at hO
                  have hOh:=Hd hO;clear hO hq0;replace hO:=hOh.out;rw [hHh.out] at hO
                  have hf:=Hd hO
                  clear hO hOh;go_wp2_with fail
                  refine hKK.out _ _ ?_
                  go_wp2_with fail
                  refine⟨⟨j+1,S7,by go_num,by omega,hP,hK,hD,hn0,hta,hf⟩,?_⟩
                  simp [intOf];omega
                · have d0:(x != 0)=true:=by simpa using hq0
                  by_cases hg1:x<=T
                  · have d1:decide (x<=T)=true:=by rw [decide_eq_true_eq];exact hg1
                    by_cases hg2:x=T
                    · have d2:(x != T)=false:=by simpa using hg2
                      by_cases hg3:(j:Int)<(m:Int)
                      · have d3:decide (j<m)=true:=by rw [decide_eq_true_eq];omega
                        rw [if_pos ⟨hq0,.inr ⟨hg2,hg3⟩⟩] at hO
                        have hOh:=Hd hO;clear hO hq0 hg1 hg2 hg3
                        have hlw2:=Hd hP.left
                        go_wp2_with fail
                        first | refine wp_goto ?_ | skip
                        refine And.intro ⟨⟨rfl,rfl,rfl⟩,.inr ⟨rfl,(hJ1 _).2 ⟨n,S7,hP,hK,hD,hn0,hta,by omega,hOh⟩⟩⟩ ?_
                        rw [hlw.out,hlw2.out]
                        omega
                      · have d3:decide (j<m)=false:=by rw [decide_eq_false_iff_not];omega
                        rw [if_neg (by omega)] at hO
                        have hOh:=Hd hO;clear hO hq0 hg1 hg2 hg3;replace hO:=hOh.out;rw [hHh.out] at hO
                        have hf:=Hd hO
                        clear hO hOh;go_wp2_with fail
                        refine hKK.out _ _ ?_
                        go_wp2_with fail
                        refine⟨⟨j+1,S7,by go_num,by omega,hP,hK,hD,hn0,hta,hf⟩,?_⟩
                        simp [intOf];omega
                    · have d2:(x != T)=true:=by simpa using hg2
                      rw [if_pos ⟨hq0,.inl (by omega)⟩] at hO
                      have hOh:=Hd hO;clear hO hq0 hg1 hg2
                      have hlw2:=Hd hP.left
                      go_wp2_with fail
                      first | refine wp_goto ?_ | skip
                      refine And.intro ⟨⟨rfl,rfl,rfl⟩,.inr ⟨rfl,(hJ1 _).2 ⟨n,S7,hP,hK,hD,hn0,hta,by omega,hOh⟩⟩⟩ ?_
                      rw [hlw.out,hlw2.out]
                      omega
                  · have d1:decide (x<=T)=false:=by rw [decide_eq_false_iff_not];exact hg1
                    rw [if_neg (by omega)] at hO
                    have hOh:=Hd hO;clear hO hq0 hg1;replace hO:=hOh.out;rw [hHh.out] at hO
                    have hf:=Hd hO
                    clear hO hOh;go_wp2_with fail
                    refine hKK.out _ _ ?_
                    go_wp2_with fail
                    refine⟨⟨j+1,S7,by go_num,by omega,hP,hK,hD,hn0,hta,hf⟩,?_⟩
                    simp [intOf];omega
       · obtain rfl:N=j:=by omega
         have dj:decide ((N:Int)<(N:Int))=false:=by simp
         replace hO:=hOh.out;rw [Nat.sub_self,ranks_zero,forP_nilB,hGh.out] at hO
         have hOh2:=Hd hO
         clear hO hOh;go_wp2_with fail
         refine tstepN (notes_nt 3) hOh2.out hK (noteO hP (by unfold maxAns;omega)) (fun _ h=>⟨rfl,h⟩) ?_
         clear hOh2 hK hP;intro u S9 w9 _ _ _ hP _ hK hO
         have hf:=hO.done (v:=(0:Int)) hP hK
         clear hO hP hK;go_wp2_with fail
         first | exact hf | (go_ret;exact hf)
theorem bakrel_p (B p N:Nat)(S:TS)(alg mode base loc room:Int)(m:Nat)(w:World)(h:Plays B w p S)(h1:1<=N)(h2:N<=8)(hm1:m<N)(hba:0<=base/\base<=32768)(hro:1<=room/\room<=1048576)(hn0:S.nts.length<=100000) :
  Calls Tryz.prog 361 #[.pointer (some ⟨p,0,none⟩),.agg #[V Z alg,V Z N,V Z mode,V Z base,V Z loc,V Z room],V Z m] w (Post encU B p w ((bakR base N loc m).run S)):=by
 generalize hR:Post encU B p w ((bakR base N loc m).run S)=R
 have hO:Owes R encU B p w ((bakR base N loc m).run S):=hR▸owes _ _ _ _ _
 clear hR
 obtain⟨b1,hK,hP⟩:=h.entry (.cells #[V Z alg,V Z N,V Z mode,V Z base,V Z loc,V Z room] 23)
 have c_b1:=b1.cells;clear h;unfold bakR at hO
 have hsz:=fun w=>sizes_p alg N mode base loc room w (by omega) hro
 have hw1:=IntWalk.i64_in (base+(N:Int)) (by omega)
 have hw3:=IntWalk.i64_in (base+(N:Int)+(m:Int)) (by omega)
 have hOh:=Hd hO;clear hO
 go_enter Tryz.func361,Tryz.ntmps361
 go_wp2_with fail
 refine (hsz _).mono ?_
 rintro e w1 ⟨rfl,hx⟩
 replace hK:=hK.trans (Keep.of_ext hx hP.lt hP.le);replace b1:=b1.ext hx hP.lt;replace hP:=hP.ext hx;clear hx c_b1 hsz
 generalize w.heap.size=z at *
 go_wp2_with fail
 refine tstepN (notes_nt 5) hOh.out hK (noteO hP (by unfold maxAns;omega)) (fun _ h=>⟨rfl,h⟩) ?_
 clear hOh hK hP;intro u S1 w2 _ _ _ hP hk hK hO;replace b1:=b1.keep hk;clear hk;have hOh:=Hd hO;clear hO;have c_b1:=b1.cells;go_wp2_with fail
 clear c_b1
 refine tstepN (notes_wr _ _) hOh.out hK (write_p B p S1 _ _ _ hP) (fun _ h=>⟨rfl,h⟩) ?_
 clear hOh hK hP;intro u S2 w3 _ _ _ hP hk hK hO;replace b1:=b1.keep hk;clear hk;have c_b1:=b1.cells;have hOh:=Hd hO;clear hO;go_wp2_with fail
 clear c_b1
 refine tlast hOh.out hK (setO hP) (fun _ h=>⟨rfl,h⟩) ?_
 clear hOh hK hP;intro u S3 w4 hr hP hk hK hO
 have hf:=hO.done hP hK
 clear hO hP hK hr hk b1;go_wp2_with fail
 first | exact hf | (refine bodyPost_ret (results_none rfl _ _ _) rfl ?_;exact hf)
end Go.Proofs.YtbaajjkopdjbgaaGreat
