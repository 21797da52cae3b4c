/-
  RwPlaysSaid: part 11 of its proof.
-/
import Derived.Test.YtbaajjkopdjbgaaGreatJRwPlaysSaid10
import Derived.BigQuiet
import Derived.Deep.QuietTactic
import Derived.Deep.CutBlock
import Derived.Deep.DeepCutAuto
open Go.Value renaming int -> V
open Go.IntKind renaming i64 -> Z
namespace Kv
def fastOnce (N:Nat) (l:List Reg) (n me:Int):Prog Bool :=
 (regW (regAt l (2+me)) me 1).bind fun _=>(regW (regAt l 0) me (me+1)).bind fun _=>(regR (regAt l 1) me).bind fun y =>
   if y=0 then
    (regW (regAt l 1) me (me+1)).bind fun _=>(regR (regAt l 0) me).bind fun x =>
      if x=me+1 then .ret true else
       (regW (regAt l (2+me)) me 0).bind fun _=>(forP (fun j _=>zeroP (regAt l (2+j)) me N) (ranksFrom (-1) n.toNat 0) ()).bind fun _ =>
         (regR (regAt l 1) me).bind fun y=>if y=me+1 then .ret true else (zeroP (regAt l 1) me N).bind fun _=>.ret false
   else (regW (regAt l (2+me)) me 0).bind fun _=>(zeroP (regAt l 1) me N).bind fun _=>.ret false
theorem fastTry_succ (N:Nat)(l:List Reg)(n me:Int)(k:Nat):fastTry N l n me (k+1)=(fastOnce N l n me).bind fun b=>if b=true then .ret () else fastTry N l n me k:=by
 simp only [fastTry,fastOnce,Prog.bind_assoc]
 congr 1;funext _;congr 1;funext _;congr 1;funext y
 by_cases hy:y=0
 · simp only [if_pos hy,Prog.bind_assoc]
   congr 1;funext _;congr 1;funext x
   by_cases hx:x=me+1
   · simp only [if_pos hx];rfl
   · simp only [if_neg hx,Prog.bind_assoc]
     congr 1;funext _;congr 1;funext _;congr 1;funext z
     by_cases hz:z=me+1
     · simp only [if_pos hz];rfl
     · simp only [if_neg hz,Prog.bind_assoc];rfl
 · simp only [if_neg hy,Prog.bind_assoc];rfl
end Kv
namespace Go.Proofs.YtbaajjkopdjbgaaGreat
open Go.RowKit Kv
set_option maxRecDepth 100000 in
set_option maxHeartbeats 2000000 in
theorem fasttry_r (B p N D:Nat)(o:Bool)(S:TS)(alg mode base loc room:Int)(m b c:Nat)(rs:List Reg)(w:World)(h:RAt B w p o S)(hreg:RegsAt [3,4,5] w p b rs)(h1:1<=N)(h2:N<=8)(hm1:m<N)(hlen:rs.length=N+2)
  (hok:∀ r∈rs,r.ok/\r.n=N)(htold:∀ (i:Nat) r,rs[i]?=some r->i≠2+m->r.told m)(hD:S.left<D)
  (Zq:TS->Prop)(hzw:∀ rm,rs[2+m]?=some rm->∀ S S',(regW rm m 0).run S=(some (),S')->Zq S')
  (hzk:∀ (j:Nat) r,rs[j]?=some r->∀ S S',(zeroP r m D).run S=(some (),S')->Zq S->Zq S')
  (hzz:∀ rm,rs[2+m]?=some rm->∀ S,Zq S->rm.told m∨(regR rm m).run S=(some 0,S)) :
  Calls Tryz.prog 209 #[.pointer (some ⟨p,0,none⟩),.agg #[V Z alg,V Z N,V Z mode,V Z base,V Z loc,V Z room],.slice (some ⟨b,0,none⟩) rs.length c,V Z m] w (RPost encB B p w (fastOnce D rs N m) o S):=by
 generalize hR:RPost encB B p w (fastOnce D rs N m) o S=R
 have hO:ROwes R encB B p w (fastOnce D rs N m) o S:=hR▸rowes _ _ _ _ _ _ _
 clear hR
 obtain⟨b1,hK,hP⟩:=h.entry (.cells #[V Z alg,V Z N,V Z mode,V Z base,V Z loc,V Z room] 23)
 have c_b1:=b1.cells;clear h;replace hreg:=hreg.keep hK
 obtain⟨r0,hr0⟩:∃ r,rs[0]?=some r:=⟨_,List.getElem?_eq_getElem (by omega)⟩
 obtain⟨r1,hr1⟩:∃ r,rs[1]?=some r:=⟨_,List.getElem?_eq_getElem (by omega)⟩
 obtain⟨rm,hrm⟩:∃ r,rs[2+m]?=some r:=⟨_,List.getElem?_eq_getElem (by omega)⟩
 have hok0:=(hok _ (List.mem_of_getElem? hr0)).1
 have hm0':(m:Int)<r0.n:=by rw [(hok _ (List.mem_of_getElem? hr0)).2];omega
 have ht0:=htold 0 r0 hr0 (by omega)
 have hok1:=(hok _ (List.mem_of_getElem? hr1)).1
 have hm1':(m:Int)<r1.n:=by rw [(hok _ (List.mem_of_getElem? hr1)).2];omega
 have ht1:=htold 1 r1 hr1 (by omega)
 have hokm:=(hok _ (List.mem_of_getElem? hrm)).1
 have hmm:(m:Int)<rm.n:=by rw [(hok _ (List.mem_of_getElem? hrm)).2];omega
 unfold fastOnce at hO
 rw [regAt_of (show (0:Int)=((0:Nat):Int) from rfl) hr0,regAt_of (show (1:Int)=((1:Nat):Int) from rfl) hr1,regAt_of (show (2:Int)+(m:Int)=((2+m:Nat):Int) from by omega) hrm] at hO
 have hw1:=IntWalk.i64_in ((2:Int)+(m:Int)) (by omega)
 have hw2:=IntWalk.i64_in ((m:Int)+1) (by omega)
 have hi2:(2:Int)+(m:Int)<(rs.length:Int):=by omega
 have hi0:0<=(2:Int)+(m:Int):=by omega
 have hi1:((2:Int)+(m:Int)).toNat=2+m:=by omega
 have hj0:(0:Nat)<rs.length:=by omega
 have hj1:(0:Int)<(rs.length:Int):=by omega
 have hj2:(1:Nat)<rs.length:=by omega
 have hj3:(1:Int)<(rs.length:Int):=by omega
 have hrh:=Hd (And.intro hr0 (And.intro hr1 hrm))
 have hokh:=Hd hok
 have htoldh:=Hd htold
 have hlenh:=Hd hlen
 have hzwh:=Hd (hzw rm hrm)
 have hzkh:=Hd hzk
 have hzzh:=Hd (hzz rm hrm)
 clear hzw hzk hzz hlen hr0 hr1 hrm hok htold
 go_enter Tryz.func209,Tryz.ntmps209
 obtain⟨a0,a1,a2,a3,a4,a5,a6⟩:=hreg.nth hrh.out.2.2
 go_wp2_with fail
 clear a0 a1 a2 a3 a4 a5 a6 c_b1
 generalize hzz:w.heap.size=z at *
 clear hzz
 refine rstepL hO hK (fset_r B p o S rm m 1 _ hP hokm ⟨by omega,hmm⟩) ?_
 clear hO hK hP;intro u o1 S1 w1 hlf _ hP hk hK hO;replace hD:=Nat.lt_of_le_of_lt hlf hD;replace hreg:=hreg.keep hk;replace b1:=b1.keep hk;clear hk hlf
 obtain⟨a0,a1,a2,a3,a4,a5,a6⟩:=hreg.nth hrh.out.1
 go_wp2_with fail
 clear a0 a1 a2 a3 a4 a5 a6
 refine rstepL hO hK (fset_r B p o1 S1 r0 m _ _ hP hok0 ⟨by omega,hm0'⟩) ?_
 clear hO hK hP;intro u o2 S2 w2 hlf _ hP hk hK hO;replace hD:=Nat.lt_of_le_of_lt hlf hD;replace hreg:=hreg.keep hk;replace b1:=b1.keep hk;clear hk hlf
 obtain⟨_,_,_,_,_,hcc⟩:=hP.cell
 obtain⟨a0,a1,a2,a3,a4,a5,a6⟩:=hreg.nth hrh.out.2.1
 cases o2 with
 | true =>
   have hf:R (.returned (encB false)) w2:=hO.over false hP hK
   clear hO hP hK a0 a1 a2 a3 a4 a5 a6;go_wp2_with fail
   first | exact hf | (go_ret;exact hf)
 | false =>
   have hOh:=Hd hO;clear hO;go_wp2_with fail
   replace hO:=hOh.out;clear a0 a1 a2 a3 a4 a5 a6 hcc hOh
   refine rstepL hO hK (reg_read_r B p false S2 r1 m _ hP hok1 ⟨by omega,hm1'⟩) ?_
   clear hO hK hP;intro y o3 S3 w3 hlf _ hP hk hK hO;replace hD:=Nat.lt_of_le_of_lt hlf hD;replace hreg:=hreg.keep hk;replace b1:=b1.keep hk;clear hk hlf
   by_cases hy:y=0
   · have dy:(y != 0)=false:=by simpa using hy
     rw [if_pos hy] at hO;clear hy;have hOh:=Hd hO;clear hO
     obtain⟨a0,a1,a2,a3,a4,a5,a6⟩:=hreg.nth hrh.out.2.1
     go_wp2_with fail
     replace hO:=hOh.out;clear a0 a1 a2 a3 a4 a5 a6 hOh
     refine rstepL hO hK (fset_r B p o3 S3 r1 m _ _ hP hok1 ⟨by omega,hm1'⟩) ?_
     clear hO hK hP;intro u o4 S4 w4 hlf _ hP hk hK hO;replace hD:=Nat.lt_of_le_of_lt hlf hD;replace hreg:=hreg.keep hk;replace b1:=b1.keep hk;clear hk hlf
     obtain⟨_,_,_,_,_,hcc⟩:=hP.cell
     obtain⟨a0,a1,a2,a3,a4,a5,a6⟩:=hreg.nth hrh.out.1
     cases o4 with
     | true =>
       have hf:R (.returned (encB false)) w4:=hO.over false hP hK
       clear hO hP hK a0 a1 a2 a3 a4 a5 a6;go_wp2_with fail
       first | exact hf | (go_ret;exact hf)
     | false =>
       have hOh:=Hd hO;clear hO;go_wp2_with fail
       replace hO:=hOh.out;clear a0 a1 a2 a3 a4 a5 a6 hcc hOh
       refine rstepL hO hK (reg_read_r B p false S4 r0 m _ hP hok0 ⟨by omega,hm0'⟩) ?_
       clear hO hK hP;intro x o5 S5 w5 hlf _ hP hk hK hO;replace hD:=Nat.lt_of_le_of_lt hlf hD;replace hreg:=hreg.keep hk;replace b1:=b1.keep hk;clear hk hlf
       by_cases hx:x=(m:Int)+1
       · have dx:(x==(m:Int)+1)=true:=by simpa using hx
         rw [if_pos hx] at hO;clear hx
         obtain⟨_,_,_,_,_,hcc⟩:=hP.cell
         cases o5 with
         | true =>
           have hf:R (.returned (encB false)) w5:=hO.over false hP hK
           clear hO hP hK;go_wp2_with fail
           first | exact hf | (go_ret;exact hf)
         | false =>
           have hf:R (.returned (encB true)) w5:=hO.ret hP hK
           clear hO hP hK;go_wp2_with fail
           first | exact hf | (go_ret;exact hf)
       · have dx:(x==(m:Int)+1)=false:=by simpa using hx
         rw [if_neg hx] at hO;clear hx;have hOh:=Hd hO;clear hO
         obtain⟨a0,a1,a2,a3,a4,a5,a6⟩:=hreg.nth hrh.out.2.2
         go_wp2_with fail
         replace hO:=hOh.out;clear a0 a1 a2 a3 a4 a5 a6 hOh
         refine (fset_r B p o5 S5 rm m 0 _ hP hokm ⟨by omega,hmm⟩).mono ?_
         rintro e w6 ⟨u,o6,S6,rfl,hRef,hP6,hk⟩
         replace hO:=hO.then hRef;replace hK:=hK.trans hk
         replace hD:=Nat.lt_of_le_of_lt (ref_lefts hRef) hD
         have hz:o6=false->Zq S6:=by
          rintro rfl
          cases hRef with
          | done h=>exact hzwh.out _ _ h
         replace hreg:=hreg.keep hk;replace b1:=b1.keep hk;replace hP:=hP6;clear hk hRef hP6
         have hzh:=Hd hz
         have hOh:=Hd hO;clear hz hO
         rw [show (N:Int).toNat=N from by omega] at hOh
         go_wp2_with fail
         go_loopw [9] (fun i wr=>∃ (k:Nat) (o7:Bool) (S7:TS),i=V Z k/\k<=N/\RAt B wr p o7 S7/\KeepR B p w wr/\HeldR wr p z (.cells #[V Z alg,V Z N,V Z mode,V Z base,V Z loc,V Z room] 23)/\RegsAt [3,4,5] wr p b rs/\S7.left<D/\Hid (o7=false->Zq S7)/\Hid (ROwes R encB B p w ((forP (fun j _=>zeroP (regAt rs (2+j)) m D) (ranksFrom (-1) (N-k) k) ()).bind fun _=>(regR r1 m).bind fun y=>if y=(m:Int)+1 then Prog.ret true else (zeroP r1 m D).bind fun _=>Prog.ret false) o7 S7)) (fun i _=>N-(intOf i).toNat)
         case atStart=>exact⟨0,o6,S6,rfl,by omega,hP,hK,b1,hreg,hD,hzh,hOh⟩
         case round =>
          clear hP hK hreg b1 hD hzh hOh
          obtain⟨k,o7,S7,rfl,hk,hP,hK,b1,hreg,hD,hzh,hOh⟩:=hrel
          have c_b1:=b1.cells
          by_cases hlt:k<N
          · have dlt:decide ((k:Int)<(N:Int))=true:=by rw [decide_eq_true_eq];omega
            obtain⟨g,hg⟩:∃ g,N-k=g+1:=⟨N-k-1,by omega⟩
            obtain⟨rk,hrk⟩:∃ r,rs[2+k]?=some r:=⟨_,List.getElem?_eq_getElem (by have:=hlenh.out;omega)⟩
            replace hO:=hOh.out
            rw [hg,ranks_cons _ _ _ (by omega),forP_consB,regAt_of (show (2:Int)+(k:Int)=((2+k:Nat):Int) from by omega) hrk,show g=N-(k+1) from by omega] at hO
            have hokk:=(hokh.out _ (List.mem_of_getElem? hrk)).1
            have hmk:(m:Int)<rk.n:=by rw [(hokh.out _ (List.mem_of_getElem? hrk)).2];omega
            have hcall:∀ W,RAt B W p o7 S7->Calls Tryz.prog 263 #[.pointer (some ⟨p,0,none⟩),encR rk,V Z m] W (RPost encU B p W (zeroP rk m D) o7 S7):=fun W hW=>by
             by_cases hkm:k=m
             · subst hkm
               obtain rfl:rm=rk:=Option.some.inj (hrh.out.2.2.symm.trans hrk)
               rcases (show rm.told k∨(o7=false->(regR rm k).run S7=(some 0,S7)) from by
                cases o7 with
                | true=>exact .inr nofun
                | false=>exact (hzzh.out _ (hzh.out rfl)).imp id fun h _=>h) with ht | hz
               · exact fzero_r B p D o7 S7 rm k W hW hokk (by omega) hmk ht (fun _=>hD)
               · obtain⟨E,rfl⟩:∃ E,D=E+1:=⟨D-1,by omega⟩
                 exact fzero_z B p E o7 S7 rm k W hW hokk (by omega) hmk hz
             · exact fzero_r B p D o7 S7 rk m W hW hokk (by omega) hmk (htoldh.out _ _ hrk (by omega)) (fun _=>hD)
            have hch:=Hd hcall
            have hrkh:=Hd hrk
            have hw3:=IntWalk.i64_in ((2:Int)+(k:Int)) (by omega)
            have hk2:(2:Int)+(k:Int)<(rs.length:Int):=by have:=hlenh.out;omega
            have hk0:0<=(2:Int)+(k:Int):=by omega
            have hk1:((2:Int)+(k:Int)).toNat=2+k:=by omega
            have hkl:2+k<rs.length:=by have:=hlenh.out;omega
            obtain⟨a0,a1,a2,a3,a4,a5,a6⟩:=hreg.nth hrk
            have hOk:=Hd hO
            clear hO hOh hcall hrk hg;go_wp2_with fail
            replace hO:=hOk.out;clear a0 a1 a2 a3 a4 a5 a6 hOk c_b1
            refine (hch.out _ hP).mono ?_
            rintro e w8 ⟨u,o8,S8,rfl,hRef,hP8,hkk⟩
            replace hO:=hO.then hRef;replace hK:=hK.trans hkk
            replace hD:=Nat.lt_of_le_of_lt (ref_lefts hRef) hD
            have hz8:o8=false->Zq S8:=by
             rintro rfl
             cases hRef with
             | done h=>exact hzkh.out _ _ hrkh.out _ _ h (hzh.out rfl)
            replace hreg:=hreg.keep hkk;replace b1:=b1.keep hkk;replace hP:=hP8;clear hkk hRef hP8 hzh hch
            have hzh:=Hd hz8
            have hOh:=Hd hO;clear hz8 hO;go_wp2_with fail
            refine⟨⟨k+1,o8,S8,by go_num,by omega,hP,hK,b1,hreg,hD,hzh,hOh⟩,?_⟩
            simp [intOf];omega
          · obtain rfl:k=N:=by omega
            have dlt:decide ((k:Int)<(k:Int))=false:=by rw [decide_eq_false_iff_not];omega
            replace hO:=hOh.out;rw [Nat.sub_self,ranks_zero,forP_nilB] at hO;clear hOh hzh hlt
            obtain⟨_,_,_,_,_,hcc⟩:=hP.cell
            obtain⟨a0,a1,a2,a3,a4,a5,a6⟩:=hreg.nth hrh.out.2.1
            cases o7 with
            | true =>
              have hf:R (.returned (encB false)) wr:=hO.over false hP hK
              clear hO hP hK a0 a1 a2 a3 a4 a5 a6;go_wp2_with fail
              first | exact hf | (go_ret;exact hf)
            | false =>
              have hOk:=Hd hO
              clear hO;go_wp2_with fail
              replace hO:=hOk.out;clear a0 a1 a2 a3 a4 a5 a6 hcc hOk c_b1
              refine rstepL hO hK (reg_read_r B p false S7 r1 m _ hP hok1 ⟨by omega,hm1'⟩) ?_
              clear hO hK hP;intro y o8 S8 w8 hlf _ hP hk hK hO;replace hD:=Nat.lt_of_le_of_lt hlf hD;replace hreg:=hreg.keep hk;clear hk hlf b1
              by_cases hx:y=(m:Int)+1
              · have dx:(y==(m:Int)+1)=true:=by simpa using hx
                rw [if_pos hx] at hO;clear hx
                obtain⟨_,_,_,_,_,hcc⟩:=hP.cell
                cases o8 with
                | true =>
                  have hf:R (.returned (encB false)) w8:=hO.over false hP hK
                  clear hO hP hK;go_wp2_with fail
                  first | exact hf | (go_ret;exact hf)
                | false =>
                  have hf:R (.returned (encB true)) w8:=hO.ret hP hK
                  clear hO hP hK;go_wp2_with fail
                  first | exact hf | (go_ret;exact hf)
              · have dx:(y==(m:Int)+1)=false:=by simpa using hx
                rw [if_neg hx] at hO;clear hx
                have hOk:=Hd hO
                clear hO
                obtain⟨a0,a1,a2,a3,a4,a5,a6⟩:=hreg.nth hrh.out.2.1
                go_wp2_with fail
                replace hO:=hOk.out;clear a0 a1 a2 a3 a4 a5 a6 hOk hreg
                refine rstepL hO hK (fzero_r B p D o8 S8 r1 m _ hP hok1 (by omega) hm1' ht1 (fun _=>hD)) ?_
                clear hO hK hP;intro u o9 S9 w9 _ _ hP _ hK hO
                have hf:R (.returned (encB false)) w9:=hO.ret hP hK
                clear hO hP hK;go_wp2_with fail
                first | exact hf | (go_ret;exact hf)
   · have dy:(y != 0)=true:=by simpa using hy
     rw [if_neg hy] at hO;clear hy;have hOh:=Hd hO;clear hO
     obtain⟨a0,a1,a2,a3,a4,a5,a6⟩:=hreg.nth hrh.out.2.2
     go_wp2_with fail
     replace hO:=hOh.out;clear a0 a1 a2 a3 a4 a5 a6 hOh
     refine rstepL hO hK (fset_r B p o3 S3 rm m 0 _ hP hokm ⟨by omega,hmm⟩) ?_
     clear hO hK hP;intro u o4 S4 w4 hlf _ hP hk hK hO;replace hD:=Nat.lt_of_le_of_lt hlf hD;replace hreg:=hreg.keep hk;clear hk hlf b1
     obtain⟨a0,a1,a2,a3,a4,a5,a6⟩:=hreg.nth hrh.out.2.1
     go_wp2_with fail
     clear a0 a1 a2 a3 a4 a5 a6 hreg
     refine rstepL hO hK (fzero_r B p D o4 S4 r1 m _ hP hok1 (by omega) hm1' ht1 (fun _=>hD)) ?_
     clear hO hK hP;intro u o5 S5 w5 _ _ hP _ hK hO
     have hf:R (.returned (encB false)) w5:=hO.ret hP hK
     clear hO hP hK;go_wp2_with fail
     first | exact hf | (go_ret;exact hf)
end Go.Proofs.YtbaajjkopdjbgaaGreat
namespace Kv
theorem asks_fastOnce (N:Nat)(l:List Reg)(n me:Int)(h:(regAt l 1).told me):(fastOnce N l n me).Asks :=
 Prog.Asks.then (fun _=>Prog.Asks.then (fun _=>(asks_regR _ _ h).bind _) _) _
theorem notes_fastOnce (N:Nat)(l:List Reg)(n me:Int):(fastOnce N l n me).Notes 0:=by
 unfold fastOnce
 refine (notes_regW _ _ _).bind0 fun _=>(notes_regW _ _ _).bind0 fun _=>(notes_regR _ _).bind0 fun y=>?_
 by_cases hy:y=0
 · rw [if_pos hy]
   refine (notes_regW _ _ _).bind0 fun _=>(notes_regR _ _).bind0 fun x=>?_
   by_cases hx:x=me+1
   · rw [if_pos hx];exact .ret _ _
   · rw [if_neg hx]
     refine (notes_regW _ _ _).bind0 fun _=>(notes_forP (fun _ _=>notes_zeroP _ _ _) _ _).bind0 fun _=>(notes_regR _ _).bind0 fun z=>?_
     by_cases hz:z=me+1
     · rw [if_pos hz];exact .ret _ _
     · rw [if_neg hz];exact (notes_zeroP _ _ _).bind0 fun _=>.ret _ _
 · rw [if_neg hy]
   exact (notes_regW _ _ _).bind0 fun _=>(notes_zeroP _ _ _).bind0 fun _=>.ret _ _
end Kv
namespace Go.Proofs.YtbaajjkopdjbgaaGreat
open Go.RowKit Kv
set_option maxRecDepth 100000 in
set_option maxHeartbeats 2000000 in
theorem fastacq_r (B p N D:Nat)(o:Bool)(S:TS)(alg mode base loc room:Int)(m:Nat)(rs:List Reg)(w:World)(h:RAt B w p o S)(h1:1<=N)(h2:N<=8)(hm1:m<N)(hl:layM (fastWants N) N mode base loc=some rs)
  (hok:∀ r∈rs,r.ok/\r.n=N)(htold:∀ (i:Nat) r,rs[i]?=some r->i≠2+m->r.told m)(hD:S.left<D)(hn0:S.nts.length<=100000)
  (Zq:TS->Prop)(hzw:∀ rm,rs[2+m]?=some rm->∀ S S',(regW rm m 0).run S=(some (),S')->Zq S')
  (hzk:∀ (j:Nat) r,rs[j]?=some r->∀ S S',(zeroP r m D).run S=(some (),S')->Zq S->Zq S')
  (hzz:∀ rm,rs[2+m]?=some rm->∀ S,Zq S->rm.told m∨(regR rm m).run S=(some 0,S)) :
  Calls Tryz.prog 112 #[.pointer (some ⟨p,0,none⟩),.agg #[V Z alg,V Z N,V Z mode,V Z base,V Z loc,V Z room],V Z m] w (RPost encI B p w (fastA D rs N m) o S):=by
 have hlen:=layM_len hl
 rw [fastWants_len] at hlen
 have htold1:(regAt rs 1).told m:=by
  obtain⟨r1,hr1⟩:∃ r,rs[1]?=some r:=⟨_,List.getElem?_eq_getElem (by omega)⟩
  rw [regAt_of (show (1:Int)=((1:Nat):Int) from rfl) hr1]
  exact htold 1 r1 hr1 (by omega)
 have hasks:=asks_fastOnce D rs N m htold1
 clear htold1
 generalize hR:RPost encI B p w (fastA D rs N m) o S=R
 have hO:ROwes R encI B p w (fastA D rs N m) o S:=hR▸rowes _ _ _ _ _ _ _
 clear hR
 obtain⟨b1,hK,hP⟩:=h.entry (.cells #[V Z alg,V Z N,V Z mode,V Z base,V Z loc,V Z room] 23)
 have c_b1:=b1.cells;clear h;unfold fastA at hO
 have htryh:=Hd (fun o S b c W (hP:RAt B W p o S) (hreg:RegsAt [3,4,5] W p b rs) (hD:S.left<D)=>fasttry_r B p N D o S alg mode base loc room m b c rs W hP hreg h1 h2 hm1 hlen hok htold hD Zq hzw hzk hzz)
 have hah:=Hd hasks
 clear hzw hzk hzz hok htold hasks
 go_enter Tryz.func112,Tryz.ntmps112
 go_wp2_with fail
 refine (fastregs_r alg mode base loc room N rs _ h1 h2 hl).mono ?_
 rintro e w1 ⟨b,c,rfl,hge,hb,hcells,q1,q2,hx⟩
 have hreg:RegsAt [3,4,5] w1 p b rs:=⟨hb,hP.fresh hx hge,hcells⟩
 replace hK:=hK.trans (Keep.of_ext hx hP.lt hP.le);replace b1:=b1.ext hx hP.lt;replace hP:=hP.ext hx;clear hx hcells hge hb c_b1 hlen hl
 generalize w.heap.size=z at *
 go_wp2_with fail
 refine rstepN (notes_nt 1) hO hK (note_r B p o S 1 _ hP (by unfold maxAns;omega)) ?_
 clear hO hK hP;intro u o1 S1 w2 hlf _ hnn hP hk hK hO;replace hD:=Nat.lt_of_le_of_lt hlf hD
 replace hn0:S1.nts.length<=100001:=by omega
 replace hreg:=hreg.keep hk;replace b1:=b1.keep hk;clear hk hlf hnn;have hOh:=Hd hO;clear hO;go_wp2_with fail
 go_loopw [8] (fun i wr=>∃ (bb:Bool) (k:Nat) (o2:Bool) (S2:TS),i=.bool bb/\RAt B wr p o2 S2/\KeepR B p w wr/\HeldR wr p z (.cells #[V Z alg,V Z N,V Z mode,V Z base,V Z loc,V Z room] 23)/\RegsAt [3,4,5] wr p b rs/\S2.left<D/\S2.nts.length<=100001/\(bb=false->o2=false->S2.left<k)/\Hid (ROwes R encI B p w ((if bb=true then Prog.ret () else fastTry D rs N m k).bind fun _=>(nt 3).bind fun _=>.ret 0) o2 S2)) (fun i wr=>leftR wr p+match i with | .bool true=>0 | _=>1)
 case atStart=>exact⟨false,D,o1,S1,rfl,hP,hK,b1,hreg,hD,hn0,fun _ _=>hD,hOh⟩
 case round =>
  clear hP hK hreg b1 hD hn0 hOh
  obtain⟨bb,k,o2,S2,rfl,hP,hK,b1,hreg,hD,hn0,hkk,hO⟩:=hrel
  replace hO:=hO.out
  have hlw:=Hd hP.leftR
  obtain⟨_,_,_,_,_,hcc⟩:=hP.cell
  have c_b1:=b1.cells
  by_cases hin:bb=false/\o2=false
  · obtain⟨rfl,rfl⟩:=hin
    have hk:=hkk rfl rfl
    clear hkk
    cases k with
    | zero=>omega
    | succ k =>
      rw [if_neg (by simp),fastTry_succ,Prog.bind_assoc] at hO
      have hOh:=Hd hO;clear hO;go_wp2_with fail
      replace hO:=hOh.out;clear hcc c_b1 hOh
      refine rstepN (notes_fastOnce _ _ _ _) hO hK (htryh.out _ _ _ _ _ hP hreg hD) ?_
      clear hO hK hP;intro bb o3 S3 w3 hlf hlt hnn hP hk1 hK hO
      have hlw2:=Hd hP.leftR
      replace hD:=Nat.lt_of_le_of_lt hlf hD
      replace hn0:S3.nts.length<=100001:=by omega
      replace hreg:=hreg.keep hk1;replace b1:=b1.keep hk1;have hOh:=Hd hO;clear hO hk1;go_wp2_with fail
      refine⟨⟨bb,k,o3,S3,rfl,hP,hK,b1,hreg,hD,hn0,fun _ ho=>?_,hOh⟩,?_⟩
      · have:=(hlt ho).2 hah.out
        omega
      · rw [hlw.out,hlw2.out]
        cases o3 with
        | true=>cases bb <;> simp <;> omega
        | false =>
          have:=(hlt rfl).2 hah.out
          cases bb <;> simp <;> omega
  · replace hO:ROwes R encI B p w ((nt 3).bind fun _=>.ret 0) o2 S2:=by
     cases bb with
     | true=>exact hO
     | false =>
       cases o2 with
       | true=>exact hO.any _
       | false=>exact absurd ⟨rfl,rfl⟩ hin
    have hOh:=Hd hO;clear hO
    have dno:((!bb)&&(!o2))=false:=by cases bb <;> cases o2 <;> simp_all
    cases bb with
    | true =>
      go_wp2_with fail
      replace hO:=hOh.out;clear hcc c_b1
      refine rstepN (notes_nt 3) hO hK (note_r B p o2 S2 3 _ hP (by unfold maxAns;omega)) ?_
      clear hO hK hP;intro u o3 S3 w3 _ _ _ hP _ hK hO
      have hf:R (.returned (encI 0)) w3:=hO.ret hP hK
      clear hO hP hK hOh;go_wp2_with fail
      first | exact hf | (go_ret;exact hf)
    | false =>
      cases o2 with
      | false=>exact absurd ⟨rfl,rfl⟩ hin
      | true =>
        go_wp2_with fail
        replace hO:=hOh.out;clear hcc c_b1
        refine rstepN (notes_nt 3) hO hK (note_r B p true S2 3 _ hP (by unfold maxAns;omega)) ?_
        clear hO hK hP;intro u o3 S3 w3 _ _ _ hP _ hK hO
        have hf:R (.returned (encI 0)) w3:=hO.ret hP hK
        clear hO hP hK hOh;go_wp2_with fail
        first | exact hf | (go_ret;exact hf)
end Go.Proofs.YtbaajjkopdjbgaaGreat
namespace Kv
def diagL (d:Nat):Nat->List (Nat × Nat)
 | 0=>[]
 | y+1=>diagL d y++[(d-y,y)]
theorem diagL_len (d:Nat):∀ k,(diagL d k).length=k
 | 0=>rfl
 | k+1=>by rw [diagL,List.length_append,diagL_len d k];rfl
theorem diagL_at (d:Nat):∀ {k i:Nat},i<k->(diagL d k)[i]?=some (d-i,i)
 | k+1,i,h=>by
   rw [diagL]
   by_cases hi:i<k
   · rw [List.getElem?_append_left (by rw [diagL_len];exact hi)]
     exact diagL_at d hi
   · obtain rfl:i=k:=by omega
     rw [List.getElem?_append_right (by rw [diagL_len];exact Nat.le_refl _),diagL_len,Nat.sub_self]
     rfl
def triPts:Nat->List (Nat × Nat)
 | 0=>[]
 | d+1=>triPts d++diagL d (d+1)
theorem triPts_len:∀ n,(triPts n).length=triN n
 | 0=>rfl
 | n+1=>by rw [triPts,List.length_append,triPts_len n,diagL_len,triN_succ]
theorem triPts_name:∀ {n i:Nat} {q:Nat × Nat},(triPts n)[i]?=some q->triName q.1 q.2=i/\q.1+q.2<n
 | 0,i,q,h=>by simp [triPts] at h
 | n+1,i,q,h=>by
   rw [triPts] at h
   by_cases hi:i<triN n
   · rw [List.getElem?_append_left (by rw [triPts_len];exact hi)] at h
     obtain⟨a,b⟩:=triPts_name h
     exact⟨a,by omega⟩
   · rw [List.getElem?_append_right (by rw [triPts_len];omega),triPts_len] at h
     have hl:i-triN n<n+1:=by
      have:=(List.getElem?_eq_some_iff.1 h).1
      rwa [diagL_len] at this
     rw [diagL_at n hl] at h
     injection h with h
     subst h
     unfold triName
     simp only
     rw [show n-(i-triN n)+(i-triN n)=n from by omega]
     omega
theorem triPts_at:∀ {n x y:Nat},x+y<n->(triPts n)[triName x y]?=some (x,y)
 | n+1,x,y,h=>by
   rw [triPts]
   by_cases hi:x+y<n
   · rw [List.getElem?_append_left (by rw [triPts_len];exact triName_lt hi)]
     exact triPts_at hi
   · obtain rfl:n=x+y:=by omega
     unfold triName
     rw [List.getElem?_append_right (by rw [triPts_len];omega),triPts_len,show triN (x+y)+y-triN (x+y)=y from by omega,diagL_at _ (by omega),show x+y-y=x from by omega]
end Kv
namespace Go.Proofs.YtbaajjkopdjbgaaGreat
open Go.RowKit Kv
def ptVals (q:Nat × Nat):List Value:=[V Z q.1,V Z q.2,.bool true]
theorem info_pt:(Tryz.prog.info? 202).map (fun i=>(i.zero,i.size,i.bytes))=some (some (.agg #[V Z 0,V Z 0,.bool false]),3,24):=by kernel_rfl
@[go_sem] theorem build_pt (a b:Int) (c:Bool) (w:World):(Instr.build 202 #[(0,V Z a),(1,V Z b),(2,.bool c)]).run Tryz.prog w=.ok (.agg #[V Z a,V Z b,.bool c]) w:=run_build w 202 _ _ (by kernel_rfl)
theorem ptRow_snoc (d y:Nat):(triPts d++diagL d (y+1)).flatMap ptVals=(triPts d++diagL d y).flatMap ptVals++ptVals (d-y,y):=by
 rw [diagL,<- List.append_assoc,List.flatMap_append]
 simp
def ptRow (d y:Nat):List Value:=(triPts d++diagL d y).flatMap ptVals
theorem ptRow_zero (d:Nat):ptRow d 0=(triPts d).flatMap ptVals:=by unfold ptRow diagL;rw [List.append_nil]
theorem ptRow_full (d:Nat):ptRow d (d+1)=ptRow (d+1) 0:=by rw [ptRow_zero];rfl
set_option maxRecDepth 100000 in
set_option maxHeartbeats 1000000 in
theorem list05_r (n:Nat)(w:World)(hn:n<=64):Calls Tryz.prog 267 #[V Z n] w fun e w'=>∃ v,e=.returned v/\w'.ownsRow w.heap.size 202 3 v (triN n) ((triPts n).flatMap ptVals)/\Ext w w':=by
 go_enter Tryz.func267,Tryz.ntmps267
 go_wp2_with fail
 go_loopw [3,4,5] (fun v i _ wr=>∃ d:Nat,i=V Z d/\d<=n/\wr.ownsRow w.heap.size 202 3 v (triN d) (ptRow d 0)/\Ext w wr) (fun _ i _ _=>n-(intOf i).toNat)
 case atStart=>exact⟨0,rfl,by omega,World.ownsRow_nil _ _ _ _,Ext.refl _⟩
 case round =>
  obtain⟨d,rfl,hd,hown,hE⟩:=hrel
  by_cases hl:d<n
  · have d1:decide ((d:Int)<(n:Int))=true:=by rw [decide_eq_true_eq];omega
    have d2:decide ((d:Int)<64)=true:=by rw [decide_eq_true_eq];omega
    have ht:=triN_64 (show d<=64 by omega)
    generalize hT:triN d=T at *
    go_wp2_with fail
    go_loopw [3,5] (fun v i wr=>∃ y:Nat,i=V Z y/\y<=d+1/\wr.ownsRow w.heap.size 202 3 v (T+y) (ptRow d y)/\Ext w wr) (fun _ i _=>d+1-(intOf i).toNat)
    case atStart=>exact⟨0,rfl,by omega,hown,hE⟩
    case round =>
     clear hown hE
     obtain⟨y,rfl,hy,hown,hE⟩:=hrel
     by_cases hyd:y<d+1
     · have d3:decide ((y:Int)<=(d:Int))=true:=by rw [decide_eq_true_eq];omega
       have hw:=IntWalk.i64_in ((d:Int)-(y:Int)) (by omega)
       go_wp2_with (at_builtin;refine append_rec info_pt Tryz.underlying198 rfl (by decide) (by decide) rfl _ _ rfl _ (T+y) _ [V Z ((d:Int)-(y:Int)),V Z y,.bool true] hE hown rfl rfl rfl (by simp [Value.oneCell']) (by omega) ?_)
       intro v' w' ho hx _
       have hoh:Hid (w'.ownsRow w.heap.size 202 3 v' (T+(y+1)) (ptRow d (y+1))):=Hd (by
        rw [ptRow,ptRow_snoc,ptVals,show ((d-y:Nat):Int)=(d:Int)-(y:Int) from by omega];exact ho)
       clear hown ho hE;go_wp2_with fail
       refine⟨⟨y+1,by go_num,by omega,hoh.out,hx⟩,?_⟩
       simp [intOf];omega
     · obtain rfl:y=d+1:=by omega
       have d3:decide (((d+1:Nat):Int)<=(d:Int))=false:=by rw [decide_eq_false_iff_not];omega
       have hoh:Hid (wr.ownsRow w.heap.size 202 3 u3 (triN (d+1)) (ptRow (d+1) 0)):=Hd (by
        rw [triN_succ,hT,<- ptRow_full];exact hown)
       clear hown;go_wp2_with fail
       refine⟨⟨d+1,by go_num,by omega,hoh.out,hE⟩,?_⟩
       simp [intOf];omega
  · obtain rfl:d=n:=by omega
    have d1:decide ((d:Int)<(d:Int))=false:=by simp
    have hoh:Hid (wr.ownsRow w.heap.size 202 3 u3 (triN d) ((triPts d).flatMap ptVals)):=Hd (by rw [<- ptRow_zero];exact hown)
    clear hown;go_wp2_with fail
    go_ret
    exact⟨_,rfl,hoh.out,hE⟩
theorem pt_at {w:World}{A:Option Addr}{l:List (Nat × Nat)}(h:Vals w A (l.flatMap ptVals)){i:Nat}{q:Nat × Nat}(hi:l[i]?=some q) :
  ∃ b,A=some ⟨b,0,none⟩/\b<w.heap.size/\w.cell? ⟨b,i*3,none⟩=some (V Z q.1)/\w.cell? ⟨b,i*3+1,none⟩=some (V Z q.2)/\w.cell? ⟨b,i*3+2,none⟩=some (.bool true):=by
 have h0:=flat_at ptVals 3 (fun _=>rfl) l i 0 q hi (by omega)
 have h1:=flat_at ptVals 3 (fun _=>rfl) l i 1 q hi (by omega)
 have h2:=flat_at ptVals 3 (fun _=>rfl) l i 2 q hi (by omega)
 obtain⟨b,rfl,hb,hc⟩:=h (fun e=>by rw [e] at h0;simp [ptVals] at h0)
 rw [Nat.mul_comm i 3]
 exact⟨b,rfl,hb,hc _ _ h0,hc _ _ h1,hc _ _ h2⟩
set_option maxRecDepth 100000 in
set_option maxHeartbeats 1000000 in
theorem name05_r (x y:Nat)(w:World)(h:x+y<64):Calls Tryz.prog 269 #[.agg #[V Z x,V Z y,.bool true]] w fun e w'=>e=.returned (V Z (triName x y))/\Ext w w':=by
 have hL:=fun w=>list05_r 64 w (by omega)
 have hlen:=triPts_len 64
 rw [show triN 64=2080 from by decide] at hL hlen
 have hat:=triPts_at h
 have hnm:=fun (i:Nat) (q:Nat × Nat) (hq:(triPts 64)[i]?=some q)=>(triPts_name hq).1
 have hk:triName x y<2080:=by
  rw [<- hlen]
  exact (List.getElem?_eq_some_iff.1 hat).1
 generalize triPts 64=l at *
 obtain⟨k,hke⟩:∃ k,triName x y=k:=⟨_,rfl⟩
 rw [hke] at hk hat ⊢
 have hnmh:=Hd hnm
 have hkeh:=Hd hke
 clear hnm hke
 have hX:=Ext.refl w
 have b1:=Blk.new w (.cells #[V Z x,V Z y,.bool true] 202)
 replace hX:=hX.alloc (.cells #[V Z x,V Z y,.bool true] 202)
 have c_b1:=b1.cells
 go_enter Tryz.func269,Tryz.ntmps269
 go_wp2_with fail
 refine (hL _).mono ?_
 rintro e w2 ⟨v,rfl,hown,hx⟩
 obtain⟨A,c,rfl,-,-,hV⟩:=Recs.of_row hown
 replace b1:=b1.ext hx;replace hX:=hX.trans hx;clear hx hown c_b1 hL
 generalize w.heap.size=z at *
 go_wp2_with fail
 go_loopw [4] (fun i wr=>∃ j:Nat,i=V Z j/\j<=k/\Ext w2 wr) (fun i _=>2080-(intOf i).toNat)
 case atStart=>exact⟨0,rfl,by omega,Ext.refl _⟩
 case round =>
  obtain⟨j,rfl,hj,hE⟩:=hrel
  have hjl:j<2080:=by omega
  have d1:decide ((j:Int)<2080)=true:=by rw [decide_eq_true_eq];omega
  obtain⟨q,hq⟩:∃ q,l[j]?=some q:=⟨_,List.getElem?_eq_getElem (by omega)⟩
  have hVr:Vals wr A (l.flatMap ptVals):=fun hne=>by
   obtain⟨b,e,hb,hc⟩:=hV hne
   exact⟨b,e,Nat.lt_of_lt_of_le hb hE.size,fun i u hu=>(hE.cell (p:=⟨b,i,none⟩) hb).trans (hc i u hu)⟩
  obtain⟨b,rfl,hb,z0,z1,z2⟩:=pt_at hVr hq
  clear hVr
  have c_b1:=(b1.ext hE).cells
  by_cases hjk:j=k
  · subst hjk
    obtain rfl:(x,y)=q:=by rw [hq] at hat;simpa using hat.symm
    simp only at z0 z1
    clear hat hq hV
    have hf:=Hd (hX.trans hE)
    go_wp2_with fail
    go_quiet (fail)
    go_wp2_with fail
    go_ret
    exact⟨rfl,hf.out.drewN _⟩
  · have hne:¬ (q.1=x/\q.2=y):=fun ⟨e1,e2⟩=>hjk (by
     have:=hnmh.out j q hq
     rw [e1,e2,hkeh.out] at this
     exact this.symm)
    obtain⟨a,c2⟩:=q
    simp only at z0 z1 hne
    clear hq hat hV
    by_cases ha:a=x
    · have e1:((a:Int)==(x:Int))=true:=by rw [beq_iff_eq];omega
      have e2:((c2:Int)==(y:Int))=false:=by rw [beq_eq_false_iff_ne];omega
      clear hne ha;go_wp2_with fail
      go_quiet (fail)
      go_wp2_with fail
      refine⟨⟨j+1,by go_num,by omega,hE.drewN _⟩,?_⟩
      simp [intOf];omega
    · have e1:((a:Int)==(x:Int))=false:=by rw [beq_eq_false_iff_ne];omega
      clear hne ha;go_wp2_with fail
      go_quiet (fail)
      go_wp2_with fail
      refine⟨⟨j+1,by go_num,by omega,hE.drewN _⟩,?_⟩
      simp [intOf];omega
set_option maxRecDepth 100000 in
set_option maxHeartbeats 2000000 in
theorem passn_r0 (B p:Nat)(S:TS)(x y:Reg)(me:Int)(b c k:Nat)(rs:List Reg)(w:World)(h:RAt B w p false S)(hl:RegsAt [3,4,5] w p b rs)(hi:rs[k]?=some x/\rs[k+1]?=some y)(hx:x.ok)(hy:y.ok)(hm:0<=me)(hmx:me<x.n)(hmy:me<y.n) :
  Calls Tryz.prog 270 #[.pointer (some ⟨p,0,none⟩),.slice (some ⟨b,k*7,none⟩) 2 c,V Z me] w fun e w'=>∃ a o' S',e=.returned (V Z a)/\Ref (passM x y me) false S a o' S'/\(o'=true->a=0)/\RAt B w' p o' S'/\KeepR B p w w':=by
 replace hi:=Hd hi
 generalize hR:(fun e w'=>∃ a o' S',e=Ending.returned (V Z a)/\Ref (passM x y me) false S a o' S'/\(o'=true->a=0)/\RAt B w' p o' S'/\KeepR B p w w')=R
 have hdone:∀ a S' w',Ref (passM x y me) false S a false S'->RAt B w' p false S'->KeepR B p w w'->R (.returned (V Z a)) w':=fun a S' w' h1 h2 h3=>hR▸⟨a,false,S',rfl,h1,(fun e=>absurd e (by decide)),h2,h3⟩
 have hover:∀ S' w',Ref (passM x y me) false S 0 true S'->RAt B w' p true S'->KeepR B p w w'->R (.returned (V Z 0)) w':=fun S' w' h1 h2 h3=>hR▸⟨0,true,S',rfl,h1,fun _=>rfl,h2,h3⟩
 clear hR
 have hmw:=IntWalk.i64_in (me+1) (by have:=hx.n;omega)
 obtain⟨⟨c0,c1,c2,c3,c4,c5,c6⟩,⟨c7,c8,c9,c10,c11,c12,c13⟩⟩:=hl.node2 hi.out
 have hn:=hx.n
 go_enter Tryz.func270,Tryz.ntmps270
 go_wp2_with fail
 refine (reg_write_r B p false S x me (me+1) _ h hx ⟨hm,hmx⟩).mono ?_
 rintro e w1 ⟨u,o1,S1,rfl,hr1,hP,hk⟩
 clear c0 c1 c2 c3 c4 c5 c6 c7 c8 c9 c10 c11 c12 c13;replace hl:=hl.keep hk;have hK:=hk;clear hk
 obtain⟨⟨c0,c1,c2,c3,c4,c5,c6⟩,⟨c7,c8,c9,c10,c11,c12,c13⟩⟩:=hl.node2 hi.out
 obtain⟨_,_,_,_,_,hcc⟩:=hP.cell
 have T1:=Hd (fun (a:Int) (o':Bool) (S':TS) (h:Ref ((regR y me).bind fun v=>if v≠0 then .ret 1 else (regW y me 1).bind fun _=>(regR x me).bind fun v=>if v=me+1 then .ret 0 else .ret 2) o1 S1 a o' S')=>(show Ref (passM x y me) false S a o' S' from hr1.bind h))
 clear hr1
 cases o1 with
 | true =>
   have hf:=hover S1 w1 (T1.out 0 true S1 (.over _ _)) hP hK
   clear hover hdone;go_wp2_with fail
   exact hf
 | false =>
   go_wp2_with fail
   clear hcc
   refine (reg_read_r B p false S1 y me _ hP hy ⟨hm,hmy⟩).mono ?_
   rintro e w1 ⟨q,o2,S2,rfl,hr2,hP,hk⟩
   clear c0 c1 c2 c3 c4 c5 c6 c7 c8 c9 c10 c11 c12 c13;replace hl:=hl.keep hk;replace hK:=hK.trans hk;clear hk
   obtain⟨⟨c0,c1,c2,c3,c4,c5,c6⟩,⟨c7,c8,c9,c10,c11,c12,c13⟩⟩:=hl.node2 hi.out
   obtain⟨_,_,_,_,_,hcc⟩:=hP.cell
   cases o2 with
   | true =>
     have hf:=hover S2 w1 (T1.out 0 true S2 (hr2.bind (.over _ _))) hP hK
     clear hover hdone;go_wp2_with fail
     exact hf
   | false =>
     by_cases hq:q=0
     · have hq2:(q != 0)=false:=by simp [hq]
       have T2:=Hd (fun (a:Int) (o':Bool) (S':TS) (h:Ref ((regW y me 1).bind fun _=>(regR x me).bind fun v=>if v=me+1 then .ret 0 else .ret 2) false S2 a o' S')=>(show Ref (passM x y me) false S a o' S' from T1.out a o' S' (hr2.bind (by rw [if_neg (by simpa using hq)];exact h))))
       clear hr2 T1 hq;go_wp2_with fail
       clear hcc
       refine (reg_write_r B p false S2 y me 1 _ hP hy ⟨hm,hmy⟩).mono ?_
       rintro e w1 ⟨u,o3,S3,rfl,hr3,hP,hk⟩
       clear c0 c1 c2 c3 c4 c5 c6 c7 c8 c9 c10 c11 c12 c13;replace hl:=hl.keep hk;replace hK:=hK.trans hk;clear hk
       obtain⟨⟨c0,c1,c2,c3,c4,c5,c6⟩,⟨c7,c8,c9,c10,c11,c12,c13⟩⟩:=hl.node2 hi.out
       obtain⟨_,_,_,_,_,hcc⟩:=hP.cell
       have T3:=Hd (fun (a:Int) (o':Bool) (S':TS) (h:Ref ((regR x me).bind fun v=>if v=me+1 then .ret 0 else .ret 2) o3 S3 a o' S')=>T2.out a o' S' (hr3.bind h))
       clear hr3 T2
       cases o3 with
       | true =>
         have hf:=hover S3 w1 (T3.out 0 true S3 (.over _ _)) hP hK
         clear hover hdone;go_wp2_with fail
         exact hf
       | false =>
         go_wp2_with fail
         clear hcc
         refine (reg_read_r B p false S3 x me _ hP hx ⟨hm,hmx⟩).mono ?_
         rintro e w1 ⟨z,o4,S4,rfl,hr4,hP,hk⟩
         clear c0 c1 c2 c3 c4 c5 c6 c7 c8 c9 c10 c11 c12 c13;replace hl:=hl.keep hk;replace hK:=hK.trans hk;clear hk
         obtain⟨⟨c0,c1,c2,c3,c4,c5,c6⟩,⟨c7,c8,c9,c10,c11,c12,c13⟩⟩:=hl.node2 hi.out
         obtain⟨_,_,_,_,_,hcc⟩:=hP.cell
         cases o4 with
         | true =>
           have hf:=hover S4 w1 (T3.out 0 true S4 (hr4.bind (.over _ _))) hP hK
           clear hover hdone;go_wp2_with fail
           exact hf
         | false =>
           by_cases hz:z=me+1
           · have hz2:(z==me+1)=true:=by simp [hz]
             have hf:=hdone 0 S4 w1 (T3.out 0 false S4 (hr4.bind (by rw [if_pos hz];exact Ref.ret _ _ _))) hP hK
             clear hover hdone hz hr4;go_wp2_with fail
             exact hf
           · have hz2:(z==me+1)=false:=by rw [beq_eq_false_iff_ne];exact hz
             have hf:=hdone 2 S4 w1 (T3.out 2 false S4 (hr4.bind (by rw [if_neg hz];exact Ref.ret _ _ _))) hP hK
             clear hover hdone hz hr4;go_wp2_with fail
             exact hf
     · have hq2:(q != 0)=true:=by rw [bne_iff_ne];exact hq
       have hf:=hdone 1 S2 w1 (T1.out 1 false S2 (hr2.bind (by rw [if_pos hq];exact Ref.ret _ _ _))) hP hK
       clear hover hdone hq hr2;go_wp2_with fail
       exact hf
theorem passn_r (B p:Nat)(S:TS)(x y:Reg)(me:Int)(b c k:Nat)(rs:List Reg)(w:World)(h:RAt B w p false S)(hl:RegsAt [3,4,5] w p b rs)(hi:rs[k]?=some x/\rs[k+1]?=some y)(hx:x.ok)(hy:y.ok)(hm:0<=me)(hmx:me<x.n)(hmy:me<y.n) :
  Calls Tryz.prog 270 #[.pointer (some ⟨p,0,none⟩),.slice (some ⟨b,k*7,none⟩) 2 c,V Z me] w (RPost encI B p w (passM x y me) false S):=by
 refine (passn_r0 B p S x y me b c k rs w h hl hi hx hy hm hmx hmy).mono ?_
 rintro e w' ⟨a,o',S',rfl,h1,h2,h3,h4⟩
 exact⟨a,o',S',rfl,h1,h3,h4⟩
set_option maxRecDepth 100000 in
set_option maxHeartbeats 1000000 in
theorem renwants_r (N:Nat)(w:World)(h1:1<=N)(h2:N<=8) :
  Calls Tryz.prog 213 #[V Z N] w fun e w'=>∃ v,e=.returned v/\w'.ownsRow w.heap.size 179 2 v (2*triN N) ((renW (triN N) N).flatMap wantVals)/\Ext w w':=by
 have hn:nM (N:Int)=N:=nM_id (by omega) (by omega)
 have hL:=fun w=>list05_r N w (by omega)
 have hW:=fun w=>rwants31_r N w
 rw [hn] at hW
 obtain⟨q1,q2⟩:=triN_le h1 h2
 generalize (triPts N).flatMap ptVals=pts at *
 generalize triN N=M at *
 go_enter Tryz.func213,Tryz.ntmps213
 go_wp2_with fail
 refine (rn_any ⟨0,0,0,N,0,0,0⟩ _).mono ?_
 rintro e w1 ⟨rfl,hx⟩
 try simp only
 rw [hn]
 clear hn;go_wp2_with fail
 go_loopw [4,5] (fun v i wr=>∃ j:Nat,i=V Z j/\j<=M/\wr.ownsRow w.heap.size 179 2 v (2*j) ((renW j N).flatMap wantVals)/\Ext w wr) (fun _ i _=>M-(intOf i).toNat)
 case atStart=>exact⟨0,rfl,by omega,World.ownsRow_nil _ _ _ _,hx⟩
 case round =>
  clear hx
  obtain⟨j,rfl,hj,hown,hX⟩:=hrel
  go_wp2_with fail
  refine (hL _).mono ?_
  rintro e w2 ⟨v1,rfl,hr1,hx2⟩
  obtain⟨A1,c1,rfl,-,-,-⟩:=Recs.of_row hr1
  replace hown:=row_ext hown hx2;replace hX:=hX.trans hx2;clear hx2 hr1
  by_cases hl:j<M
  · have d1:decide ((j:Int)<(M:Int))=true:=by rw [decide_eq_true_eq];omega
    go_wp2_with fail
    refine (hW _).mono ?_
    rintro e w3 ⟨v2,rfl,hr2,hx3⟩
    replace hown:=row_ext hown hx3;replace hX:=hX.trans hx3
    obtain⟨A,c,rfl,r1,r2,hV⟩:=hr2
    obtain⟨b,rfl,hb,hc⟩:=hV (by simp [wantVals])
    clear hV hx3
    go_wp2_with (at_builtin;refine append_recs info_want Tryz.underlying102 rfl (by decide) (by decide) rfl _ _ rfl _ (2*j) _ (([⟨-1,(N:Int)⟩,⟨-1,1⟩]:List Want).flatMap wantVals) ⟨b,0,none⟩ 2 c hX hown rfl rfl rfl (fun i u hu=>by rw [Addr.add_lit,Nat.zero_add];exact hc i u hu) (fun u hu=>by simp [wantVals] at hu;rcases hu with rfl | rfl | rfl | rfl <;> rfl) (by omega) (by omega) ?_)
    intro v' w' ho hx'
    have hoh:Hid (w'.ownsRow w.heap.size 179 2 v' (2*(j+1)) ((renW (j+1) N).flatMap wantVals)):=Hd (by
     rw [renW,List.flatMap_append];exact ho)
    clear hown ho hc;go_wp2_with fail
    refine⟨⟨j+1,by go_num,by omega,hoh.out,hx'⟩,?_⟩
    simp [intOf];omega
  · obtain rfl:j=M:=by omega
    have d1:decide ((j:Int)<(j:Int))=false:=by simp
    have hownh:=Hd hown
    clear hown;go_wp2_with fail
    go_ret
    exact⟨_,rfl,hownh.out,hX⟩
theorem places_r (N:Nat)(w:World)(h1:1<=N)(h2:N<=8):Calls Tryz.prog 215 #[V Z N] w fun e w'=>e=.returned (V Z (triN N))/\Ext w w':=by
 have hn:nM (N:Int)=N:=nM_id (by omega) (by omega)
 have hL:=fun w=>list05_r N w (by omega)
 generalize (triPts N).flatMap ptVals=pts at *
 generalize triN N=M at *
 go_enter Tryz.func215,Tryz.ntmps215
 go_wp2_with fail
 refine (rn_any ⟨0,0,0,N,0,0,0⟩ _).mono ?_
 rintro e w1 ⟨rfl,hx⟩
 try simp only
 rw [hn]
 clear hn;go_wp2_with fail
 refine (hL _).mono ?_
 rintro e w2 ⟨v1,rfl,hr1,hx2⟩
 obtain⟨A1,c1,rfl,-,-,-⟩:=Recs.of_row hr1
 have hf:=Hd (hx.trans hx2)
 clear hx hx2 hr1 hL;go_wp2_with fail
 go_ret
 exact⟨rfl,hf.out⟩
set_option maxRecDepth 100000 in
set_option maxHeartbeats 2000000 in
theorem getname_r (B p N:Nat)(o:Bool)(S:TS)(rs:List Reg)(own:Int)(m b d:Nat)(w:World)(h:RAt B w p o S)(hreg:RegsAt [3,4,5] w p b rs)(hlen:rs.length=2*triN N)(hok:∀ r∈rs,r.ok/\r.n=N)(h1:1<=N)(h2:N<=8)(hm1:m<N)
  (_hd:d+2*triN N<=9223372036854775807) :
  Calls Tryz.prog 214 #[.pointer (some ⟨p,0,none⟩),.slice (some ⟨b,0,none⟩) rs.length (d+rs.length),V Z N,V Z own,V Z m] w (RPost encI B p w (getM rs N own m) o S):=by
 generalize hR:RPost encI B p w (getM rs N own m) o S=R
 have hO:ROwes R encI B p w (getM rs N own m) o S:=hR▸rowes _ _ _ _ _ _ _
 clear hR
 have hK:=Keep.refl [3,4,5] B p w
 have hP:=h;clear h;unfold getM at hO
 obtain⟨hT1,hT36⟩:=triN_le h1 h2
 have hL:=fun w=>list05_r N w (by omega)
 have hNm:=fun x y w h=>name05_r x y w h
 have hw1:=IntWalk.i64_in ((triN N:Int)-1) (by omega)
 have hlenh:=Hd hlen
 have hokh:=Hd hok
 have hoh:=Hd hO.get
 clear hok hO
 go_enter Tryz.func214,Tryz.ntmps214
 go_wp2_with fail
 refine (get_r B p o S own _ hP).mono ?_
 rintro e w' ⟨rfl,rfl⟩;have hO:=hoh.out;clear hoh
 have hgt:=fun W h=>get_r B p o S own W h
 generalize S.got own=x at hO hgt ⊢
 by_cases hx:x=0
 · have dx:(x != 0)=false:=by simpa using hx
   rw [if_neg (by simpa using hx)] at hO
   have hOh:=Hd hO;clear hO hx hgt;go_wp2_with fail
   refine (hL _).mono ?_
   rintro e w2 ⟨v2,rfl,hr2,hx2⟩
   obtain⟨A2,c2,rfl,-,-,-⟩:=Recs.of_row hr2
   replace hK:=hK.trans (Keep.of_ext hx2 hP.lt hP.le)
   replace hreg:=hreg.extL hx2 hP.lt;replace hP:=hP.ext hx2;clear hr2 hx2 hL
   obtain⟨G,hG⟩:∃ G:Int->Prog Int,G=fun name=>(st own (name+1)).bind fun _=>.ret name:=⟨_,rfl⟩
   replace hO:=hOh.out
   rw [<- hG] at hO
   clear hOh
   have hOh2:=Hd hO
   have hGh:=Hd hG
   clear hO hG
   go_upto_block 0 with fail
   go_cut [13] (fun s13 wx=>∃ (name:Int) (o2:Bool) (S2:TS),s13=V Z name/\(o2=false->0<=name/\name<=100)/\RAt B wx p o2 S2/\KeepR B p w wx/\Hid (ROwes R encI B p w (G name) o2 S2))
   case first =>
    go_wp2_with fail
    go_loopw [11,12,13] (fun xv yv u wr=>∃ (f x y:Nat) (o2:Bool) (S2:TS),xv=V Z x/\yv=V Z y/\x+y+f=N/\u=V Z ((triN N:Int)-1)/\RAt B wr p o2 S2/\KeepR B p w wr/\RegsAt [3,4,5] wr p b rs/\Hid (ROwes R encI B p w ((nameM rs N m f x y).bind G) o2 S2)) (fun xv yv _ _=>N-((intOf xv).toNat+(intOf yv).toNat))
    case atStart=>exact⟨N,0,0,o,S,rfl,rfl,by omega,rfl,hP,hK,hreg,hOh2⟩
    case round =>
     clear hP hK hreg hOh2
     obtain⟨f,x,y,o2,S2,rfl,rfl,hxy,rfl,hP,hK,hreg,hOh⟩:=hrel
     obtain⟨_,_,_,_,_,hcc⟩:=hP.cell
     have hw5:=IntWalk.i64_in ((x:Int)+(y:Int)) (by omega)
     cases f with
     | zero =>
       have d1:decide ((x:Int)+(y:Int)<(N:Int))=false:=by rw [decide_eq_false_iff_not];omega
       have hO:=hOh.out
       rw [show nameM rs N m 0 x y=.ret ((triN N:Int)-1) from rfl,Prog.bind_ret] at hO
       clear hOh;have hOh:=Hd hO;clear hO hxy;go_wp2_with fail
       go_meet
       exact⟨_,o2,S2,rfl,fun _=>by omega,hP,hK,hOh⟩
     | succ f =>
       have d1:decide ((x:Int)+(y:Int)<(N:Int))=true:=by rw [decide_eq_true_eq];omega
       cases o2 with
       | true =>
         have hO:=hOh.out.any (G ((triN N:Int)-1))
         clear hOh;have hOh:=Hd hO;clear hO hxy;go_wp2_with fail
         go_meet
         exact⟨_,true,S2,rfl,(fun h=>absurd h (by decide)),hP,hK,hOh⟩
       | false =>
         have hkl:=triName_lt (x:=x) (y:=y) (N:=N) (by omega)
         have hnm:=fun w=>name05_r x y w (by omega)
         obtain⟨k,hk⟩:∃ k,triName x y=k:=⟨_,rfl⟩
         rw [hk] at hkl hnm
         obtain⟨q0,hq0⟩:∃ r,rs[2*k]?=some r:=⟨_,List.getElem?_eq_getElem (by have:=hlenh.out;omega)⟩
         obtain⟨q1,hq1⟩:∃ r,rs[2*k+1]?=some r:=⟨_,List.getElem?_eq_getElem (by have:=hlenh.out;omega)⟩
         have hok0:=hokh.out _ (List.mem_of_getElem? hq0)
         have hok1:=hokh.out _ (List.mem_of_getElem? hq1)
         have hO:=hOh.out
         rw [show nameM rs N m (f+1) x y=((passM (regAt rs (2*(triName x y:Int))) (regAt rs (2*(triName x y:Int)+1)) m).bind fun told =>
          if told=0 then .ret (triName x y:Int) else if told=1 then nameM rs N m f (x+1) y else nameM rs N m f x (y+1)) from rfl,hk,regAt_of (show 2*(k:Int)=((2*k:Nat):Int) from by omega) hq0,regAt_of (show 2*(k:Int)+1=((2*k+1:Nat):Int) from by omega) hq1,Prog.bind_assoc] at hO
         clear hOh;have hOh:=Hd hO
         have hqq:=Hd (And.intro hq0 hq1)
         have hxyh:=Hd hxy
         have hkh:=Hd hk
         have e1:=IntWalk.i64_in (2*(k:Int)) (by omega)
         have e8:=IntWalk.i64_in ((x:Int)+1) (by omega)
         have e9:=IntWalk.i64_in ((y:Int)+1) (by omega)
         have e2:=IntWalk.i64_in (2*(k:Int)+2) (by omega)
         have e3:(2*(k:Int)).toNat=2*k:=by omega
         have e4:(2*(k:Int)+2).toNat=2*k+2:=by omega
         have e5:2*(k:Int)+2<=((d+2*triN N:Nat):Int):=by omega
         have e6:0<=2*(k:Int):=by omega
         have e7:2*(k:Int)<=2*(k:Int)+2:=by omega
         clear hO hq0 hq1 hxy hk;go_wp2_with fail
         refine (hnm _).mono ?_
         rintro e w2 ⟨rfl,hx2⟩
         replace hK:=hK.trans (Keep.of_ext hx2 hP.lt hP.le)
         replace hreg:=hreg.extL hx2 hP.lt;replace hP:=hP.ext hx2;clear hx2 hcc;go_wp2_with fail
         refine rstep hOh.out hK (passn_r B p S2 q0 q1 m b _ (2*k) rs _ hP hreg hqq.out hok0.1 hok1.1 (by omega) (by rw [hok0.2];omega) (by rw [hok1.2];omega)) ?_
         clear hOh hK hP;intro told o3 S3 w3 hP hk1 hK hO;replace hreg:=hreg.keep hk1;clear hk1 hqq hok0 hok1 hnm e1 e2 e3 e4 e5 e6 e7 hNm
         by_cases ht0:told=0
         · have dt:(told==0)=true:=by rw [beq_iff_eq];exact ht0
           rw [if_pos ht0,Prog.bind_ret] at hO;have hOh:=Hd hO;clear hO ht0;go_wp2_with fail
           go_meet
           exact⟨_,o3,S3,rfl,fun _=>by omega,hP,hK,hOh⟩
         · have dt:(told==0)=false:=by rw [beq_eq_false_iff_ne];exact ht0
           rw [if_neg ht0] at hO;clear ht0
           by_cases ht1:told=1
           · have dt1:(told==1)=true:=by rw [beq_iff_eq];exact ht1
             rw [if_pos ht1] at hO;have hOh:=Hd hO;clear hO ht1;go_wp2_with fail
             refine⟨⟨f,x+1,y,o3,S3,by simp,rfl,by have:=hxyh.out;omega,rfl,hP,hK,hreg,hOh⟩,?_⟩
             have:=hxyh.out
             simp [intOf];omega
           · have dt1:(told==1)=false:=by rw [beq_eq_false_iff_ne];exact ht1
             rw [if_neg ht1] at hO;have hOh:=Hd hO;clear hO ht1;go_wp2_with fail
             refine⟨⟨f,x,y+1,o3,S3,rfl,by simp,by have:=hxyh.out;omega,rfl,hP,hK,hreg,hOh⟩,?_⟩
             have:=hxyh.out
             simp [intOf];omega
   case rest =>
    obtain⟨name,o2,S2,rfl,hnb,hP,hK,hOh⟩:=hcut
    have hf:Hid (ROwes R encI B p w ((st own (wrap64 (name+1))).bind fun _=>.ret name) o2 S2):=by
     refine Hd ?_
     cases o2 with
     | true=>exact hOh.out.any _
     | false =>
       have:=hnb rfl
       rw [show wrap64 (name+1)=name+1 from by unfold wrap64;omega]
       have hO:=hOh.out;rw [hGh.out] at hO;exact hO
    clear hOh hnb hGh;go_wp2_with fail
    refine rstep hf.out hK (set_r B p o2 S2 own _ _ hP) ?_
    clear hf hK hP;intro u9 o9 S9 w9 hP hk hK hO
    have hff:R (.returned (encI name)) w9:=hO.ret hP hK
    clear hO hP hK hk;go_wp2_with fail
    first | exact hff | (go_ret;exact hff)
 · have dx:(x != 0)=true:=by simpa using hx
   rw [if_pos (by simpa using hx)] at hO
   have hf:R (.returned (encI (wrap64 (x-1)))) w:=hO.ret hP hK
   clear hO hx;go_wp2_with fail
   refine (hgt _ hP).mono ?_
   rintro e w' ⟨rfl,rfl⟩;clear hgt;go_wp2_with fail
   first | exact hf | (go_ret;exact hf)
theorem wants28_0 (w:World):Calls Tryz.prog 241 #[V Z 0] w fun e w'=>e=.returned (.slice none 0 0)/\Ext w w':=by
 go_enter Tryz.func241,Tryz.ntmps241
 go_wp2_with fail
 go_loopw [3,4] (fun v i wr=>i=V Z 0/\v=.slice none 0 0/\Ext w wr) (fun _ _ _=>0)
 case atStart=>exact⟨rfl,rfl,Ext.refl _⟩
 case round =>
  obtain⟨rfl,rfl,hX⟩:=hrel
  go_wp2_with fail
  go_ret
  exact⟨rfl,hX⟩
theorem rtwants1_r (w:World):Calls Tryz.prog 180 #[V Z 6,V Z 1] w fun e w'=>e=.returned (.slice none 0 0)/\Ext w w':=by
 have hL:=fun w=>leaves_r 1 w (by omega)
 have hE:=fun w=>each_r 6 w
 rw [show (2 ^ levels ((1:Nat):Int):Nat)=1 from by decide] at hL
 rw [each6] at hE
 go_enter Tryz.func180,Tryz.ntmps180
 go_wp2_with fail
 refine (hE _).mono ?_
 rintro e w' ⟨rfl,rfl⟩;go_wp2_with fail
 refine (hL _).mono ?_
 rintro e w' ⟨rfl,rfl⟩;go_wp2_with fail
 refine (wants28_0 _).mono ?_
 rintro e w3 ⟨rfl,hx⟩
 go_wp2_with fail
 go_ret
 exact⟨rfl,hx⟩
set_option maxRecDepth 100000 in
set_option maxHeartbeats 1000000 in
theorem adwants_r (N:Nat)(w:World)(h1:1<=N)(h2:N<=8) :
  Calls Tryz.prog 181 #[V Z N] w fun e w'=>∃ v,e=.returned v/\WantsAt w' v (adWants N)/\Ext w w':=by
 obtain⟨q1,q2⟩:=triN_le h1 h2
 have hPl:=fun w=>places_r N w h1 h2
 have ht:=adTree_le h1 h2
 have hW:=fun w=>rtwants_r 6 (triN N) w (by omega)
 rw [each6] at hW
 have hR:=fun w=>renwants_r N w h1 h2
 have hlen:=adWants_len (N:=N)
 have had:adWants N=renW (triN N) N++List.replicate (3*(2 ^ levels (triN N:Nat)-1)) (⟨-1,1⟩:Want):=rfl
 have hLh:=Hd (show triN N≠1->3*(2 ^ levels (triN N:Nat)-1)≠0 from fun h=>tree_pos (by omega) q2)
 have hL1:=Hd (show triN N=1->3*(2 ^ levels (triN N:Nat)-1)=0 from fun h=>by rw [h];decide)
 unfold treeWants at hW
 generalize 3*(2 ^ levels (triN N:Nat)-1)=L at *
 generalize hl1:renW (triN N) N=l1 at *
 generalize triN N=M at *
 have hlenh:=Hd hlen
 have hadh:=Hd had
 clear hlen had
 go_enter Tryz.func181,Tryz.ntmps181
 go_wp2_with fail
 refine (hR _).mono ?_
 rintro e w2 ⟨v,rfl,hown,hX⟩
 go_wp2_with fail
 refine (hPl _).mono ?_
 rintro e w9 ⟨rfl,hx9⟩
 replace hown:=row_ext hown hx9;replace hX:=hX.trans hx9;clear hx9;go_wp2_with fail
 by_cases hM1:M=1
 · subst hM1
   obtain rfl:L=0:=hL1.out rfl
   clear hW
   refine (rtwants1_r _).mono ?_
   rintro e w3 ⟨rfl,hx3⟩
   replace hown:=row_ext hown hx3;replace hX:=hX.trans hx3;clear hx3
   go_wp2_with (at_builtin;refine append_none info_want Tryz.underlying102 rfl _ _ rfl w.heap.size _ (2*1) _ hown rfl rfl ?_)
   have hf:Hid (WantsAt w3 v (adWants N)):=Hd (by
    have:=Recs.of_row hown
    unfold WantsAt
    rw [hlenh.out,hadh.out]
    simpa using this)
   clear hown;go_wp2_with fail
   go_ret
   exact⟨_,rfl,hf.out,hX⟩
 · refine (hW _).mono ?_
   rintro e w3 ⟨v2,rfl,hr2,hx3⟩
   replace hown:=row_ext hown hx3;replace hX:=hX.trans hx3;clear hx3
   obtain⟨A,c,rfl,r1,r2,hV⟩:=hr2
   rw [List.length_replicate] at *
   have hfl:((List.replicate L (⟨-1,1⟩:Want)).flatMap wantVals).length=L*2:=by
    rw [List.length_flatMap]
    simp [wantVals]
   obtain⟨b,rfl,hb,hc⟩:=hV (by
    have hL0:=hLh.out hM1
    cases L with
    | zero=>exact absurd rfl hL0
    | succ L=>simp [wantVals,List.replicate])
   clear hV
   go_wp2_with (at_builtin;refine append_recs info_want Tryz.underlying102 rfl (by decide) (by decide) rfl _ _ rfl _ (2*M) _ ((List.replicate L (⟨-1,1⟩:Want)).flatMap wantVals) ⟨b,0,none⟩ L c hX hown rfl rfl hfl (fun i u hu=>by rw [Addr.add_lit,Nat.zero_add];exact hc i u hu) (fun u hu=>by
    obtain⟨q,_,hq⟩:=List.mem_flatMap.1 hu
    simp [wantVals] at hq;rcases hq with rfl | rfl <;> rfl) (by omega) (by omega) ?_)
   intro v' w' ho hx'
   have hf:Hid (WantsAt w' v' (adWants N)):=Hd (by
    have:=Recs.of_row ho
    unfold WantsAt
    rw [hlenh.out,hadh.out,List.flatMap_append]
    exact this)
   clear hown ho hc;go_wp2_with fail
   go_ret
   exact⟨_,rfl,hf.out,hx'⟩
set_option maxRecDepth 100000 in
theorem adregs_r (alg mode base loc room:Int)(N:Nat)(rs:List Reg)(w:World)(h1:1<=N)(h2:N<=8)(hl:layM (adWants N) N mode base loc=some rs)(hlc:0<=loc/\loc<=32768) :
  Calls Tryz.prog 212 #[.agg #[V Z alg,V Z N,V Z mode,V Z base,V Z loc,V Z room]] w fun e w'=>∃ b c,e=.returned (.tuple #[.slice (some ⟨b,0,none⟩) rs.length c,V Z (loc+sumL rs)])/\w.heap.size<=b/\b<w'.heap.size/\(∀ (i:Nat) u,(rs.flatMap regVals)[i]?=some u->w'.cell? ⟨b,i,none⟩=some u)/\rs.length<=c/\c<=9223372036854775807/\Ext w w':=by
 have hlen:=layM_len hl
 rw [adWants_len] at hlen
 have ht:=adTree_le h1 h2
 obtain⟨q1,q2⟩:=triN_le h1 h2
 have hwl:(adWants N).length<=1000:=by rw [adWants_len];omega
 have hlen9:1<=rs.length/\rs.length<=300:=by omega
 have hok:∀ r∈rs,r.ok:=fun r hr=>(laid_all hl r hr).1
 have hbd:=sum_bd hok rs.length (Nat.le_refl _)
 rw [List.take_length] at hbd
 have hw:=IntWalk.i64_in (loc+sumL rs) (by omega)
 replace hl:=Hd hl
 have hlenh:=Hd hlen9
 have hokh:=Hd hok
 clear hlen hok hbd ht q1 q2 hlen9
 have hX:=Ext.refl w
 have b1:=Blk.new w (.cells #[V Z alg,V Z N,V Z mode,V Z base,V Z loc,V Z room] 23)
 replace hX:=hX.alloc (.cells #[V Z alg,V Z N,V Z mode,V Z base,V Z loc,V Z room] 23)
 have c_b1:=b1.cells
 go_enter Tryz.func212,Tryz.ntmps212
 go_wp2_with fail
 generalize w.alloc _=W at *
 have hXW:=hX;clear hX c_b1
 have hX:=(Ext.refl W).drew
 have hS:∀ w',Ext W w'->(∀ i,w'.cell? ⟨w.heap.size,i,none⟩=(#[V Z alg,V Z N,V Z mode,V Z base,V Z loc,V Z room]:Array Value)[i]?):=fun w' hx=>(b1.ext hx).cells
 go_region_held2 (fun w'=>∀ i,w'.cell? ⟨w.heap.size,i,none⟩=(#[V Z alg,V Z N,V Z mode,V Z base,V Z loc,V Z room]:Array Value)[i]?) (exact hS _ hX)
  (first
    | (go_at_call 181
       refine (adwants_r N _ h1 h2).mono ?_
       rintro e w2 ⟨v2,rfl,hw2,hx⟩
       replace hX:=hX.trans hx;have hz2:=hX.size
       clear hx)
    | (go_at_call 176
       refine (layr_some hl.out _ (hw2.ext (Ext.refl _)) hwl).mono ?_
       rintro e w3 ⟨v3,rfl,hr3,hx⟩
       replace hX:=hX.trans hx
       clear hx))
 rename_i hh
 clear hh
 obtain⟨⟨A,c,rfl,q3,q4,hV⟩,hown⟩:=hr3
 obtain⟨b,rfl,hb,hcells⟩:=hV (by cases rs with | nil=>have:=hlenh.out.1;simp only [List.length_nil] at this;omega | cons r l=>simp [regVals])
 have hge:w.heap.size<=b:=Nat.le_trans (Nat.le_trans hXW.size hz2) (hown b rfl)
 have hch:=Hd hcells
 clear hcells hV hown hz2;go_wp2_with fail
 refine (size_r b c rs w3 hb hch.out hokh.out (by have:=hlenh.out.2;omega)).mono ?_
 rintro e w4 ⟨rfl,hx4⟩
 have hcells4:∀ (i:Nat) u,(rs.flatMap regVals)[i]?=some u->w4.cell? ⟨b,i,none⟩=some u:=fun i u hu=>(hx4.cell (p:=⟨b,i,none⟩) hb).trans (hch.out i u hu)
 have hfh:=Hd (And.intro (Nat.lt_of_lt_of_le hb hx4.size) (And.intro hcells4 (hXW.trans (hX.trans hx4))))
 have hS4:=fun (w':World) (hx:Ext w4 w')=>((b1.ext (hX.trans hx4)).ext hx).cells
 clear hcells4 hch hb hx4 hX;go_wp2_with fail
 have hE:=(Ext.refl w4).drew
 go_region_held2 (fun w'=>∀ i,w'.cell? ⟨w.heap.size,i,none⟩=(#[V Z alg,V Z N,V Z mode,V Z base,V Z loc,V Z room]:Array Value)[i]?) (exact hS4 _ hE) (fail)
 rename_i hh
 clear hh
 have hff:=Hd (And.intro (Nat.lt_of_lt_of_le hfh.out.1 hE.size) (And.intro (fun (i:Nat) u hu=>(hE.cell (p:=⟨b,i,none⟩) hfh.out.1).trans (hfh.out.2.1 i u hu)) (hfh.out.2.2.trans hE)))
 clear hS4 hE;go_wp2_with fail
 first | go_ret2 | go_ret
 exact⟨_,_,rfl,hge,hff.out.1,hff.out.2.1,q3,q4,hff.out.2.2⟩
set_option maxRecDepth 100000 in
set_option maxHeartbeats 800000 in
theorem adacq_r (B p N D:Nat)(o:Bool)(S:TS)(alg mode base loc room:Int)(m:Nat)(rs:List Reg)(w:World)(h:RAt B w p o S)(h1:1<=N)(h2:N<=8)(hm1:m<N)(hl:layM (adWants N) N mode base loc=some rs)(hlc:0<=loc/\loc<=32768)
  (hall:∀ r∈rs,r.ok/\r.n=N)(htold:∀ r∈rs.drop (2*triN N),r.told m)(hD:S.left<D)(hn0:S.nts.length<=100000) :
  Calls Tryz.prog 114 #[.pointer (some ⟨p,0,none⟩),.agg #[V Z alg,V Z N,V Z mode,V Z base,V Z loc,V Z room],V Z m] w (RPost encI B p w (adA D rs (loc+sumL rs) N m) o S):=by
 have hlen:=layM_len hl
 rw [adWants_len] at hlen
 obtain⟨q1,q2⟩:=triN_le h1 h2
 have ht:=adTree_le h1 h2
 generalize hR:RPost encI B p w (adA D rs (loc+sumL rs) N m) o S=R
 have hO:ROwes R encI B p w (adA D rs (loc+sumL rs) N m) o S:=hR▸rowes _ _ _ _ _ _ _
 clear hR
 obtain⟨b1,hK,hP⟩:=h.entry (.cells #[V Z alg,V Z N,V Z mode,V Z base,V Z loc,V Z room] 23)
 have c_b1:=b1.cells;clear h;unfold adA at hO
 have hPl:=fun w=>places_r N w h1 h2
 have hRW:=fun w=>renwants_r N w h1 h2
 have hdl:(rs.drop (2*triN N)).length=3*(2 ^ levels (triN N:Nat)-1):=by rw [List.length_drop];omega
 have hdl2:rs.length-2*triN N=(rs.drop (2*triN N)).length:=by rw [List.length_drop]
 have htk:(rs.take (2*triN N)).length=2*triN N:=by rw [List.length_take];omega
 have hdall:∀ r∈rs.drop (2*triN N),r.ok/\(m:Int)<r.n/\r.told m:=fun r hr=>by
  have q:=hall r (List.mem_of_mem_drop hr)
  refine⟨q.1,by rw [q.2];omega,htold r hr⟩
 have htall:∀ r∈rs.take (2*triN N),r.ok/\r.n=N:=fun r hr=>hall r (List.mem_of_mem_take hr)
 have hle:2*triN N<=rs.length:=by omega
 have hlM:=Hd hl
 have hdlh:=Hd (And.intro hdl (And.intro hdl2 (And.intro htk (And.intro hdall htall))))
 clear hlen ht hdl hdl2 htk hdall htall hl hall htold;have hOh:=Hd hO;clear hO
 go_enter Tryz.func114,Tryz.ntmps114
 go_wp2_with fail
 refine (adregs_r alg mode base loc room N rs _ h1 h2 hlM.out hlc).mono ?_
 rintro e w1 ⟨b,c,rfl,hge,hb,hcells,qc1,qc2,hx⟩
 have hreg:RegsAt [3,4,5] w1 p b rs:=⟨hb,hP.fresh hx hge,hcells⟩
 replace hK:=hK.trans (Keep.of_ext hx hP.lt hP.le);replace b1:=b1.ext hx hP.lt;replace hP:=hP.ext hx;clear hx hcells hge hb c_b1
 generalize w.heap.size=z at *
 have c_b1:=b1.cells;go_wp2_with fail
 refine (hRW _).mono ?_
 rintro e w2 ⟨v2,rfl,hr2,hx⟩
 obtain⟨A2,c2,rfl,-,-,-⟩:=Recs.of_row hr2
 replace hK:=hK.trans (Keep.of_ext hx hP.lt hP.le);replace b1:=b1.ext hx hP.lt;replace hreg:=hreg.extL hx hP.lt;replace hP:=hP.ext hx;clear hx hr2 c_b1 hRW
 obtain⟨cut,hcut⟩:∃ cut,cut=2*triN N:=⟨_,rfl⟩
 rw [<- hcut] at hdlh hle hOh ⊢
 obtain⟨cd,rfl⟩:∃ cd,c=cd+cut:=⟨c-cut,by omega⟩
 have hcuth:=Hd hcut
 have hcb:1<=cut/\cut<=72:=by omega
 clear hcut
 have e1:(cut:Int)<=(cd:Int)+(cut:Int):=by omega
 have e2:(0:Int)<=(cut:Int):=by omega
 have e3:((cut:Nat):Int).toNat=cut:=by omega
 have e4:cut<=cd+cut:=by omega
 go_wp2_with fail
 refine rstepN (notes_nt 1) hOh.out hK (note_r B p o S 1 _ hP (by unfold maxAns;omega)) ?_
 clear hOh hK hP;intro u o1 S1 wn hlf _ hnn hP hk hK hO;replace hD:=Nat.lt_of_le_of_lt hlf hD
 replace hn0:S1.nts.length<=100001:=by omega
 replace b1:=b1.keep hk;replace hreg:=hreg.keep hk;clear hk hnn hlf;have hOh:=Hd hO;clear hO
 have hgn:=fun (W:World) (hP:RAt B W p o1 S1) (hr:RegsAt [3,4,5] W p b rs)=>getname_r B p N o1 S1 (rs.take cut) (loc+sumL rs) m b cd W hP (hr.part _) (by rw [hdlh.out.2.2.1,hcuth.out]) hdlh.out.2.2.2.2 h1 h2 hm1 (by rw [<- hcuth.out];omega)
 rw [hdlh.out.2.2.1] at hgn
 have hgnh:=Hd hgn
 clear hgn;go_wp2_with fail
 have hS:∀ w',HeldR w' p z (.cells #[V Z alg,V Z N,V Z mode,V Z base,V Z loc,V Z room] 23)->(∀ i,w'.cell? ⟨z,i,none⟩=(#[V Z alg,V Z N,V Z mode,V Z base,V Z loc,V Z room]:Array Value)[i]?):=fun w' x=>x.cells
 refine wp_region_held_drew (S:=fun w'=>∀ i,w'.cell? ⟨z,i,none⟩=(#[V Z alg,V Z N,V Z mode,V Z base,V Z loc,V Z room]:Array Value)[i]?) rfl (hS _ b1) (fun hHeld=>?_)
 replace hP:=hP.drew;replace hK:=hK.drew;replace b1:=b1.drew
 replace hreg:=hreg.extL (Ext.refl _).drew hP.lt
 refine tkb 0 ?_
 iterate 8
  refine tkn (v:=?_) rfl (by kernel_rfl) (fun _ _ _ h=>h) (by assumption) ?_ ?_
  rotate_left
  · (intro w hSw;(try dsimp only at hSw);go_simp;try with_reducible rfl)
  try simp only [put_pack]
 refine tke ?_
 refine wpAnyH_ready (rs:=[8]) (by kernel_rfl) (by simp) ?_
 refine AllReadyH.cons rfl (fun K hKK=>?_) (AllReadyH.nil)
 go_simp
 refine rstepN (notes_getM _ _ _ _) hOh.out hK (hgnh.out _ hP hreg) ?_
 clear hOh hK hP;intro name o2 S2 w3 hlf _ hnn hP hk hK hO;replace hD:=Nat.lt_of_le_of_lt hlf hD
 replace hn0:S2.nts.length<=100001:=by omega
 replace b1:=b1.keep hk;replace hreg:=hreg.keep hk;clear hk hnn hlf hgnh
 refine hKK.out _ _ (hS _ b1) (fun hHeld=>?_)
 clear hKK K
 try dsimp only
 refine tk 9 (v:=?_) rfl (by kernel_rfl) (fun _ _ _ h=>h) (by assumption) ?_ ?_
 rotate_left
 · (intro w hSw;(try dsimp only at hSw);go_simp;try with_reducible rfl)
 try simp only [put_pack]
 refine wpAnyH_done (by kernel_rfl) ?_ _
 go_simp
 have hOh:=Hd hO;clear hO;clear e1 e2 e3 e4
 obtain⟨_,_,_,_,_,hcc⟩:=hP.cell
 have c_b1:=b1.cells
 cases o2 with
 | true =>
   have hOk:=Hd (hOh.out.any ((nt 3).bind fun _=>.ret (0:Int)))
   clear hOh;go_wp2_with fail
   clear hcc c_b1
   refine rstepN (notes_nt 3) hOk.out hK (note_r B p true S2 3 _ hP (by unfold maxAns;omega)) ?_
   clear hOk hK hP;intro u o9 S9 w9 _ _ _ hP _ hK hO
   have hf:R (.returned (encI 0)) w9:=hO.ret hP hK
   clear hO hP hK;go_wp2_with fail
   first | exact hf | (go_ret;exact hf)
 | false =>
   by_cases hn1:0<=name
   · have d1:decide (0<=name)=true:=by rw [decide_eq_true_eq];exact hn1
     by_cases hn2:name<(triN N:Int)
     · have d2:decide (name<(triN N:Int))=true:=by rw [decide_eq_true_eq];exact hn2
       obtain⟨nm,rfl⟩:∃ nm:Nat,name=(nm:Int):=⟨name.toNat,by omega⟩
       have hO:=hOh.out;unfold adClimb at hO
       rw [if_pos ⟨hn1,hn2⟩,Int.toNat_natCast] at hO
       have hOk:=Hd hO
       have hnh:=Hd (show nm<triN N by omega)
       clear hO hOh hn1 hn2;go_wp2_with fail
       refine (hPl _).mono ?_
       rintro e w4 ⟨rfl,hx⟩
       replace hK:=hK.trans (Keep.of_ext hx hP.lt hP.le);replace b1:=b1.ext hx hP.lt;replace hreg:=hreg.extL hx hP.lt;replace hP:=hP.ext hx;clear hx c_b1 hcc;go_wp2_with fail
       have f1:(cut:Int)<=(rs.length:Int):=by omega
       refine wp_region_held_drew (S:=fun w'=>∀ i,w'.cell? ⟨z,i,none⟩=(#[V Z alg,V Z N,V Z mode,V Z base,V Z loc,V Z room]:Array Value)[i]?) rfl (hS _ b1) (fun hHeld=>?_)
       replace hP:=hP.drew;replace hK:=hK.drew;replace b1:=b1.drew
       replace hreg:=hreg.extL (Ext.refl _).drew hP.lt
       refine tkb 0 ?_
       iterate 6
        refine tkn (v:=?_) rfl (by kernel_rfl) (fun _ _ _ h=>h) (by assumption) ?_ ?_
        rotate_left
        · (intro w hSw;(try dsimp only at hSw);go_simp;try with_reducible rfl)
        try simp only [put_pack]
       refine tke ?_
       refine tk 7 (v:=?_) rfl (by kernel_rfl) (fun _ _ _ h=>h) (by assumption) ?_ ?_
       rotate_left
       · (intro w hSw;(try dsimp only at hSw);go_simp;try with_reducible rfl)
       try simp only [put_pack]
       refine tk 8 (v:=?_) rfl (by kernel_rfl) (fun _ _ _ h=>h) (by assumption) ?_ ?_
       rotate_left
       · (intro w hSw;(try dsimp only at hSw);go_simp;try with_reducible rfl)
       try simp only [put_pack]
       refine wpAnyH_ready (rs:=[6]) (by kernel_rfl) (by simp) ?_
       refine AllReadyH.cons rfl (fun K hKK=>?_) (AllReadyH.nil)
       go_simp
       refine (hPl _).mono ?_
       rintro e w5 ⟨rfl,hx⟩
       replace hK:=hK.trans (Keep.of_ext hx hP.lt hP.le);replace b1:=b1.ext hx hP.lt;replace hreg:=hreg.extL hx hP.lt;replace hP:=hP.ext hx;clear hx
       refine hKK.out _ _ (hS _ b1) (fun hHeld=>?_)
       clear hKK K
       try dsimp only
       refine wpAnyH_ready (rs:=[9]) (by kernel_rfl) (by simp) ?_
       refine AllReadyH.cons rfl (fun K hKK=>?_) (AllReadyH.nil)
       go_simp
       rw [hdlh.out.2.1]
       refine rstepN (notes_forP (fun _ _=>notes_nodeE _ _ _ _ _) _ _) hOk.out hK (rclimb_q3 B p D false S2 6 (triN N) nm m rs (rs.drop cut) cut rfl _ _ _ hP (by decide) q1 (by omega) hnh.out hdlh.out.1 (by rw [<- hdlh.out.2.1];omega) (by omega) (fun hne=>by split <;> first | exact⟨b,rfl,hreg⟩ | exact absurd (List.drop_eq_nil_of_le (by omega)) hne) hdlh.out.2.2.2.1 (by omega) hD) ?_
       clear hOk hK hP;intro u o3 S3 w6 _ _ hnn hP hk hK hO
       replace hn0:S3.nts.length<=100001:=by omega
       replace b1:=b1.keep hk;clear hk hreg
       refine hKK.out _ _ (hS _ b1) (fun hHeld=>?_)
       clear hKK K
       try dsimp only
       refine wpAnyH_done (by kernel_rfl) ?_ _
       go_simp
       have hOk:=Hd hO
       clear hO;go_wp2_with fail
       all_goals
        refine rstepN (notes_nt 3) hOk.out hK (note_r B p o3 S3 3 _ hP (by unfold maxAns;omega)) ?_
        clear hOk hK hP;intro u o9 S9 w9 _ _ _ hP _ hK hO
        have hf:R (.returned (encI 0)) w9:=hO.ret hP hK
        clear hO hP hK;go_wp2_with fail
        all_goals first | exact hf | (go_ret;exact hf)
     · have d2:decide (name<(triN N:Int))=false:=by rw [decide_eq_false_iff_not];exact hn2
       have hO:=hOh.out;unfold adClimb at hO
       rw [if_neg (fun h=>hn2 h.2),Prog.bind_ret] at hO
       have hOk:=Hd hO
       clear hO hOh hn1 hn2;go_wp2_with fail
       refine (hPl _).mono ?_
       rintro e w4 ⟨rfl,hx⟩
       replace hK:=hK.trans (Keep.of_ext hx hP.lt hP.le);replace hP:=hP.ext hx;clear hx c_b1 hcc;go_wp2_with fail
       refine rstepN (notes_nt 3) hOk.out hK (note_r B p false S2 3 _ hP (by unfold maxAns;omega)) ?_
       clear hOk hK hP;intro u o9 S9 w9 _ _ _ hP _ hK hO
       have hf:R (.returned (encI 0)) w9:=hO.ret hP hK
       clear hO hP hK;go_wp2_with fail
       first | exact hf | (go_ret;exact hf)
   · have d1:decide (0<=name)=false:=by rw [decide_eq_false_iff_not];exact hn1
     have hO:=hOh.out;unfold adClimb at hO
     rw [if_neg (fun h=>hn1 h.1),Prog.bind_ret] at hO
     have hOk:=Hd hO
     clear hO hOh hn1;go_wp2_with fail
     clear hcc c_b1
     refine rstepN (notes_nt 3) hOk.out hK (note_r B p false S2 3 _ hP (by unfold maxAns;omega)) ?_
     clear hOk hK hP;intro u o9 S9 w9 _ _ _ hP _ hK hO
     have hf:R (.returned (encI 0)) w9:=hO.ret hP hK
     clear hO hP hK;go_wp2_with fail
     first | exact hf | (go_ret;exact hf)
set_option maxRecDepth 100000 in
set_option maxHeartbeats 800000 in
theorem adrel_r (B p N:Nat)(o:Bool)(S:TS)(alg mode base loc room:Int)(m:Nat)(rs:List Reg)(w:World)(h:RAt B w p o S)(h1:1<=N)(h2:N<=8)(hm1:m<N)(hl:layM (adWants N) N mode base loc=some rs)(hlc:0<=loc/\loc<=32768)
  (hall:∀ r∈rs,r.ok/\r.n=N)(htold:∀ r∈rs.drop (2*triN N),r.told m)(hn0:S.nts.length<=100000) :
  Calls Tryz.prog 121 #[.pointer (some ⟨p,0,none⟩),.agg #[V Z alg,V Z N,V Z mode,V Z base,V Z loc,V Z room],V Z m] w (RPost encU B p w (adR rs (loc+sumL rs) N m) o S):=by
 have hlen:=layM_len hl
 rw [adWants_len] at hlen
 obtain⟨q1,q2⟩:=triN_le h1 h2
 have ht:=adTree_le h1 h2
 generalize hR:RPost encU B p w (adR rs (loc+sumL rs) N m) o S=R
 have hO:ROwes R encU B p w (adR rs (loc+sumL rs) N m) o S:=hR▸rowes _ _ _ _ _ _ _
 clear hR
 obtain⟨b1,hK,hP⟩:=h.entry (.cells #[V Z alg,V Z N,V Z mode,V Z base,V Z loc,V Z room] 23)
 have c_b1:=b1.cells;clear h;unfold adR at hO
 have hPl:=fun w=>places_r N w h1 h2
 have hRW:=fun w=>renwants_r N w h1 h2
 have hdl:(rs.drop (2*triN N)).length=3*(2 ^ levels (triN N:Nat)-1):=by rw [List.length_drop];omega
 have hdl2:rs.length-2*triN N=(rs.drop (2*triN N)).length:=by rw [List.length_drop]
 have htk:(rs.take (2*triN N)).length=2*triN N:=by rw [List.length_take];omega
 have hdall:∀ r∈rs.drop (2*triN N),r.ok/\(m:Int)<r.n/\r.told m:=fun r hr=>by
  have q:=hall r (List.mem_of_mem_drop hr)
  refine⟨q.1,by rw [q.2];omega,htold r hr⟩
 have htall:∀ r∈rs.take (2*triN N),r.ok/\r.n=N:=fun r hr=>hall r (List.mem_of_mem_take hr)
 have hle:2*triN N<=rs.length:=by omega
 have hlM:=Hd hl
 have hdlh:=Hd (And.intro hdl (And.intro hdl2 (And.intro htk (And.intro hdall htall))))
 clear hlen ht hdl hdl2 htk hdall htall hl hall htold;have hOh:=Hd hO;clear hO
 go_enter Tryz.func121,Tryz.ntmps121
 go_wp2_with fail
 refine (adregs_r alg mode base loc room N rs _ h1 h2 hlM.out hlc).mono ?_
 rintro e w1 ⟨b,c,rfl,hge,hb,hcells,qc1,qc2,hx⟩
 have hreg:RegsAt [3,4,5] w1 p b rs:=⟨hb,hP.fresh hx hge,hcells⟩
 replace hK:=hK.trans (Keep.of_ext hx hP.lt hP.le);replace b1:=b1.ext hx hP.lt;replace hP:=hP.ext hx;clear hx hcells hge hb c_b1
 generalize w.heap.size=z at *
 have c_b1:=b1.cells;go_wp2_with fail
 refine (hRW _).mono ?_
 rintro e w2 ⟨v2,rfl,hr2,hx⟩
 obtain⟨A2,c2,rfl,-,-,-⟩:=Recs.of_row hr2
 replace hK:=hK.trans (Keep.of_ext hx hP.lt hP.le);replace b1:=b1.ext hx hP.lt;replace hreg:=hreg.extL hx hP.lt;replace hP:=hP.ext hx;clear hx hr2 c_b1 hRW
 obtain⟨cut,hcut⟩:∃ cut,cut=2*triN N:=⟨_,rfl⟩
 rw [<- hcut] at hdlh hle hOh ⊢
 obtain⟨cd,rfl⟩:∃ cd,c=cd+cut:=⟨c-cut,by omega⟩
 have hcuth:=Hd hcut
 have hcb:1<=cut/\cut<=72:=by omega
 clear hcut;go_wp2_with fail
 refine rstepN (notes_nt 5) hOh.out hK (note_r B p o S 5 _ hP (by unfold maxAns;omega)) ?_
 clear hOh hK hP;intro u o1 S1 wn _ _ _ hP hk hK hO;replace b1:=b1.keep hk;replace hreg:=hreg.keep hk;clear hk hn0
 have hOh:=Hd hO.get
 clear hO;go_wp2_with fail
 refine (get_r B p o1 S1 (loc+sumL rs) _ hP).mono ?_
 rintro e w' ⟨rfl,rfl⟩
 generalize S1.got (loc+sumL rs)=had at hOh ⊢
 obtain⟨name,hname⟩:∃ name,name=wrap64 (had-1):=⟨_,rfl⟩
 have hnw:IntKind.i64.wrap (had-1)=name:=by rw [IntKind.wrap_i64,hname,wrap64]
 rw [<- hname] at hOh
 clear hname
 have hS:∀ w',HeldR w' p z (.cells #[V Z alg,V Z N,V Z mode,V Z base,V Z loc,V Z room] 23)->(∀ i,w'.cell? ⟨z,i,none⟩=(#[V Z alg,V Z N,V Z mode,V Z base,V Z loc,V Z room]:Array Value)[i]?):=fun w' x=>x.cells
 have c_b1:=b1.cells
 by_cases hn1:0<=name
 · have d1:decide (0<=name)=true:=by rw [decide_eq_true_eq];exact hn1
   by_cases hn2:name<(triN N:Int)
   · have d2:decide (name<(triN N:Int))=true:=by rw [decide_eq_true_eq];exact hn2
     obtain⟨nm,rfl⟩:∃ nm:Nat,name=(nm:Int):=⟨name.toNat,by omega⟩
     have hO:=hOh.out;unfold adDown at hO
     rw [if_pos ⟨hn1,hn2⟩,Int.toNat_natCast] at hO
     have hOk:=Hd hO
     have hnh:=Hd (show nm<triN N by omega)
     clear hO hOh hn1 hn2;go_wp2_with fail
     refine (hPl _).mono ?_
     rintro e w4 ⟨rfl,hx⟩
     replace hK:=hK.trans (Keep.of_ext hx hP.lt hP.le);replace b1:=b1.ext hx hP.lt;replace hreg:=hreg.extL hx hP.lt;replace hP:=hP.ext hx;clear hx c_b1;go_wp2_with fail
     have f1:(cut:Int)<=(rs.length:Int):=by omega
     refine wp_region_held_drew (S:=fun w'=>∀ i,w'.cell? ⟨z,i,none⟩=(#[V Z alg,V Z N,V Z mode,V Z base,V Z loc,V Z room]:Array Value)[i]?) rfl (hS _ b1) (fun hHeld=>?_)
     replace hP:=hP.drew;replace hK:=hK.drew;replace b1:=b1.drew
     replace hreg:=hreg.extL (Ext.refl _).drew hP.lt
     refine tkb 0 ?_
     iterate 6
      refine tkn (v:=?_) rfl (by kernel_rfl) (fun _ _ _ h=>h) (by assumption) ?_ ?_
      rotate_left
      · (intro w hSw;(try dsimp only at hSw);go_simp;try with_reducible rfl)
      try simp only [put_pack]
     refine tke ?_
     refine tk 7 (v:=?_) rfl (by kernel_rfl) (fun _ _ _ h=>h) (by assumption) ?_ ?_
     rotate_left
     · (intro w hSw;(try dsimp only at hSw);go_simp;try with_reducible rfl)
     try simp only [put_pack]
     refine tk 8 (v:=?_) rfl (by kernel_rfl) (fun _ _ _ h=>h) (by assumption) ?_ ?_
     rotate_left
     · (intro w hSw;(try dsimp only at hSw);go_simp;try with_reducible rfl)
     try simp only [put_pack]
     refine wpAnyH_ready (rs:=[6]) (by kernel_rfl) (by simp) ?_
     refine AllReadyH.cons rfl (fun K hKK=>?_) (AllReadyH.nil)
     go_simp
     refine (hPl _).mono ?_
     rintro e w5 ⟨rfl,hx⟩
     replace hK:=hK.trans (Keep.of_ext hx hP.lt hP.le);replace b1:=b1.ext hx hP.lt;replace hreg:=hreg.extL hx hP.lt;replace hP:=hP.ext hx;clear hx
     refine hKK.out _ _ (hS _ b1) (fun hHeld=>?_)
     clear hKK K
     try dsimp only
     refine wpAnyH_ready (rs:=[9]) (by kernel_rfl) (by simp) ?_
     refine AllReadyH.cons rfl (fun K hKK=>?_) (AllReadyH.nil)
     go_simp
     rw [hdlh.out.2.1]
     refine rlast hOk.out hK (rdown_q3 B p o1 S1 6 (triN N) nm m rs (rs.drop cut) cut rfl _ _ _ hP (by decide) q1 (by omega) hnh.out hdlh.out.1 (by rw [<- hdlh.out.2.1];omega) (by omega) (fun hne=>by split <;> first | exact⟨b,rfl,hreg⟩ | exact absurd (List.drop_eq_nil_of_le (by omega)) hne) hdlh.out.2.2.2.1 (by omega)) ?_
     clear hOk hK hP;intro u o3 S3 w6 hP hk hK hO;replace b1:=b1.keep hk;clear hk hreg
     refine hKK.out _ _ (hS _ b1) (fun hHeld=>?_)
     clear hKK K
     try dsimp only
     refine wpAnyH_done (by kernel_rfl) ?_ _
     go_simp
     have hf:R (.returned (encU ())) w6:=hO.ret hP hK
     clear hO hP hK;go_wp2_with fail
     all_goals first | exact hf | (refine bodyPost_ret (results_none rfl _ _ _) rfl ?_;exact hf)
   · have d2:decide (name<(triN N:Int))=false:=by rw [decide_eq_false_iff_not];exact hn2
     have hO:=hOh.out;unfold adDown at hO
     rw [if_neg (fun h=>hn2 h.2)] at hO
     have hOk:=Hd hO
     clear hO hOh hn1 hn2;go_wp2_with fail
     refine (hPl _).mono ?_
     rintro e w4 ⟨rfl,hx⟩
     replace hK:=hK.trans (Keep.of_ext hx hP.lt hP.le);replace hP:=hP.ext hx;clear hx c_b1
     have hf:R (.returned (encU ())) w4:=hOk.out.ret hP hK
     clear hOk hP hK;go_wp2_with fail
     first | exact hf | (refine bodyPost_ret (results_none rfl _ _ _) rfl ?_;exact hf)
 · have d1:decide (0<=name)=false:=by rw [decide_eq_false_iff_not];exact hn1
   have hO:=hOh.out;unfold adDown at hO
   rw [if_neg (fun h=>hn1 h.1)] at hO
   have hf:R (.returned (encU ())) wn:=by
    exact hO.ret hP hK
   clear hO hOh hn1 c_b1;go_wp2_with fail
   first | exact hf | (refine bodyPost_ret (results_none rfl _ _ _) rfl ?_;exact hf)
theorem n23_r (alg mode base loc room:Int)(N:Nat)(w:World)(h1:1<=N)(h2:N<=8) :
  Calls Tryz.prog 106 #[.agg #[V Z alg,V Z N,V Z mode,V Z base,V Z loc,V Z room]] w fun e w'=>e=.returned (V Z N)/\Ext w w':=by
 have hn:nM (N:Int)=N:=nM_id (by omega) (by omega)
 have hX:=Ext.refl w
 have b1:=Blk.new w (.cells #[V Z alg,V Z N,V Z mode,V Z base,V Z loc,V Z room] 23)
 replace hX:=hX.alloc (.cells #[V Z alg,V Z N,V Z mode,V Z base,V Z loc,V Z room] 23)
 have c_b1:=b1.cells
 go_enter Tryz.func106,Tryz.ntmps106
 go_wp2_with fail
 refine (rn_any ⟨0,0,0,N,0,0,0⟩ _).mono ?_
 rintro e w1 ⟨rfl,hx⟩
 simp only
 rw [hn]
 have hf:=Hd (hX.trans hx)
 clear hx hn;go_wp2_with fail
 go_ret
 exact⟨rfl,hf.out⟩
theorem room23_r (alg N mode base loc room:Int)(w:World)(h1:1<=room)(h2:room<=1048576) :
  Calls Tryz.prog 198 #[.agg #[V Z alg,V Z N,V Z mode,V Z base,V Z loc,V Z room]] w fun e w'=>e=.returned (V Z room)/\Ext w w':=by
 have hc:clamp room 1048576=room:=by unfold clamp within;omega
 have d1:decide (room<1)=false:=by rw [decide_eq_false_iff_not];omega
 have hX:=Ext.refl w
 have b1:=Blk.new w (.cells #[V Z alg,V Z N,V Z mode,V Z base,V Z loc,V Z room] 23)
 replace hX:=hX.alloc (.cells #[V Z alg,V Z N,V Z mode,V Z base,V Z loc,V Z room] 23)
 have c_b1:=b1.cells
 have hf:=Hd hX
 clear hX
 go_enter Tryz.func198,Tryz.ntmps198
 go_wp2_with fail
 refine (clamp_r _ _ _).mono ?_
 rintro e w' ⟨rfl,rfl⟩
 rw [hc]
 go_wp2_with fail
 go_ret
 exact⟨rfl,hf.out⟩
set_option maxRecDepth 100000 in
set_option maxHeartbeats 4000000 in
theorem bakwait_r (B p N D m j:Nat)(o:Bool)(S:TS)(alg mode base loc room T:Int)(w:World)(h:RAt B w p o S)(h1:1<=N)(h2:N<=8)(hj1:j<N)(hba:0<=base/\base<=32768)(hD:S.left<D) :
  Calls Tryz.prog 199 #[.pointer (some ⟨p,0,none⟩),.agg #[V Z alg,V Z N,V Z mode,V Z base,V Z loc,V Z room],V Z m,V Z j,V Z T] w (RPost encU B p w (bakFor D base N m T j) o S):=by
 generalize hR:RPost encU B p w (bakFor D base N m T j) o S=R
 have hO:ROwes R encU B p w (bakFor D base N m T j) o S:=hR▸rowes _ _ _ _ _ _ _
 clear hR
 obtain⟨b1,hK,hP⟩:=h.entry (.cells #[V Z alg,V Z N,V Z mode,V Z base,V Z loc,V Z room] 23)
 have c_b1:=b1.cells;clear h
 have hw1:=IntWalk.i64_in (base+(j:Int)) (by omega)
 have hw2:=IntWalk.i64_in (base+(N:Int)) (by omega)
 have hw3:=IntWalk.i64_in (base+(N:Int)+(j:Int)) (by omega)
 unfold bakFor at hO
 obtain⟨J,hJ⟩:∃ J:Int->Nat->Prog Unit,∀ xv n,J xv n=if xv=0 then bakWait (base+N+j) T m j D else (zeroC (base+j) n).bind fun _=>bakWait (base+N+j) T m j D:=⟨_,fun _ _=>rfl⟩
 rw [show ((zeroC (base+(j:Int)) D).bind fun _=>bakWait (base+N+j) T m j D)=J 1 D from (hJ 1 D).symm] at hO
 have hJh:=Hd hJ
 have hOh:=Hd hO;clear hO hJ
 go_enter Tryz.func199,Tryz.ntmps199
 go_upto_block 0 with fail
 clear c_b1
 generalize hbb:w.heap.size=z at *
 generalize World.alloc w _=W0 at *
 clear hbb
 go_cut [] (fun wx=>∃ (o2:Bool) (S2:TS),RAt B wx p o2 S2/\KeepR B p w wx/\HeldR wx p z (.cells #[V Z alg,V Z N,V Z mode,V Z base,V Z loc,V Z room] 23)/\S2.left<D/\Hid (ROwes R encU B p w (bakWait (base+N+j) T m j D) o2 S2))
 case first =>
  go_wp2_with fail
  go_loopw [10] (fun u wr=>∃ (xv:Int) (n:Nat) (o2:Bool) (S2:TS),u=V Z xv/\RAt B wr p o2 S2/\KeepR B p w wr/\HeldR wr p z (.cells #[V Z alg,V Z N,V Z mode,V Z base,V Z loc,V Z room] 23)/\S2.left<D/\Hid (ROwes R encU B p w (J xv n) o2 S2)/\(o2=false->xv≠0->S2.left<n)) (fun _ wr=>leftR wr p)
  case atStart=>exact⟨1,D,o,S,rfl,hP,hK,b1,hD,hOh,fun _ _=>hD⟩
  case round =>
   clear hP hK b1 hD hOh
   obtain⟨xv,n,o2,S2,rfl,hP,hK,b1,hD,hOh,hn⟩:=hrel
   have hlw:=Hd hP.leftR
   obtain⟨_,_,_,_,_,hcc⟩:=hP.cell
   by_cases hx:xv=0
   · have dx:(xv != 0)=false:=by simpa using hx
     replace hO:=hOh.out;rw [hJh.out,if_pos hx] at hO
     have hf:=Hd hO
     clear hO hOh hx hn hcc;go_wp2_with fail
     go_meet
     exact⟨o2,S2,hP,hK,b1,hD,hf⟩
   · have dx:(xv != 0)=true:=by simpa using hx
     cases o2 with
     | true =>
       have hf:=Hd (hOh.out.any (bakWait (base+N+j) T m j D))
       clear hOh hx hn;go_wp2_with fail
       go_meet
       exact⟨true,S2,hP,hK,b1,hD,hf⟩
     | false =>
       have hn:=hn rfl hx
       cases n with
       | zero=>omega
       | succ n =>
         replace hO:=hOh.out;rw [hJh.out,if_neg hx,zeroC_bind] at hO;clear hOh hx;have hOh:=Hd hO;clear hO;have c_b1:=b1.cells;go_wp2_with fail
         clear hcc c_b1
         refine rstepA (notes_rd _) hOh.out hK (read_r B p false S2 _ _ hP) ?_
         clear hOh hK hP;intro x o3 S3 w3 htm hlf hdn _ hP hk hK hO;replace b1:=b1.keep hk;clear hk htm
         have hn3:o3=false->x≠0->S3.left<n:=fun ho _=>by have:=(hdn ho).2.2 (asks_rd _);omega
         have hlw2:=Hd hP.leftR
         have hdec:o3=false->S3.left<S2.left:=fun ho=>(hdn ho).2.2 (asks_rd _)
         replace hD:=Nat.lt_of_le_of_lt hlf hD;clear hdn
         have hf:Hid (ROwes R encU B p w (J x n) o3 S3):=by
          refine Hd ?_
          rw [hJh.out]
          exact hO
         clear hO;go_wp2_with fail
         refine⟨⟨x,n,o3,S3,rfl,hP,hK,b1,hD,hf,hn3⟩,?_⟩
         rw [hlw.out,hlw2.out]
         cases o3 with
         | true=>simp;omega
         | false=>have:=hdec rfl;simp;omega
 case rest =>
  clear hP hK b1 hD hOh
  obtain⟨o2,S2,hP,hK,b1,hD,hOh⟩:=hcut
  obtain⟨J2,hJ2⟩:∃ J:Bool->Nat->Prog Unit,∀ bv n,J bv n=if bv=true then bakWait (base+N+j) T m j n else .ret ():=⟨_,fun _ _=>rfl⟩
  have hOh2:Hid (ROwes R encU B p w (J2 true D) o2 S2):=by
   refine Hd ?_
   rw [hJ2]
   exact hOh.out
  have hJ2h:=Hd hJ2
  clear hOh hJ2;go_wp2_with fail
  go_loopw [11] (fun u wr=>∃ (bv:Bool) (n:Nat) (o2:Bool) (S2:TS),u=.bool bv/\RAt B wr p o2 S2/\KeepR B p w wr/\HeldR wr p z (.cells #[V Z alg,V Z N,V Z mode,V Z base,V Z loc,V Z room] 23)/\Hid (ROwes R encU B p w (J2 bv n) o2 S2)/\(o2=false->bv=true->S2.left<n)) (fun _ wr=>leftR wr p)
  case atStart=>exact⟨true,D,o2,S2,rfl,hP,hK,b1,hOh2,fun _ _=>hD⟩
  case round =>
   clear hP hK b1 hD hOh2
   obtain⟨bv,n,o2,S2,rfl,hP,hK,b1,hOh,hn⟩:=hrel
   have hlw:=Hd hP.leftR
   obtain⟨_,_,_,_,_,hcc⟩:=hP.cell
   cases bv with
   | false =>
     replace hO:=hOh.out
     rw [hJ2h.out,if_neg (by decide)] at hO
     have hf:R (.returned (encU ())) wr:=hO.ret hP hK
     clear hO hOh hn hP hK hcc b1 hlw;go_wp2_with fail
     first | exact hf | (refine bodyPost_ret (results_none rfl _ _ _) rfl ?_;exact hf)
   | true =>
     cases o2 with
     | true =>
       have hf:R (.returned (encU ())) wr:=hOh.out.over () hP hK
       clear hOh hn hK b1 hlw;go_wp2_with fail
       first | exact hf | (refine bodyPost_ret (results_none rfl _ _ _) rfl ?_;exact hf)
     | false =>
       have hn1:=hn rfl rfl
       clear hn
       cases n with
       | zero=>omega
       | succ n =>
         replace hO:=hOh.out
         rw [hJ2h.out,if_pos rfl,<- Prog.bind_id (bakWait _ _ _ _ _),bakWait_bind] at hO
         clear hOh;go_wp2_with fail
         clear hcc;replace hP:=hP.drew;replace hK:=hK.drew;replace b1:=b1.drew;have c_b1:=b1.cells
         go_region_held2 (fun w'=>∀ i:Nat,w'.cell? ⟨z,i,none⟩=(#[V Z alg,V Z N,V Z mode,V Z base,V Z loc,V Z room]:Array Value)[i]?) (first | with_reducible exact c_b1 | go_keep)
          (first
            | (go_at_call 106
               refine (n23_r alg mode base loc room N _ h1 h2).mono ?_
               rintro e w2 ⟨rfl,hx⟩
               clear c_b1;replace hK:=hK.trans (Keep.of_ext hx hP.lt hP.le);replace b1:=b1.ext hx hP.lt;have c_b1:=b1.cells;replace hP:=hP.ext hx
               clear hx)
            | (go_at_call 134
               refine rstepA (notes_rd _) hO hK (read_r B p false S2 _ _ hP) ?_
               clear hO hK hP c_b1;intro x o3 S3 w3 htm hlf hdn _ hP hk hK hO;replace b1:=b1.keep hk;have c_b1:=b1.cells
               clear hk htm))
         have hn3:o3=false->S3.left<n:=fun ho=>by have:=(hdn ho).2.2 (asks_rd _);omega
         have hlw2:=Hd hP.leftR
         have hdec:o3=false->S3.left<S2.left:=fun ho=>(hdn ho).2.2 (asks_rd _)
         clear hdn c_b1 hn1;rw [Prog.bind_id] at hO
         by_cases hq0:x=0
         · have d0:(x != 0)=false:=by simpa using hq0
           have hf:Hid (ROwes R encU B p w (J2 false n) o3 S3):=by
            refine Hd ?_
            rw [hJ2h.out,if_neg (by decide)]
            rw [if_neg (by omega)] at hO
            exact hO
           clear hO hq0;go_wp2_with fail
           refine⟨⟨false,n,o3,S3,rfl,hP,hK,b1,hf,fun _ h=>by cases h⟩,?_⟩
           rw [hlw.out,hlw2.out]
           cases o3 with
           | true=>simp;omega
           | false=>have:=hdec rfl;simp;omega
         · have d0:(x != 0)=true:=by simpa using hq0
           by_cases hq1:x<T
           · have d1:decide (x<T)=true:=by rw [decide_eq_true_eq];exact hq1
             have hf:Hid (ROwes R encU B p w (J2 true n) o3 S3):=by
              refine Hd ?_
              rw [hJ2h.out,if_pos rfl]
              rw [if_pos (⟨hq0,.inl hq1⟩)] at hO
              exact hO
             clear hO hq0 hq1;go_wp2_with fail
             refine⟨⟨true,n,o3,S3,rfl,hP,hK,b1,hf,fun ho _=>hn3 ho⟩,?_⟩
             rw [hlw.out,hlw2.out]
             cases o3 with
             | true=>simp;omega
             | false=>have:=hdec rfl;simp;omega
           · have d1:decide (x<T)=false:=by rw [decide_eq_false_iff_not];exact hq1
             by_cases hq2:x=T
             · have d2:(x==T)=true:=by simpa using hq2
               by_cases hq3:(j:Int)<(m:Int)
               · have d3:decide (j<m)=true:=by rw [decide_eq_true_eq];omega
                 have hf:Hid (ROwes R encU B p w (J2 true n) o3 S3):=by
                  refine Hd ?_
                  rw [hJ2h.out,if_pos rfl]
                  rw [if_pos (⟨hq0,.inr ⟨hq2,hq3⟩⟩)] at hO
                  exact hO
                 clear hO hq0 hq1 hq2 hq3;go_wp2_with fail
                 refine⟨⟨true,n,o3,S3,rfl,hP,hK,b1,hf,fun ho _=>hn3 ho⟩,?_⟩
                 rw [hlw.out,hlw2.out]
                 cases o3 with
                 | true=>simp;omega
                 | false=>have:=hdec rfl;simp;omega
               · have d3:decide (j<m)=false:=by rw [decide_eq_false_iff_not];omega
                 have hf:Hid (ROwes R encU B p w (J2 false n) o3 S3):=by
                  refine Hd ?_
                  rw [hJ2h.out,if_neg (by decide)]
                  rw [if_neg (by omega)] at hO
                  exact hO
                 clear hO hq0 hq1 hq2 hq3;go_wp2_with fail
                 refine⟨⟨false,n,o3,S3,rfl,hP,hK,b1,hf,fun _ h=>by cases h⟩,?_⟩
                 rw [hlw.out,hlw2.out]
                 cases o3 with
                 | true=>simp;omega
                 | false=>have:=hdec rfl;simp;omega
             · have d2:(x==T)=false:=by simpa using hq2
               have hf:Hid (ROwes R encU B p w (J2 false n) o3 S3):=by
                refine Hd ?_
                rw [hJ2h.out,if_neg (by decide)]
                rw [if_neg (by omega)] at hO
                exact hO
               clear hO hq0 hq1 hq2;go_wp2_with fail
               refine⟨⟨false,n,o3,S3,rfl,hP,hK,b1,hf,fun _ h=>by cases h⟩,?_⟩
               rw [hlw.out,hlw2.out]
               cases o3 with
               | true=>simp;omega
               | false=>have:=hdec rfl;simp;omega
set_option maxRecDepth 100000 in
set_option maxHeartbeats 4000000 in
theorem bakacq_r (B p N D:Nat)(o:Bool)(S:TS)(alg mode base loc room:Int)(m:Nat)(w:World)(h:RAt B w p o S)(h1:1<=N)(h2:N<=8)(hm1:m<N)(hba:0<=base/\base<=32768)(hro:1<=room/\room<=1048576)
  (hta:TameA S)(hD:S.left<D)(hn0:S.nts.length<=100000) :
  Calls Tryz.prog 108 #[.pointer (some ⟨p,0,none⟩),.agg #[V Z alg,V Z N,V Z mode,V Z base,V Z loc,V Z room],V Z m] w (RPost encI B p w (bakA D base N room loc m) o S):=by
 generalize hR:RPost encI B p w (bakA D base N room loc m) o S=R
 have hO:ROwes R encI B p w (bakA D base N room loc m) o S:=hR▸rowes _ _ _ _ _ _ _
 clear hR
 obtain⟨b1,hK,hP⟩:=h.entry (.cells #[V Z alg,V Z N,V Z mode,V Z base,V Z loc,V Z room] 23)
 have c_b1:=b1.cells;clear h;unfold bakA at hO
 have hw1:=IntWalk.i64_in (base+(N:Int)) (by omega)
 have hw2:=IntWalk.i64_in (base+(m:Int)) (by omega)
 have hw3:=IntWalk.i64_in (base+(N:Int)+(m:Int)) (by omega)
 have hOh:=Hd hO;clear hO
 go_enter Tryz.func108,Tryz.ntmps108
 go_wp2_with fail
 refine (n23_r alg mode base loc room N _ h1 h2).mono ?_
 rintro e w1 ⟨rfl,hx⟩
 replace hK:=hK.trans (Keep.of_ext hx hP.lt hP.le);replace b1:=b1.ext hx hP.lt;replace hP:=hP.ext hx;clear hx c_b1
 generalize w.heap.size=z at *
 go_wp2_with fail
 refine rstepA (notes_nt 1) hOh.out hK (note_r B p o S 1 _ hP (by unfold maxAns;omega)) ?_
 clear hOh hK hP;intro u o1 S1 wn htm hlf hdn hnn hP hk hK hO;replace hta:=htm hta;replace hD:=Nat.lt_of_le_of_lt hlf hD
 replace hn0:S1.nts.length<=100001:=by omega
 replace b1:=b1.keep hk;clear hk htm hnn hlf;clear hdn;have hOh:=Hd hO;have c_b1:=b1.cells;clear hO;go_wp2_with fail
 clear c_b1
 refine rstepA (notes_wr _ _) hOh.out hK (write_r B p o1 S1 _ _ _ hP) ?_
 clear hOh hK hP;intro u o2 S2 wn htm hlf hdn hnn hP hk hK hO;replace hta:=htm hta;replace hD:=Nat.lt_of_le_of_lt hlf hD
 replace hn0:S2.nts.length<=100001:=by omega
 replace b1:=b1.keep hk;clear hk htm hnn hlf;clear hdn
 obtain⟨F,hF⟩:∃ F:Int->Prog Int,F=bakIn D base N room loc m:=⟨_,rfl⟩
 rw [<- hF,Int.toNat_natCast] at hO
 have hOh:=Hd hO
 have hFh:=Hd hF
 clear hO hF
 go_upto_block 0 with fail
 go_cut [8] (fun s8 wx=>∃ (tv:Int) (o2:Bool) (S2:TS),s8=V Z tv/\RAt B wx p o2 S2/\KeepR B p w wx/\HeldR wx p z (.cells #[V Z alg,V Z N,V Z mode,V Z base,V Z loc,V Z room] 23)/\S2.left<D/\TameA S2/\S2.nts.length<=100001/\Hid (ROwes R encI B p w (F (tv-1)) o2 S2))
 case first =>
  go_wp2_with fail
  go_loopw [8,9,10] (fun u i v wr=>∃ (j:Nat) (tv:Int) (o2:Bool) (S2:TS),i=V Z j/\u=V Z tv/\j<=N/\(o2=false->1<=tv/\tv<=1048577)/\RAt B wr p o2 S2/\KeepR B p w wr/\HeldR wr p z (.cells #[V Z alg,V Z N,V Z mode,V Z base,V Z loc,V Z room] 23)/\S2.left<D/\TameA S2/\S2.nts.length<=100001/\Hid (ROwes R encI B p w ((forP (fun j t=>(rd (base+N+j)).bind fun x=>.ret (max t x)) (ranksFrom m (N-j) j) (tv-1)).bind F) o2 S2)) (fun _ i _ _=>N-(intOf i).toNat)
  case atStart=>exact⟨0,1,o2,S2,rfl,rfl,by omega,fun _=>by omega,hP,hK,b1,hD,hta,hn0,hOh⟩
  case round =>
   clear hP hK b1 hD hta hn0 hOh
   obtain⟨j,tv,o2,S2,rfl,rfl,hj,htv,hP,hK,b1,hD,hta,hn0,hOh⟩:=hrel
   by_cases hjN:j<N
   · have dj:decide ((j:Int)<(N:Int))=true:=by rw [decide_eq_true_eq];omega
     obtain⟨g,hg⟩:∃ g,N-j=g+1:=⟨N-j-1,by omega⟩
     by_cases hjm:j=m
     · subst hjm
       have djm:((j:Int) != (j:Int))=false:=by simp
       replace hO:=hOh.out
       rw [hg,ranks_skip,show g=N-(j+1) from by omega] at hO
       have hf:=Hd hO
       clear hO hOh hg;go_wp2_with fail
       refine⟨⟨j+1,tv,o2,S2,by go_num,rfl,by omega,htv,hP,hK,b1,hD,hta,hn0,hf⟩,?_⟩
       simp [intOf];omega
     · have djm:((j:Int) != (m:Int))=true:=by rw [bne_iff_ne];omega
       have hw4:=IntWalk.i64_in (base+(N:Int)+(j:Int)) (by omega)
       replace hO:=hOh.out
       rw [hg,ranks_cons _ _ _ (by omega),bakMost_cons,show g=N-(j+1) from by omega] at hO
       clear hOh hg;have hOh:=Hd hO;have c_b1:=b1.cells;clear hO;go_wp2_with fail
       clear c_b1
       refine rstepA (notes_rd _) hOh.out hK (read_r B p o2 S2 _ _ hP) ?_
       clear hOh hK hP;intro x o5 S5 wn htm hlf hdn hnn hP hk hK hO
       have hxb:o5=false->(1<=tv/\tv<=1048577)/\0<=x/\x<=1048576:=fun ho=>⟨htv (hdn ho).1,rd_bd hta (hdn ho).2.1⟩
       replace hta:=htm hta;replace hD:=Nat.lt_of_le_of_lt hlf hD
       replace hn0:S5.nts.length<=100001:=by omega
       replace b1:=b1.keep hk;clear hk htm hnn hlf hdn htv
       by_cases hc:tv<=x
       · have d2:decide (tv<=x)=true:=by rw [decide_eq_true_eq];exact hc
         have hf:Hid (ROwes R encI B p w ((forP (fun j t=>(rd (base+N+j)).bind fun x=>.ret (max t x)) (ranksFrom m (N-(j+1)) ((j:Int)+1)) (IntKind.i64.wrap (x+1)-1)).bind F) o5 S5):=by
          refine Hd ?_
          cases o5 with
          | true=>exact hO.any _
          | false =>
            obtain⟨_,hxb⟩:=hxb rfl
            rw [IntWalk.i64_in (x+1) (by omega),show x+1-1=x from by omega]
            rw [show max (tv-1) x=x from by omega] at hO
            exact hO
         have hb5:o5=false->1<=IntKind.i64.wrap (x+1)/\IntKind.i64.wrap (x+1)<=1048577:=fun ho=>by
          obtain⟨_,hxb⟩:=hxb ho
          rw [IntWalk.i64_in (x+1) (by omega)]
          omega
         clear hxb hc hO
         obtain⟨v,hv⟩:∃ v,IntKind.i64.wrap (x+1)=v:=⟨_,rfl⟩
         rw [hv] at hf hb5
         go_wp2_with fail
         refine⟨⟨j+1,v,o5,S5,by go_num,rfl,by omega,hb5,hP,hK,b1,hD,hta,hn0,hf⟩,?_⟩
         simp [intOf];omega
       · have d2:decide (tv<=x)=false:=by rw [decide_eq_false_iff_not];exact hc
         have hf:Hid (ROwes R encI B p w ((forP (fun j t=>(rd (base+N+j)).bind fun x=>.ret (max t x)) (ranksFrom m (N-(j+1)) ((j:Int)+1)) (tv-1)).bind F) o5 S5):=by
          refine Hd ?_
          cases o5 with
          | true=>exact hO.any _
          | false =>
            rw [show max (tv-1) x=tv-1 from by omega] at hO
            exact hO
         have hb5:o5=false->1<=tv/\tv<=1048577:=fun ho=>(hxb ho).1
         clear hxb hc hO;go_wp2_with fail
         refine⟨⟨j+1,tv,o5,S5,by go_num,rfl,by omega,hb5,hP,hK,b1,hD,hta,hn0,hf⟩,?_⟩
         simp [intOf];omega
   · obtain rfl:N=j:=by omega
     have dj:decide ((N:Int)<(N:Int))=false:=by simp
     replace hO:=hOh.out;rw [Nat.sub_self,ranks_zero,forP_nilB] at hO
     have hOh2:=Hd hO
     clear hO hOh htv;go_wp2_with fail
     go_meet
     exact⟨tv,o2,S2,rfl,hP,hK,b1,hD,hta,hn0,hOh2⟩
 case rest =>
  clear hP hK b1 hD hta hn0 hOh
  obtain⟨tv,o2,S2,rfl,hP,hK,b1,hD,hta,hn0,hOh⟩:=hcut
  replace hO:=hOh.out;rw [hFh.out] at hO;unfold bakIn at hO
  rw [show tv-1+1=tv from by omega] at hO
  clear hOh;have c_b1:=b1.cells
  by_cases hfull:room<tv
  · have df:decide (room<tv)=true:=by rw [decide_eq_true_eq];exact hfull
    rw [if_pos hfull] at hO;have hOh:=Hd hO;clear hO hfull;go_wp2_with fail
    refine (room23_r alg N mode base loc room _ hro.1 hro.2).mono ?_
    rintro e w1 ⟨rfl,hx⟩
    clear c_b1;replace hK:=hK.trans (Keep.of_ext hx hP.lt hP.le);replace b1:=b1.ext hx hP.lt;replace hP:=hP.ext hx;have c_b1:=b1.cells;clear hx;go_wp2_with fail
    clear c_b1
    refine rstepA (notes_wr _ _) hOh.out hK (write_r B p o2 S2 _ _ _ hP) ?_
    clear hOh hK hP;intro u o3 S3 wn htm hlf hdn hnn hP hk hK hO;replace hta:=htm hta;replace hD:=Nat.lt_of_le_of_lt hlf hD
    replace hn0:S3.nts.length<=100001:=by omega
    replace b1:=b1.keep hk;clear hk htm hnn hlf;clear hdn;have hOh:=Hd hO;clear hO;go_wp2_with fail
    refine rstepN (notes_nt 4) hOh.out hK (note_r B p o3 S3 4 _ hP (by unfold maxAns;omega)) ?_
    clear hOh hK hP;intro u o7 S7 w7 _ _ _ hP _ hK hO
    have hf:R (.returned (encI 11)) w7:=hO.ret hP hK
    clear hO hP hK;go_wp2_with fail
    first | exact hf | (go_ret;exact hf)
  · have df:decide (room<tv)=false:=by rw [decide_eq_false_iff_not];exact hfull
    rw [if_neg hfull] at hO;have hOh:=Hd hO;clear hO hfull;go_wp2_with fail
    refine (room23_r alg N mode base loc room _ hro.1 hro.2).mono ?_
    rintro e w1 ⟨rfl,hx⟩
    clear c_b1;replace hK:=hK.trans (Keep.of_ext hx hP.lt hP.le);replace b1:=b1.ext hx hP.lt;replace hP:=hP.ext hx;have c_b1:=b1.cells;clear hx;go_wp2_with fail
    clear c_b1
    refine rstepA (notes_wr _ _) hOh.out hK (write_r B p o2 S2 _ _ _ hP) ?_
    clear hOh hK hP;intro u o3 S3 wn htm hlf hdn hnn hP hk hK hO;replace hta:=htm hta;replace hD:=Nat.lt_of_le_of_lt hlf hD
    replace hn0:S3.nts.length<=100001:=by omega
    replace b1:=b1.keep hk;clear hk htm hnn hlf;clear hdn;have hOh:=Hd hO;have c_b1:=b1.cells;clear hO;go_wp2_with fail
    clear c_b1
    refine rstepA (notes_st _ _) hOh.out hK (set_r B p o3 S3 _ _ _ hP) ?_
    clear hOh hK hP;intro u o4 S4 wn htm hlf hdn hnn hP hk hK hO;replace hta:=htm hta;replace hD:=Nat.lt_of_le_of_lt hlf hD
    replace hn0:S4.nts.length<=100001:=by omega
    replace b1:=b1.keep hk;clear hk htm hnn hlf;clear hdn;have hOh:=Hd hO;have c_b1:=b1.cells;clear hO;go_wp2_with fail
    clear c_b1
    refine rstepA (notes_wr _ _) hOh.out hK (write_r B p o4 S4 _ _ _ hP) ?_
    clear hOh hK hP;intro u o5 S5 wn htm hlf hdn hnn hP hk hK hO;replace hta:=htm hta;replace hD:=Nat.lt_of_le_of_lt hlf hD
    replace hn0:S5.nts.length<=100001:=by omega
    replace b1:=b1.keep hk;clear hk htm hnn hlf;clear hdn;have hOh:=Hd hO;have c_b1:=b1.cells;clear hO;go_wp2_with fail
    clear c_b1
    refine rstepA (notes_nt 2) hOh.out hK (note_r B p o5 S5 2 _ hP (by unfold maxAns;omega)) ?_
    clear hOh hK hP;intro u o6 S6 wn htm hlf hdn hnn hP hk hK hO;replace hta:=htm hta;replace hD:=Nat.lt_of_le_of_lt hlf hD
    replace hn0:S6.nts.length<=100002:=by omega
    replace b1:=b1.keep hk;clear hk htm hnn hlf;clear hdn
    obtain⟨G,hG⟩:∃ G:Unit->Prog Int,G=fun _=>(nt 3).bind fun _=>.ret 0:=⟨_,rfl⟩
    rw [<- hG,Int.toNat_natCast] at hO
    have hOh:=Hd hO
    have hGh:=Hd hG
    clear hO hG;go_wp2_with fail
    go_loopw [11] (fun i wr=>∃ (j:Nat) (o6:Bool) (S6:TS),i=V Z j/\j<=N/\RAt B wr p o6 S6/\KeepR B p w wr/\HeldR wr p z (.cells #[V Z alg,V Z N,V Z mode,V Z base,V Z loc,V Z room] 23)/\S6.left<D/\TameA S6/\S6.nts.length<=100002/\Hid (ROwes R encI B p w ((forP (fun j _=>bakFor D base N m tv j) (ranksFrom m (N-j) j) ()).bind G) o6 S6)) (fun i _=>N-(intOf i).toNat)
    case atStart=>exact⟨0,o6,S6,rfl,by omega,hP,hK,b1,hD,hta,hn0,hOh⟩
    case round =>
     clear hP hK b1 hD hta hn0 hOh
     obtain⟨j,o6,S6,rfl,hj,hP,hK,b1,hD,hta,hn0,hOh⟩:=hrel
     by_cases hjN:j<N
     · have dj:decide ((j:Int)<(N:Int))=true:=by rw [decide_eq_true_eq];omega
       obtain⟨g,hg⟩:∃ g,N-j=g+1:=⟨N-j-1,by omega⟩
       by_cases hjm:j=m
       · subst hjm
         have djm:((j:Int) != (j:Int))=false:=by simp
         replace hO:=hOh.out
         rw [hg,ranks_skip,show g=N-(j+1) from by omega] at hO
         have hf:=Hd hO
         clear hO hOh hg;go_wp2_with fail
         refine⟨⟨j+1,o6,S6,by go_num,by omega,hP,hK,b1,hD,hta,hn0,hf⟩,?_⟩
         simp [intOf];omega
       · have djm:((j:Int) != (m:Int))=true:=by rw [bne_iff_ne];omega
         replace hO:=hOh.out
         rw [hg,ranks_cons _ _ _ (by omega),forP_consB,show g=N-(j+1) from by omega] at hO
         have hOh2:=Hd hO
         have c_b1:=b1.cells;clear hO hOh hg;go_wp2_with fail
         clear c_b1
         refine rstepA (notes_bakFor _ _ _ _ _ _) hOh2.out hK (bakwait_r B p N D m j o6 S6 alg mode base loc room tv _ hP h1 h2 hjN hba hD) ?_
         clear hOh2 hK hP;intro u o7 S7 wn htm hlf hdn hnn hP hk hK hO;replace hta:=htm hta;replace hD:=Nat.lt_of_le_of_lt hlf hD
         replace hn0:S7.nts.length<=100002:=by omega
         replace b1:=b1.keep hk;clear hk htm hnn hdn hlf
         have hf:=Hd hO
         clear hO;go_wp2_with fail
         refine⟨⟨j+1,o7,S7,by go_num,by omega,hP,hK,b1,hD,hta,hn0,hf⟩,?_⟩
         simp [intOf];omega
     · obtain rfl:N=j:=by omega
       have dj:decide ((N:Int)<(N:Int))=false:=by simp
       replace hO:=hOh.out;rw [Nat.sub_self,ranks_zero,forP_nilB,hGh.out] at hO
       have hOh2:=Hd hO
       clear hO hOh;go_wp2_with fail
       refine rstepN (notes_nt 3) hOh2.out hK (note_r B p o6 S6 3 _ hP (by unfold maxAns;omega)) ?_
       clear hOh2 hK hP;intro u o7 S7 w7 _ _ _ hP _ hK hO
       have hf:R (.returned (encI 0)) w7:=hO.ret hP hK
       clear hO hP hK;go_wp2_with fail
       first | exact hf | (go_ret;exact hf)
set_option maxRecDepth 100000 in
theorem bakrel_r (B p N:Nat)(o:Bool)(S:TS)(alg mode base loc room:Int)(m:Nat)(w:World)(h:RAt B w p o S)(h1:1<=N)(h2:N<=8)(hm1:m<N)(hba:0<=base/\base<=32768)(hn0:S.nts.length<=100000) :
  Calls Tryz.prog 115 #[.pointer (some ⟨p,0,none⟩),.agg #[V Z alg,V Z N,V Z mode,V Z base,V Z loc,V Z room],V Z m] w (RPost encU B p w (bakR base N loc m) o S):=by
 generalize hR:RPost encU B p w (bakR base N loc m) o S=R
 have hO:ROwes R encU B p w (bakR base N loc m) o S:=hR▸rowes _ _ _ _ _ _ _
 clear hR
 obtain⟨b1,hK,hP⟩:=h.entry (.cells #[V Z alg,V Z N,V Z mode,V Z base,V Z loc,V Z room] 23)
 have c_b1:=b1.cells;clear h;unfold bakR at hO
 have hw1:=IntWalk.i64_in (base+(N:Int)) (by omega)
 have hw3:=IntWalk.i64_in (base+(N:Int)+(m:Int)) (by omega)
 have hOh:=Hd hO;clear hO
 go_enter Tryz.func115,Tryz.ntmps115
 go_wp2_with fail
 clear c_b1
 generalize w.heap.size=z at *
 refine rstepN (notes_nt 5) hOh.out hK (note_r B p o S 5 _ hP (by unfold maxAns;omega)) ?_
 clear hOh hK hP;intro u o1 S1 w1 _ _ _ hP hk hK hO;replace b1:=b1.keep hk;clear hk;go_wp2_with fail
 replace hP:=hP.drew;replace hK:=hK.drew;replace b1:=b1.drew;have c_b1:=b1.cells
 go_region_held2 (fun w'=>∀ i:Nat,w'.cell? ⟨z,i,none⟩=(#[V Z alg,V Z N,V Z mode,V Z base,V Z loc,V Z room]:Array Value)[i]?) (first | with_reducible exact c_b1 | go_keep)
  (first
    | (go_at_call 106
       refine (n23_r alg mode base loc room N _ h1 h2).mono ?_
       rintro e w2 ⟨rfl,hx⟩
       clear c_b1;replace hK:=hK.trans (Keep.of_ext hx hP.lt hP.le);replace b1:=b1.ext hx hP.lt;have c_b1:=b1.cells;replace hP:=hP.ext hx
       clear hx)
    | (go_at_call 135
       refine rstepN (notes_wr _ _) hO hK (write_r B p o1 S1 _ _ _ hP) ?_
       clear hO hK hP c_b1;intro u o2 S2 w2 _ _ _ hP hk hK hO;replace b1:=b1.keep hk;have c_b1:=b1.cells
       clear hk))
 have hOh:=Hd hO;clear hO;go_wp2_with fail
 clear c_b1
 refine rlast hOh.out hK (set_r B p o2 S2 _ _ _ hP) ?_
 clear hOh hK hP;intro u o3 S3 w3 hP hk hK hO
 have hf:R (.returned (encU ())) w3:=hO.ret hP hK
 clear hO hP hK hk b1;go_wp2_with fail
 first | exact hf | (refine bodyPost_ret (results_none rfl _ _ _) rfl ?_;exact hf)
set_option maxRecDepth 100000 in
set_option maxHeartbeats 1000000 in
theorem zero24_r (B p D:Nat)(o:Bool)(S:TS)(c:Int)(w:World)(h:RAt B w p o S)(hD:S.left<D) :
  Calls Tryz.prog 200 #[.pointer (some ⟨p,0,none⟩),V Z c] w (RPost encU B p w (zeroC c D) o S):=by
 generalize hR:RPost encU B p w (zeroC c D) o S=R
 have hO:ROwes R encU B p w (zeroC c D) o S:=hR▸rowes _ _ _ _ _ _ _
 clear hR
 have hK:=Keep.refl [3,4,5] B p w
 have hP:=h;clear h;have hOh:=Hd hO;clear hO
 go_enter Tryz.func200,Tryz.ntmps200
 go_wp2_with fail
 go_loopw [] (fun wr=>∃ (n:Nat) (o2:Bool) (S2:TS),RAt B wr p o2 S2/\KeepR B p w wr/\Hid (ROwes R encU B p w (zeroC c n) o2 S2)/\(o2=false->S2.left<n)) (fun wr=>leftR wr p)
 case atStart=>exact⟨D,o,S,hP,hK,hOh,fun _=>hD⟩
 case round =>
  clear hP hK hOh hD
  obtain⟨n,o2,S2,hP,hK,hOh,hn⟩:=hrel
  have hlw:=Hd hP.leftR
  obtain⟨_,_,_,_,_,hcc⟩:=hP.cell
  cases o2 with
  | true =>
    have hf:R (.returned (encU ())) wr:=hOh.out.over () hP hK
    clear hOh hK hn hlw;go_wp2_with fail
    first | exact hf | (refine bodyPost_ret (results_none rfl _ _ _) rfl ?_;exact hf)
  | false =>
    have hn1:=hn rfl
    clear hn
    cases n with
    | zero=>omega
    | succ n =>
      replace hO:=hOh.out
      rw [<- Prog.bind_id (zeroC _ _),zeroC_bind] at hO
      clear hOh;have hOh:=Hd hO;clear hO;go_wp2_with fail
      clear hcc
      refine rstepA (notes_rd _) hOh.out hK (read_r B p false S2 _ _ hP) ?_
      clear hOh hK hP;intro x o3 S3 w3 _ hlf hdn _ hP hk hK hO;clear hk
      have hn3:o3=false->S3.left<n:=fun ho=>by have:=(hdn ho).2.2 (asks_rd _);omega
      have hlw2:=Hd hP.leftR
      have hdec:o3=false->S3.left<S2.left:=fun ho=>(hdn ho).2.2 (asks_rd _)
      clear hdn;rw [Prog.bind_id] at hO
      by_cases hx:x=0
      · have dx:(x==0)=true:=by simpa using hx
        rw [if_pos hx] at hO
        have hf:R (.returned (encU ())) w3:=hO.ret hP hK
        clear hO hP hK hx hlw hlw2;go_wp2_with fail
        first | exact hf | (refine bodyPost_ret (results_none rfl _ _ _) rfl ?_;exact hf)
      · have dx:(x==0)=false:=by simpa using hx
        rw [if_neg hx] at hO;have hOh:=Hd hO;clear hO hx;go_wp2_with fail
        refine⟨⟨n,o3,S3,hP,hK,hOh,hn3⟩,?_⟩
        rw [hlw.out,hlw2.out]
        cases o3 with
        | true=>simp;omega
        | false=>have:=hdec rfl;simp;omega
set_option maxRecDepth 100000 in
set_option maxHeartbeats 4000000 in
theorem oneacq_r (B p N D:Nat)(o:Bool)(S:TS)(alg mode base loc room:Int)(m:Nat)(w:World)(h:RAt B w p o S)(h1:1<=N)(h2:N<=8)(hm1:m<N)(hba:0<=base/\base<=32768)
  (hD:S.left<D)(hn0:S.nts.length<=100000) :
  Calls Tryz.prog 109 #[.pointer (some ⟨p,0,none⟩),.agg #[V Z alg,V Z N,V Z mode,V Z base,V Z loc,V Z room],V Z m] w (RPost encI B p w (oneA D base N m) o S):=by
 generalize hR:RPost encI B p w (oneA D base N m) o S=R
 have hO:ROwes R encI B p w (oneA D base N m) o S:=hR▸rowes _ _ _ _ _ _ _
 clear hR
 obtain⟨b1,hK,hP⟩:=h.entry (.cells #[V Z alg,V Z N,V Z mode,V Z base,V Z loc,V Z room] 23)
 have c_b1:=b1.cells;clear h;unfold oneA at hO
 have hw2:=IntWalk.i64_in (base+(m:Int)) (by omega)
 obtain⟨F,hF⟩:∃ F:Unit->Prog Int,F=fun _=>(nt 2).bind fun _=>(forP (fun j _=>zeroC (base+j) D) (ranksFrom (-1) (N-1-m) ((m:Int)+1)) ()).bind fun _=>(nt 3).bind fun _=>.ret 0:=⟨_,rfl⟩
 rw [<- hF] at hO
 have hFh:=Hd hF
 have hOh:=Hd hO;clear hO hF
 go_enter Tryz.func109,Tryz.ntmps109
 go_wp2_with fail
 clear c_b1
 generalize w.heap.size=z at *
 refine rstepA (notes_nt 1) hOh.out hK (note_r B p o S 1 _ hP (by unfold maxAns;omega)) ?_
 clear hOh hK hP;intro u o1 S1 wn htm hlf hdn hnn hP hk hK hO;replace hD:=Nat.lt_of_le_of_lt hlf hD
 replace hn0:S1.nts.length<=100001:=by omega
 replace b1:=b1.keep hk;clear hk htm hnn;clear hdn hlf;have hOh:=Hd hO;clear hO;have c_b1:=b1.cells;go_wp2_with fail
 clear c_b1
 refine rstepA (notes_wr _ _) hOh.out hK (write_r B p o1 S1 _ _ _ hP) ?_
 clear hOh hK hP;intro u o2 S2 wn htm hlf hdn hnn hP hk hK hO;replace hD:=Nat.lt_of_le_of_lt hlf hD
 replace hn0:S2.nts.length<=100001:=by omega
 replace b1:=b1.keep hk;clear hk htm hnn;clear hdn hlf;have hOh:=Hd hO;clear hO
 go_upto_block 0 with fail
 go_cut [] (fun wx=>∃ (o2:Bool) (S2:TS),RAt B wx p o2 S2/\KeepR B p w wx/\HeldR wx p z (.cells #[V Z alg,V Z N,V Z mode,V Z base,V Z loc,V Z room] 23)/\S2.left<D/\S2.nts.length<=100001/\Hid (ROwes R encI B p w (F ()) o2 S2))
 case first =>
  go_wp2_with fail
  go_loopw [7] (fun i wr=>∃ (j k:Nat) (o2:Bool) (S2:TS),i=V Z j/\j<=m/\RAt B wr p o2 S2/\KeepR B p w wr/\HeldR wr p z (.cells #[V Z alg,V Z N,V Z mode,V Z base,V Z loc,V Z room] 23)/\S2.left<D/\S2.nts.length<=100001/\(o2=false->S2.left<k)/\Hid (ROwes R encI B p w ((oneUp D base m k j).bind F) o2 S2)) (fun _ wr=>leftR wr p)
  case atStart=>exact⟨0,D,o2,S2,rfl,by omega,hP,hK,b1,hD,hn0,fun _=>hD,hOh⟩
  case round =>
   clear hP hK b1 hD hn0 hOh
   obtain⟨j,k,o2,S2,rfl,hj,hP,hK,b1,hD,hn0,hkk,hOh⟩:=hrel
   have hlw:=Hd hP.leftR
   obtain⟨_,_,_,_,_,hcc⟩:=hP.cell
   by_cases hjm:j<m
   · have dj:decide (j<m)=true:=by rw [decide_eq_true_eq];exact hjm
     have hw4:=IntWalk.i64_in (base+(j:Int)) (by omega)
     cases o2 with
     | true =>
       have hf:=Hd (hOh.out.any (F ()))
       clear hOh hkk;go_wp2_with fail
       go_meet
       exact⟨true,S2,hP,hK,b1,hD,hn0,hf⟩
     | false =>
       have hk1:=hkk rfl
       clear hkk
       cases k with
       | zero=>omega
       | succ k =>
         replace hO:=hOh.out;rw [oneUp_lt D base m k j hjm] at hO;clear hOh;have hOh:=Hd hO;clear hO;have c_b1:=b1.cells;go_wp2_with fail
         clear c_b1 hcc
         refine rstepA (notes_rd _) hOh.out hK (read_r B p false S2 _ _ hP) ?_
         clear hOh hK hP;intro x o3 S3 wn htm hlf hdn hnn hP hk hK hO;replace hD:=Nat.lt_of_le_of_lt hlf hD
         replace hn0:S3.nts.length<=100001:=by omega
         replace b1:=b1.keep hk;clear hk htm hnn
         have hk3:o3=false->S3.left<k:=fun ho=>by have:=(hdn ho).2.2 (asks_rd _);omega
         have hdec:o3=false->S3.left<S2.left:=fun ho=>(hdn ho).2.2 (asks_rd _)
         clear hdn
         by_cases hx:x=0
         · have dx:(x==0)=true:=by simpa using hx
           rw [if_pos hx] at hO;have hOh:=Hd hO
           have hlw2:=Hd hP.leftR
           clear hO hx;go_wp2_with fail
           refine⟨⟨j+1,k,o3,S3,by go_num,by omega,hP,hK,b1,hD,hn0,hk3,hOh⟩,?_⟩
           rw [hlw.out,hlw2.out]
           cases o3 with
           | true=>simp;omega
           | false=>have:=hdec rfl;simp;omega
         · have dx:(x==0)=false:=by simpa using hx
           rw [if_neg hx] at hO;have hOh:=Hd hO;have c_b1:=b1.cells;clear hO hx;go_wp2_with fail
           clear c_b1;have hlf3:=hlf;clear hlf
           refine rstepA (notes_wr _ _) hOh.out hK (write_r B p o3 S3 _ _ _ hP) ?_
           clear hOh hK hP;intro u o4 S4 wn htm hlf hdn hnn hP hk hK hO;replace hD:=Nat.lt_of_le_of_lt hlf hD
           replace hn0:S4.nts.length<=100001:=by omega
           replace b1:=b1.keep hk;clear hk htm hnn
           have ho43:o4=false->o3=false:=fun ho=>(hdn ho).1
           have hlf4:=hlf;clear hdn hlf;have hOh:=Hd hO;have c_b1:=b1.cells;clear hO;go_wp2_with fail
           clear c_b1
           refine rstepA (notes_zeroC _ _) hOh.out hK (zero24_r B p D o4 S4 _ _ hP hD) ?_
           clear hOh hK hP;intro u o5 S5 wn htm hlf hdn hnn hP hk hK hO;replace hD:=Nat.lt_of_le_of_lt hlf hD
           replace hn0:S5.nts.length<=100001:=by omega
           replace b1:=b1.keep hk;clear hk htm hnn
           have ho54:o5=false->o4=false:=fun ho=>(hdn ho).1
           have hlf5:=hlf;clear hdn hlf;have hOh:=Hd hO;have c_b1:=b1.cells;clear hO;go_wp2_with fail
           clear c_b1
           refine rstepA (notes_wr _ _) hOh.out hK (write_r B p o5 S5 _ _ _ hP) ?_
           clear hOh hK hP;intro u o6 S6 wn htm hlf hdn hnn hP hk hK hO;replace hD:=Nat.lt_of_le_of_lt hlf hD
           replace hn0:S6.nts.length<=100001:=by omega
           replace b1:=b1.keep hk;clear hk htm hnn
           have ho65:o6=false->o5=false:=fun ho=>(hdn ho).1
           have hk6:o6=false->S6.left<k/\S6.left<S2.left:=fun ho=>by
            have q1:=hk3 (ho43 (ho54 (ho65 ho)))
            have q2:=hdec (ho43 (ho54 (ho65 ho)))
            omega
           have hl6:S6.left<=S2.left:=by omega
           clear hdn hlf hk3 hdec ho43 ho54 ho65 hlf3 hlf4 hlf5
           have hlw2:=Hd hP.leftR
           have hOh:=Hd hO;clear hO;go_wp2_with fail
           refine⟨⟨0,k,o6,S6,rfl,by omega,hP,hK,b1,hD,hn0,fun ho=>(hk6 ho).1,hOh⟩,?_⟩
           rw [hlw.out,hlw2.out]
           cases o6 with
           | true=>simp;omega
           | false=>have:=hk6 rfl;simp;omega
   · obtain rfl:m=j:=by omega
     have dj:decide (m<m)=false:=by simp
     replace hO:=hOh.out;rw [oneUp_ge D base m k] at hO
     have hf:=Hd hO
     clear hO hOh hkk hcc;go_wp2_with fail
     go_meet
     exact⟨o2,S2,hP,hK,b1,hD,hn0,hf⟩
 case rest =>
  clear hP hK b1 hD hn0 hOh
  obtain⟨o2,S2,hP,hK,b1,hD,hn0,hOh⟩:=hcut
  replace hO:=hOh.out;rw [hFh.out] at hO;clear hOh;have hOh:=Hd hO;clear hO;go_wp2_with fail
  refine rstepA (notes_nt 2) hOh.out hK (note_r B p o2 S2 2 _ hP (by unfold maxAns;omega)) ?_
  clear hOh hK hP;intro u o3 S3 wn htm hlf hdn hnn hP hk hK hO;replace hD:=Nat.lt_of_le_of_lt hlf hD
  replace hn0:S3.nts.length<=100002:=by omega
  replace b1:=b1.keep hk;clear hk htm hnn;clear hdn hlf
  obtain⟨G,hG⟩:∃ G:Unit->Prog Int,G=fun _=>(nt 3).bind fun _=>.ret 0:=⟨_,rfl⟩
  rw [<- hG] at hO
  have hOh:=Hd hO
  have hGh:=Hd hG
  clear hO hG
  have hl0:Hid (∀ L:Nat,L=N-1-m->m+1+L=N):=Hd (fun L h=>by omega)
  obtain⟨L,hL⟩:∃ L,L=N-1-m:=⟨_,rfl⟩
  have hLN:=hl0.out L hL
  rw [<- hL] at hOh
  clear hl0 hL
  have hLh:=Hd hLN
  clear hLN
  have hw3:=IntWalk.i64_in ((m:Int)+1) (by omega)
  go_wp2_with fail
  go_loopw [8] (fun i wr=>∃ (q:Nat) (o2:Bool) (S2:TS),i=V Z ((m:Int)+1+q)/\q<=L/\RAt B wr p o2 S2/\KeepR B p w wr/\HeldR wr p z (.cells #[V Z alg,V Z N,V Z mode,V Z base,V Z loc,V Z room] 23)/\S2.left<D/\S2.nts.length<=100002/\Hid (ROwes R encI B p w ((forP (fun j _=>zeroC (base+j) D) (ranksFrom (-1) (L-q) ((m:Int)+1+q)) ()).bind G) o2 S2)) (fun i _=>N-(intOf i).toNat)
  case atStart=>exact⟨0,o3,S3,by simp,by omega,hP,hK,b1,hD,hn0,by simpa using hOh⟩
  case round =>
   clear hP hK b1 hD hn0 hOh
   obtain⟨q,o2,S2,rfl,hq,hP,hK,b1,hD,hn0,hOh⟩:=hrel
   have c_b1:=b1.cells;go_wp2_with fail
   refine (n23_r alg mode base loc room N _ h1 h2).mono ?_
   rintro e w1 ⟨rfl,hx⟩
   clear c_b1;replace hK:=hK.trans (Keep.of_ext hx hP.lt hP.le);replace b1:=b1.ext hx hP.lt;replace hP:=hP.ext hx;clear hx;have c_b1:=b1.cells
   by_cases hqL:q<L
   · have dq:decide ((m:Int)+1+(q:Int)<(N:Int))=true:=by rw [decide_eq_true_eq];have:=hLh.out;omega
     have hw5:=IntWalk.i64_in (base+((m:Int)+1+(q:Int))) (by have:=hLh.out;omega)
     have hw6:=IntWalk.i64_in ((m:Int)+1+(q:Int)+1) (by have:=hLh.out;omega)
     obtain⟨g,hg⟩:∃ g,L-q=g+1:=⟨L-q-1,by omega⟩
     replace hO:=hOh.out
     rw [hg,ranks_cons _ _ _ (by omega),forP_consB,show g=L-(q+1) from by omega] at hO
     clear hOh;have hOh:=Hd hO;clear hO hg;go_wp2_with fail
     clear c_b1
     refine rstepA (notes_zeroC _ _) hOh.out hK (zero24_r B p D o2 S2 _ _ hP hD) ?_
     clear hOh hK hP;intro u o5 S5 wn htm hlf hdn hnn hP hk hK hO;replace hD:=Nat.lt_of_le_of_lt hlf hD
     replace hn0:S5.nts.length<=100002:=by omega
     replace b1:=b1.keep hk;clear hk htm hnn;clear hdn hlf
     have hf:=Hd hO
     clear hO;go_wp2_with fail
     refine⟨⟨q+1,o5,S5,by go_num,by omega,hP,hK,b1,hD,hn0,?_⟩,?_⟩
     · rw [show (m:Int)+1+((q+1:Nat):Int)=(m:Int)+1+q+1 from by omega]
       exact hf
     · simp [intOf];have:=hLh.out;omega
   · obtain rfl:q=L:=by omega
     have dq:decide ((m:Int)+1+(q:Int)<(N:Int))=false:=by rw [decide_eq_false_iff_not];have:=hLh.out;omega
     replace hO:=hOh.out;rw [Nat.sub_self,ranks_zero,forP_nilB,hGh.out] at hO
     have hOh2:=Hd hO
     clear hO hOh c_b1;go_wp2_with fail
     refine rstepN (notes_nt 3) hOh2.out hK (note_r B p o2 S2 3 _ hP (by unfold maxAns;omega)) ?_
     clear hOh2 hK hP;intro u o7 S7 w7 _ _ _ hP _ hK hO
     have hf:R (.returned (encI 0)) w7:=hO.ret hP hK
     clear hO hP hK;go_wp2_with fail
     first | exact hf | (go_ret;exact hf)
theorem onerel_r (B p N:Nat)(o:Bool)(S:TS)(alg mode base loc room:Int)(m:Nat)(w:World)(h:RAt B w p o S)(h2:N<=8)(hm1:m<N)(hba:0<=base/\base<=32768)(hn0:S.nts.length<=100000) :
  Calls Tryz.prog 116 #[.pointer (some ⟨p,0,none⟩),.agg #[V Z alg,V Z N,V Z mode,V Z base,V Z loc,V Z room],V Z m] w (RPost encU B p w (oneR base m) o S):=by
 generalize hR:RPost encU B p w (oneR base m) o S=R
 have hO:ROwes R encU B p w (oneR base m) o S:=hR▸rowes _ _ _ _ _ _ _
 clear hR
 obtain⟨b1,hK,hP⟩:=h.entry (.cells #[V Z alg,V Z N,V Z mode,V Z base,V Z loc,V Z room] 23)
 have c_b1:=b1.cells;clear h;unfold oneR at hO
 have hw2:=IntWalk.i64_in (base+(m:Int)) (by omega)
 have hOh:=Hd hO;clear hO
 go_enter Tryz.func116,Tryz.ntmps116
 go_wp2_with fail
 clear c_b1
 generalize w.heap.size=z at *
 refine rstepN (notes_nt 5) hOh.out hK (note_r B p o S 5 _ hP (by unfold maxAns;omega)) ?_
 clear hOh hK hP;intro u o1 S1 w1 _ _ _ hP hk hK hO;replace b1:=b1.keep hk;clear hk;have c_b1:=b1.cells;have hOh:=Hd hO;clear hO;go_wp2_with fail
 clear c_b1
 refine rlast hOh.out hK (write_r B p o1 S1 _ _ _ hP) ?_
 clear hOh hK hP;intro u o3 S3 w3 hP hk hK hO
 have hf:R (.returned (encU ())) w3:=hO.ret hP hK
 clear hO hP hK hk b1;go_wp2_with fail
 first | exact hf | (refine bodyPost_ret (results_none rfl _ _ _) rfl ?_;exact hf)
end Go.Proofs.YtbaajjkopdjbgaaGreat
