/-
  MenuJustSaid: part 1 of its proof.
-/
import Derived.Test.YtchahoiainbcaaaGreatDoorJMenuJustSaid0
import Derived.Laws.AppendOwnNone
import Derived.Laws.MakeOwn
import Derived.Laws.FloatArith
import Derived.Laws.ComplexArith
import Derived.Shelf.Strings.Builder1
import Derived.Shelf.Strings.Builder2
import Derived.Shelf.Strings.OnBuilder
import Derived.Shelf.Strings.BuilderF
import Derived.Shelf.Strconv.Itoa0
import Derived.Shelf.Strconv.Itoa1
import Derived.Shelf.LaysM
import Derived.Shelf.Strconv.Itoa2
import Derived.Shelf.Strconv.Itoa3
import Derived.Shelf.Slices.Reverse
import Derived.Shelf.Slices.Cells
import Derived.Ground.SlgnProg
import Derived.Shelf.SlicesE.Reverse
import Derived.Test.YtchahoiainbcaaaGreatDoorProg
import Derived.Lib.LaidTab
import Derived.ScopeJumps
import Derived.WalkMore
import Derived.Deep.DeepCutAuto
import Derived.Maps.AppendAt
import Derived.Defers
import Derived.Recover
import Derived.LaidEqlPtr
import Derived.Deep.RegionHeld3
import Derived.Deep.QuietTactic
import Derived.BigQuiet
import Derived.ProofKit
import Derived.OpenShut
import Derived.Deep.DeepHandedRow
import Derived.WideKeyArgs
import Derived.Carry
import Derived.ChangeSame
import Derived.Lib.SmallJoins
import Derived.Test.YtchahoiainbcaaaGreatDoorRows
import Derived.Laws.EntriesVeiled
import Derived.Deep.CutBlock
namespace Go.Proofs.YtchahoiainbcaaaGreatDoor
open Go.RowKit Kv
@[go_sem] theorem build_regw (a b c d e:Int) (w:World):(Instr.build 81 #[(0,.int .i64 a),(3,.int .i64 b),(4,.int .i64 c),(5,.int .i64 d),(6,.int .i64 e)]).run Tryz.prog w=.ok (.agg #[.int .i64 a,.int .i64 0,.int .i64 0,.int .i64 b,.int .i64 c,.int .i64 d,.int .i64 e]) w:=run_build w 81 _ _ (by kernel_rfl)
theorem topM_max (t:Int):max 1 (min t 255)=topM t:=by
 unfold topM clamp within
 split <;> omega
theorem want_p (q:Want)(n mode:Int)(w:World)(hm:mode=1∨mode=2)(hq:-1<=q.wr):Calls Tryz.prog 111 #[.agg #[.int .i64 q.wr,.int .i64 q.top],.int .i64 n,.int .i64 mode] w fun e w'=>e=.returned (encR (regOf n mode 0 0 q))/\Ext w w':=by
 obtain⟨wr,top⟩:=q
 unfold encR regOf
 simp only at hq ⊢
 have ht:=topM_max top
 rcases hm with rfl | rfl
 · rw [show kindM 1 wr=1 from by unfold kindM;rw [if_neg (by omega)]]
   clear hq
   go_enter Tryz.func111,Tryz.ntmps111
   go_wp2_with fail
   refine bodyPost_ret (v:=.agg #[.int .i64 1,.int .i64 0,.int .i64 0,.int .i64 n,.int .i64 wr,.int .i64 (-1),.int .i64 (topM top)]) (by simp [results,Tryz.results111,go_sem]) rfl ⟨rfl,?_⟩
   exact (((Ext.refl _).alloc _).alloc _).alloc _
 · by_cases h:wr=-1
   · rw [show kindM 2 wr=7 from by unfold kindM;rw [if_pos rfl,if_neg (by omega)]]
     have d:(wr==-1)=true:=by rw [beq_iff_eq];exact h
     clear hq h
     go_enter Tryz.func111,Tryz.ntmps111
     go_wp2_with fail
     refine bodyPost_ret (v:=.agg #[.int .i64 7,.int .i64 0,.int .i64 0,.int .i64 n,.int .i64 wr,.int .i64 (-1),.int .i64 (topM top)]) (by simp [results,Tryz.results111,go_sem]) rfl ⟨rfl,?_⟩
     exact (((Ext.refl _).alloc _).alloc _).alloc _
   · rw [show kindM 2 wr=6 from by unfold kindM;rw [if_pos rfl,if_pos (by omega)]]
     have d:(wr==-1)=false:=by rw [beq_eq_false_iff_ne];exact h
     clear hq h
     go_enter Tryz.func111,Tryz.ntmps111
     go_wp2_with fail
     refine bodyPost_ret (v:=.agg #[.int .i64 6,.int .i64 0,.int .i64 0,.int .i64 n,.int .i64 wr,.int .i64 (-1),.int .i64 (topM top)]) (by simp [results,Tryz.results111,go_sem]) rfl ⟨rfl,?_⟩
     exact (((Ext.refl _).alloc _).alloc _).alloc _
set_option maxRecDepth 100000 in
set_option maxHeartbeats 2000000 in
theorem lay_p (va:Value)(l:List Want)(n mode base loc:Int)(w:World)(h:WantsAt w va l)(hlen:l.length<=1000)(hC:∀ (r:Reg) w,Drawn r->r.n=n->Calls Tryz.prog 70 #[encR r] w fun e w'=>e=.returned (.int .i64 (cellsM r))/\Ext w w') :
  Calls Tryz.prog 74 #[va,.int .i64 n,.int .i64 mode,.int .i64 base,.int .i64 loc] w (LayPost w.heap.size w (layM l n mode base loc)):=by
 obtain⟨A,c,rfl,q1,q2,hv⟩:=h
 by_cases h0:1<=mode/\mode<=2/\1<=n/\n<=8/\0<=base/\0<=loc
 · have hmd:mode=1∨mode=2:=by omega
   rcases hmd with rfl | rfl
   · have hgood:=Lib.hid (fun hq=>argsM_good (l:=l) h0 hq)
     have hbad:=Lib.hid (fun (i:Nat) q hq hx=>argsM_bad (l:=l) (n:=n) (mode:=1) (b:=base) (c:=loc) (i:=i) (q:=q) hq hx)
     obtain⟨-,-,n1,n2,b1,l1⟩:=h0
     have d3:decide (n<1)=false:=by rw [decide_eq_false_iff_not];omega
     have d4:decide (8<n)=false:=by rw [decide_eq_false_iff_not];omega
     have d5:decide (base<0)=false:=by rw [decide_eq_false_iff_not];omega
     have d6:decide (loc<0)=false:=by rw [decide_eq_false_iff_not];omega
     go_enter Tryz.func74,Tryz.ntmps74
     go_wp2_with fail
     go_loopw [40] (fun i wr=>∃ j:Nat,i=.int .i64 j/\j<=l.length/\Hid (∀ (k:Nat) q,k<j->l[k]?=some q->-1<=q.wr/\q.wr<n)/\Ext w wr) (fun i _=>l.length-(intOf i).toNat)
     case atStart=>exact⟨0,rfl,by omega,fun k q hk=>by omega,Ext.refl _⟩
     case round =>
      obtain⟨j,rfl,hj,hs,hE⟩:=hrel
      by_cases hl:j<l.length
      · obtain⟨q,hq⟩:∃ q,l[j]?=some q:=⟨_,List.getElem?_eq_getElem hl⟩
        obtain⟨b,rfl,hb,e1,e2⟩:=want_at (hv.ext hE) hq
        have hE2:=hE.alloc (.cells #[.int .i64 q.wr,.int .i64 q.top] 85)
        by_cases f1:q.wr < -1
        · have d7:decide (q.wr < -1)=true:=by simpa using f1
          have hf:=Lib.hid (hbad.out j q hq (by omega))
          clear hq hgood hbad hs
          go_wp2_with fail
          rw [hf.out]
          refine bodyPost_ret (v:=.tuple #[.slice none 0 0,.int .i64 1]) (by simp [results,Tryz.results74,go_sem]) rfl ?_
          exact⟨hE2,1,by decide,rfl⟩
        · have d7:decide (q.wr < -1)=false:=by rw [decide_eq_false_iff_not];omega
          by_cases f2:n<=q.wr
          · have d8:decide (n<=q.wr)=true:=by simpa using f2
            have hf:=Lib.hid (hbad.out j q hq (by omega))
            clear hq hgood hbad hs
            go_wp2_with fail
            rw [hf.out]
            refine bodyPost_ret (v:=.tuple #[.slice none 0 0,.int .i64 1]) (by simp [results,Tryz.results74,go_sem]) rfl ?_
            exact⟨hE2,1,by decide,rfl⟩
          · have d8:decide (n<=q.wr)=false:=by rw [decide_eq_false_iff_not];omega
            have hs2:Hid (∀ (k:Nat) q,k<j+1->l[k]?=some q->-1<=q.wr/\q.wr<n):=Lib.hid fun k q' hk hq'=>by
             by_cases e:k=j
             · subst e
               rw [hq] at hq'
               obtain rfl:q=q':=by simpa using hq'
               omega
             · exact hs.out k q' (by omega) hq'
            have hE3:=Lib.hid hE2
            clear hq hs hgood hbad hE2
            go_wp2_with fail
            refine⟨⟨j+1,by go_num,by omega,hs2,hE3.out⟩,?_⟩
            simp [intOf];omega
      · have hlay:=Lib.hid (hgood.out fun k q hq=>hs.out k q (by have:=(List.getElem?_eq_some_iff.1 hq).1;omega) hq)
        have hwr:=Lib.hid (fun (k:Nat) (q:Want) (hq:l[k]?=some q)=>hs.out k q (by have:=(List.getElem?_eq_some_iff.1 hq).1;omega) hq)
        clear hgood hbad hs
        go_wp2_with fail
        have hE0:=Lib.hid hE
        clear hE
        go_loopw [3,4,14,56] (fun b' c' v i wr=>∃ (j:Nat) (bi ci:Int) (pre:List Reg),b'=.int .i64 bi/\c'=.int .i64 ci/\i=.int .i64 j/\j<=l.length/\pre.length=j/\0<=bi/\0<=ci/\Hid (layFrom n 1 l base loc=(layFrom n 1 (l.drop j) bi ci).map (pre++·))/\wr.ownsRow w.heap.size 81 7 v j (pre.flatMap regVals)/\Ext w wr) (fun _ _ _ i _=>l.length-(intOf i).toNat)
        case atStart=>exact⟨0,base,loc,[],rfl,rfl,rfl,by omega,rfl,b1,l1,by unfold Hid;simp,World.ownsRow_nil _ _ _ _,hE0.out⟩
        case round =>
         clear hE0
         obtain⟨j,bi,ci,pre,rfl,rfl,rfl,hj,hpl,hbi,hci,hM,hown,hE⟩:=hrel
         by_cases hl:j<l.length
         · obtain⟨q,hq⟩:∃ q,l[j]?=some q:=⟨_,List.getElem?_eq_getElem hl⟩
           obtain⟨b,rfl,hb,e1,e2⟩:=want_at (hv.ext hE) hq
           obtain⟨w1,w2⟩:=hwr.out j q hq
           have hdr:l.drop j=q :: l.drop (j+1):=by
            rw [List.drop_eq_getElem_cons hl]
            congr 1
            rw [List.getElem?_eq_getElem hl] at hq
            simpa using hq
           have hMh:=Lib.hid hM
           have hownh:=Lib.hid hown
           clear hM hown hq
           have hrk:regOf n 1 bi ci q=⟨kindM 1 q.wr,bi,ci,n,q.wr,-1,topM q.top⟩:=rfl
           have hWW:=fun W=>want_p q n 1 W (by omega) w1
           have hK:kindM 1 q.wr=1∨kindM 1 q.wr=6∨kindM 1 q.wr=7:=by unfold kindM;split <;> (try split) <;> simp
           have hK6:kindM 1 q.wr=6->0<=q.wr:=by unfold kindM;split <;> (try split) <;> omega
           have htm:=topM_bd q.top
           have hdn:Drawn ⟨kindM 1 q.wr,bi,ci,n,q.wr,-1,topM q.top⟩:=⟨hK,hbi,hci,⟨n1,n2⟩,⟨w1,w2⟩,hK6,rfl,htm⟩
           have hlf:=Lib.hid (show layFrom n 1 (l.drop j) bi ci=if fineM ⟨kindM 1 q.wr,bi,ci,n,q.wr,-1,topM q.top⟩ then (layFrom n 1 (l.drop (j+1)) (bi+cellsM ⟨kindM 1 q.wr,bi,ci,n,q.wr,-1,topM q.top⟩) (ci+localsM ⟨kindM 1 q.wr,bi,ci,n,q.wr,-1,topM q.top⟩)).map (⟨kindM 1 q.wr,bi,ci,n,q.wr,-1,topM q.top⟩ :: ·) else none from by rw [hdr,layFrom_cons,hrk])
           have hCC:=fun W=>hC ⟨kindM 1 q.wr,bi,ci,n,q.wr,-1,topM q.top⟩ W hdn rfl
           have hFF:=fun W=>fine_p ⟨kindM 1 q.wr,bi,ci,n,q.wr,-1,topM q.top⟩ W hdn hCC
           have hLL:=fun W=>locals_p ⟨kindM 1 q.wr,bi,ci,n,q.wr,-1,topM q.top⟩ W hK ⟨n1,n2⟩
           have hcn:=cells_nat ⟨kindM 1 q.wr,bi,ci,n,q.wr,-1,topM q.top⟩ ⟨n1,n2⟩
           have hfb:fineM ⟨kindM 1 q.wr,bi,ci,n,q.wr,-1,topM q.top⟩=true->bi<=32768/\ci<=32768:=by
            unfold fineM
            simp only [Bool.and_eq_true,decide_eq_true_eq]
            omega
           clear hdn hrk htm hdr hK hK6
           unfold encR regOf at hWW
           unfold encR at hFF hCC hLL
           simp only at hWW hFF hCC hLL
           generalize kindM 1 q.wr=kk at *
           generalize topM q.top=tp at *
           generalize cellsM _=C at *
           generalize localsM _=D at *
           generalize hfm:fineM _=F at *
           clear hfm
           go_wp2_with fail
           refine (hWW _).mono ?_
           rintro e w3 ⟨rfl,hx⟩
           clear hWW
           have g3:=Blk.new w3 (.cells #[.int .i64 kk,.int .i64 bi,.int .i64 ci,.int .i64 n,.int .i64 q.wr,.int .i64 (-1),.int .i64 tp] 81)
           have x3:Ext wr (w3.alloc (.cells #[.int .i64 kk,.int .i64 bi,.int .i64 ci,.int .i64 n,.int .i64 q.wr,.int .i64 (-1),.int .i64 tp] 81)):=(((Ext.refl wr).alloc _).trans hx).alloc _
           have hz3:wr.heap.size<w3.heap.size:=by have:=hx.size;simp at this;omega
           clear hx
           go_wp2_with fail
           generalize w3.alloc _=W at *
           have c_3:=g3.cells
           refine (hFF _).mono ?_
           rintro e w4 ⟨rfl,hx⟩
           clear hFF c_3
           replace g3:=g3.ext hx
           replace x3:=x3.trans hx
           clear hx
           have c_3:=g3.cells
           cases F with
           | false =>
             have hres:=Lib.hid (show layM l n 1 base loc=none from by rw [hlay.out,hMh.out,hlf.out];rfl)
             go_wp2_with fail
             rw [hres.out]
             exact bodyPost_ret (v:=.tuple #[.slice none 0 0,.int .i64 6]) (by simp [results,Tryz.results74,go_sem]) rfl ⟨hE.trans x3,6,by decide,rfl⟩
           | true =>
             obtain⟨hb1,hb2⟩:=hfb rfl
             have s1:=IntWalk.i64_in (bi+C) (by omega)
             have s2:=IntWalk.i64_in (ci+D) (by omega)
             have hown3:=row_ext hownh.out x3
             have hRn:Hid (u14.ownBlock≠some w3.heap.size):=Lib.hid fun e=>by have:=(hownh.out.lt _ e).2;omega
             have hE3:=hE.trans x3
             have hM2:=Lib.hid (show layFrom n 1 l base loc=(layFrom n 1 (l.drop (j+1)) (bi+C) (ci+D)).map ((pre++[⟨kk,bi,ci,n,q.wr,-1,tp⟩])++·) from by
              rw [hMh.out,hlf.out]
              simp only [if_true,Option.map_map]
              congr 1
              funext x
              simp)
             clear hfb hlf hMh hownh hb1 hb2
             go_wp2_with (at_builtin;refine append_rec info_reg Tryz.underlying87 rfl (by decide) (by decide) rfl _ _ rfl _ j (pre.flatMap regVals) [.int .i64 kk,.int .i64 bi,.int .i64 ci,.int .i64 n,.int .i64 q.wr,.int .i64 (-1),.int .i64 tp] hE3 hown3 rfl rfl rfl (by simp [Value.oneCell']) (by omega) ?_)
             intro v' w5 ho4 hx4 hbk
             have g4:Blk w5 w3.heap.size _:=(hbk _ g3.lt hRn.out).trans g3
             have c_4:=g4.cells
             clear hbk hown3 hE3 c_3 hRn g3 x3
             go_wp2_with fail
             refine (hCC _).mono ?_
             rintro e w6 ⟨rfl,hx⟩
             replace g4:=g4.ext hx
             replace ho4:=row_ext ho4 hx
             replace hx4:=hx4.trans hx
             clear c_4 hx hCC
             have c_4:=g4.cells
             go_wp2_with fail
             refine (hLL _).mono ?_
             rintro e w7 ⟨rfl,hx⟩
             replace ho4:=row_ext ho4 hx
             replace hx4:=hx4.trans hx
             clear c_4 g4 hx hLL
             have ho5:=Lib.hid ho4
             clear ho4
             go_wp2_with fail
             refine⟨⟨j+1,bi+C,ci+D,pre++[⟨kk,bi,ci,n,q.wr,-1,tp⟩],rfl,rfl,by go_num,by omega,by simp [hpl],by omega,by omega,hM2,by rw [List.flatMap_append];exact ho5.out,hx4⟩,?_⟩
             simp [intOf];omega
         · have hf:layFrom n 1 l base loc=some pre:=by
            rw [hM.out,List.drop_eq_nil_of_le (by omega)]
            simp [layFrom]
           have hres:=Lib.hid (hlay.out.trans hf)
           clear hM hf hlay hwr
           have hownh:=Lib.hid hown
           clear hown
           go_wp2_with fail
           rw [hres.out]
           refine bodyPost_ret (v:=.tuple #[u14,.int .i64 0]) (by simp [results,Tryz.results74,go_sem]) rfl ?_
           exact⟨hE,u14,rfl,by rw [hpl];exact hownh.out⟩
   · have hgood:=Lib.hid (fun hq=>argsM_good (l:=l) h0 hq)
     have hbad:=Lib.hid (fun (i:Nat) q hq hx=>argsM_bad (l:=l) (n:=n) (mode:=2) (b:=base) (c:=loc) (i:=i) (q:=q) hq hx)
     obtain⟨-,-,n1,n2,b1,l1⟩:=h0
     have d3:decide (n<1)=false:=by rw [decide_eq_false_iff_not];omega
     have d4:decide (8<n)=false:=by rw [decide_eq_false_iff_not];omega
     have d5:decide (base<0)=false:=by rw [decide_eq_false_iff_not];omega
     have d6:decide (loc<0)=false:=by rw [decide_eq_false_iff_not];omega
     go_enter Tryz.func74,Tryz.ntmps74
     go_wp2_with fail
     go_loopw [40] (fun i wr=>∃ j:Nat,i=.int .i64 j/\j<=l.length/\Hid (∀ (k:Nat) q,k<j->l[k]?=some q->-1<=q.wr/\q.wr<n)/\Ext w wr) (fun i _=>l.length-(intOf i).toNat)
     case atStart=>exact⟨0,rfl,by omega,fun k q hk=>by omega,Ext.refl _⟩
     case round =>
      obtain⟨j,rfl,hj,hs,hE⟩:=hrel
      by_cases hl:j<l.length
      · obtain⟨q,hq⟩:∃ q,l[j]?=some q:=⟨_,List.getElem?_eq_getElem hl⟩
        obtain⟨b,rfl,hb,e1,e2⟩:=want_at (hv.ext hE) hq
        have hE2:=hE.alloc (.cells #[.int .i64 q.wr,.int .i64 q.top] 85)
        by_cases f1:q.wr < -1
        · have d7:decide (q.wr < -1)=true:=by simpa using f1
          have hf:=Lib.hid (hbad.out j q hq (by omega))
          clear hq hgood hbad hs
          go_wp2_with fail
          rw [hf.out]
          refine bodyPost_ret (v:=.tuple #[.slice none 0 0,.int .i64 1]) (by simp [results,Tryz.results74,go_sem]) rfl ?_
          exact⟨hE2,1,by decide,rfl⟩
        · have d7:decide (q.wr < -1)=false:=by rw [decide_eq_false_iff_not];omega
          by_cases f2:n<=q.wr
          · have d8:decide (n<=q.wr)=true:=by simpa using f2
            have hf:=Lib.hid (hbad.out j q hq (by omega))
            clear hq hgood hbad hs
            go_wp2_with fail
            rw [hf.out]
            refine bodyPost_ret (v:=.tuple #[.slice none 0 0,.int .i64 1]) (by simp [results,Tryz.results74,go_sem]) rfl ?_
            exact⟨hE2,1,by decide,rfl⟩
          · have d8:decide (n<=q.wr)=false:=by rw [decide_eq_false_iff_not];omega
            have hs2:Hid (∀ (k:Nat) q,k<j+1->l[k]?=some q->-1<=q.wr/\q.wr<n):=Lib.hid fun k q' hk hq'=>by
             by_cases e:k=j
             · subst e
               rw [hq] at hq'
               obtain rfl:q=q':=by simpa using hq'
               omega
             · exact hs.out k q' (by omega) hq'
            have hE3:=Lib.hid hE2
            clear hq hs hgood hbad hE2
            go_wp2_with fail
            refine⟨⟨j+1,by go_num,by omega,hs2,hE3.out⟩,?_⟩
            simp [intOf];omega
      · have hlay:=Lib.hid (hgood.out fun k q hq=>hs.out k q (by have:=(List.getElem?_eq_some_iff.1 hq).1;omega) hq)
        have hwr:=Lib.hid (fun (k:Nat) (q:Want) (hq:l[k]?=some q)=>hs.out k q (by have:=(List.getElem?_eq_some_iff.1 hq).1;omega) hq)
        clear hgood hbad hs
        go_wp2_with fail
        have hE0:=Lib.hid hE
        clear hE
        go_loopw [3,4,14,56] (fun b' c' v i wr=>∃ (j:Nat) (bi ci:Int) (pre:List Reg),b'=.int .i64 bi/\c'=.int .i64 ci/\i=.int .i64 j/\j<=l.length/\pre.length=j/\0<=bi/\0<=ci/\Hid (layFrom n 2 l base loc=(layFrom n 2 (l.drop j) bi ci).map (pre++·))/\wr.ownsRow w.heap.size 81 7 v j (pre.flatMap regVals)/\Ext w wr) (fun _ _ _ i _=>l.length-(intOf i).toNat)
        case atStart=>exact⟨0,base,loc,[],rfl,rfl,rfl,by omega,rfl,b1,l1,by unfold Hid;simp,World.ownsRow_nil _ _ _ _,hE0.out⟩
        case round =>
         clear hE0
         obtain⟨j,bi,ci,pre,rfl,rfl,rfl,hj,hpl,hbi,hci,hM,hown,hE⟩:=hrel
         by_cases hl:j<l.length
         · obtain⟨q,hq⟩:∃ q,l[j]?=some q:=⟨_,List.getElem?_eq_getElem hl⟩
           obtain⟨b,rfl,hb,e1,e2⟩:=want_at (hv.ext hE) hq
           obtain⟨w1,w2⟩:=hwr.out j q hq
           have hdr:l.drop j=q :: l.drop (j+1):=by
            rw [List.drop_eq_getElem_cons hl]
            congr 1
            rw [List.getElem?_eq_getElem hl] at hq
            simpa using hq
           have hMh:=Lib.hid hM
           have hownh:=Lib.hid hown
           clear hM hown hq
           have hrk:regOf n 2 bi ci q=⟨kindM 2 q.wr,bi,ci,n,q.wr,-1,topM q.top⟩:=rfl
           have hWW:=fun W=>want_p q n 2 W (by omega) w1
           have hK:kindM 2 q.wr=1∨kindM 2 q.wr=6∨kindM 2 q.wr=7:=by unfold kindM;split <;> (try split) <;> simp
           have hK6:kindM 2 q.wr=6->0<=q.wr:=by unfold kindM;split <;> (try split) <;> omega
           have htm:=topM_bd q.top
           have hdn:Drawn ⟨kindM 2 q.wr,bi,ci,n,q.wr,-1,topM q.top⟩:=⟨hK,hbi,hci,⟨n1,n2⟩,⟨w1,w2⟩,hK6,rfl,htm⟩
           have hlf:=Lib.hid (show layFrom n 2 (l.drop j) bi ci=if fineM ⟨kindM 2 q.wr,bi,ci,n,q.wr,-1,topM q.top⟩ then (layFrom n 2 (l.drop (j+1)) (bi+cellsM ⟨kindM 2 q.wr,bi,ci,n,q.wr,-1,topM q.top⟩) (ci+localsM ⟨kindM 2 q.wr,bi,ci,n,q.wr,-1,topM q.top⟩)).map (⟨kindM 2 q.wr,bi,ci,n,q.wr,-1,topM q.top⟩ :: ·) else none from by rw [hdr,layFrom_cons,hrk])
           have hCC:=fun W=>hC ⟨kindM 2 q.wr,bi,ci,n,q.wr,-1,topM q.top⟩ W hdn rfl
           have hFF:=fun W=>fine_p ⟨kindM 2 q.wr,bi,ci,n,q.wr,-1,topM q.top⟩ W hdn hCC
           have hLL:=fun W=>locals_p ⟨kindM 2 q.wr,bi,ci,n,q.wr,-1,topM q.top⟩ W hK ⟨n1,n2⟩
           have hcn:=cells_nat ⟨kindM 2 q.wr,bi,ci,n,q.wr,-1,topM q.top⟩ ⟨n1,n2⟩
           have hfb:fineM ⟨kindM 2 q.wr,bi,ci,n,q.wr,-1,topM q.top⟩=true->bi<=32768/\ci<=32768:=by
            unfold fineM
            simp only [Bool.and_eq_true,decide_eq_true_eq]
            omega
           clear hdn hrk htm hdr hK hK6
           unfold encR regOf at hWW
           unfold encR at hFF hCC hLL
           simp only at hWW hFF hCC hLL
           generalize kindM 2 q.wr=kk at *
           generalize topM q.top=tp at *
           generalize cellsM _=C at *
           generalize localsM _=D at *
           generalize hfm:fineM _=F at *
           clear hfm
           go_wp2_with fail
           refine (hWW _).mono ?_
           rintro e w3 ⟨rfl,hx⟩
           clear hWW
           have g3:=Blk.new w3 (.cells #[.int .i64 kk,.int .i64 bi,.int .i64 ci,.int .i64 n,.int .i64 q.wr,.int .i64 (-1),.int .i64 tp] 81)
           have x3:Ext wr (w3.alloc (.cells #[.int .i64 kk,.int .i64 bi,.int .i64 ci,.int .i64 n,.int .i64 q.wr,.int .i64 (-1),.int .i64 tp] 81)):=(((Ext.refl wr).alloc _).trans hx).alloc _
           have hz3:wr.heap.size<w3.heap.size:=by have:=hx.size;simp at this;omega
           clear hx
           go_wp2_with fail
           generalize w3.alloc _=W at *
           have c_3:=g3.cells
           refine (hFF _).mono ?_
           rintro e w4 ⟨rfl,hx⟩
           clear hFF c_3
           replace g3:=g3.ext hx
           replace x3:=x3.trans hx
           clear hx
           have c_3:=g3.cells
           cases F with
           | false =>
             have hres:=Lib.hid (show layM l n 2 base loc=none from by rw [hlay.out,hMh.out,hlf.out];rfl)
             go_wp2_with fail
             rw [hres.out]
             exact bodyPost_ret (v:=.tuple #[.slice none 0 0,.int .i64 6]) (by simp [results,Tryz.results74,go_sem]) rfl ⟨hE.trans x3,6,by decide,rfl⟩
           | true =>
             obtain⟨hb1,hb2⟩:=hfb rfl
             have s1:=IntWalk.i64_in (bi+C) (by omega)
             have s2:=IntWalk.i64_in (ci+D) (by omega)
             have hown3:=row_ext hownh.out x3
             have hRn:Hid (u14.ownBlock≠some w3.heap.size):=Lib.hid fun e=>by have:=(hownh.out.lt _ e).2;omega
             have hE3:=hE.trans x3
             have hM2:=Lib.hid (show layFrom n 2 l base loc=(layFrom n 2 (l.drop (j+1)) (bi+C) (ci+D)).map ((pre++[⟨kk,bi,ci,n,q.wr,-1,tp⟩])++·) from by
              rw [hMh.out,hlf.out]
              simp only [if_true,Option.map_map]
              congr 1
              funext x
              simp)
             clear hfb hlf hMh hownh hb1 hb2
             go_wp2_with (at_builtin;refine append_rec info_reg Tryz.underlying87 rfl (by decide) (by decide) rfl _ _ rfl _ j (pre.flatMap regVals) [.int .i64 kk,.int .i64 bi,.int .i64 ci,.int .i64 n,.int .i64 q.wr,.int .i64 (-1),.int .i64 tp] hE3 hown3 rfl rfl rfl (by simp [Value.oneCell']) (by omega) ?_)
             intro v' w5 ho4 hx4 hbk
             have g4:Blk w5 w3.heap.size _:=(hbk _ g3.lt hRn.out).trans g3
             have c_4:=g4.cells
             clear hbk hown3 hE3 c_3 hRn g3 x3
             go_wp2_with fail
             refine (hCC _).mono ?_
             rintro e w6 ⟨rfl,hx⟩
             replace g4:=g4.ext hx
             replace ho4:=row_ext ho4 hx
             replace hx4:=hx4.trans hx
             clear c_4 hx hCC
             have c_4:=g4.cells
             go_wp2_with fail
             refine (hLL _).mono ?_
             rintro e w7 ⟨rfl,hx⟩
             replace ho4:=row_ext ho4 hx
             replace hx4:=hx4.trans hx
             clear c_4 g4 hx hLL
             have ho5:=Lib.hid ho4
             clear ho4
             go_wp2_with fail
             refine⟨⟨j+1,bi+C,ci+D,pre++[⟨kk,bi,ci,n,q.wr,-1,tp⟩],rfl,rfl,by go_num,by omega,by simp [hpl],by omega,by omega,hM2,by rw [List.flatMap_append];exact ho5.out,hx4⟩,?_⟩
             simp [intOf];omega
         · have hf:layFrom n 2 l base loc=some pre:=by
            rw [hM.out,List.drop_eq_nil_of_le (by omega)]
            simp [layFrom]
           have hres:=Lib.hid (hlay.out.trans hf)
           clear hM hf hlay hwr
           have hownh:=Lib.hid hown
           clear hown
           go_wp2_with fail
           rw [hres.out]
           refine bodyPost_ret (v:=.tuple #[u14,.int .i64 0]) (by simp [results,Tryz.results74,go_sem]) rfl ?_
           exact⟨hE,u14,rfl,by rw [hpl];exact hownh.out⟩
 · rw [argsM_false h0]
   go_enter Tryz.func74,Tryz.ntmps74
   have hfin:LayPost w.heap.size w none (.returned (.tuple #[.slice none 0 0,.int .i64 1])) w:=⟨Ext.refl _,1,by decide,rfl⟩
   by_cases m1:mode=1∨mode=2
   · by_cases m3:n<1
     · have d3:decide (n<1)=true:=by simpa using m3
       rcases m1 with rfl | rfl
       all_goals
        go_wp2_with fail
        exact bodyPost_ret (v:=.tuple #[.slice none 0 0,.int .i64 1]) (by simp [results,Tryz.results74,go_sem]) rfl hfin
     · have d3:decide (n<1)=false:=by simpa using m3
       by_cases m4:8<n
       · have d4:decide (8<n)=true:=by simpa using m4
         rcases m1 with rfl | rfl
         all_goals
          go_wp2_with fail
          exact bodyPost_ret (v:=.tuple #[.slice none 0 0,.int .i64 1]) (by simp [results,Tryz.results74,go_sem]) rfl hfin
       · have d4:decide (8<n)=false:=by simpa using m4
         by_cases m5:base<0
         · have d5:decide (base<0)=true:=by simpa using m5
           rcases m1 with rfl | rfl
           all_goals
            go_wp2_with fail
            exact bodyPost_ret (v:=.tuple #[.slice none 0 0,.int .i64 1]) (by simp [results,Tryz.results74,go_sem]) rfl hfin
         · have d5:decide (base<0)=false:=by simpa using m5
           have d6:decide (loc<0)=true:=by rw [decide_eq_true_eq];omega
           rcases m1 with rfl | rfl
           all_goals
            go_wp2_with fail
            exact bodyPost_ret (v:=.tuple #[.slice none 0 0,.int .i64 1]) (by simp [results,Tryz.results74,go_sem]) rfl hfin
   · have d1:(mode != 1)=true:=by rw [bne_iff_ne];omega
     have d2:(mode != 2)=true:=by rw [bne_iff_ne];omega
     go_wp2_with fail
     exact bodyPost_ret (v:=.tuple #[.slice none 0 0,.int .i64 1]) (by simp [results,Tryz.results74,go_sem]) rfl hfin
theorem append_none {w:World}{ops:Array Oper}{rest:List Oper}{o:Oper}{a:Act}{Q:Exit->Act->World->Prop}{z:Value}{e t:TypeId}{size bytes:Nat}
  (hinfo:(Tryz.prog.info? e).map (fun i=>(i.zero,i.size,i.bytes))=some (some z,size,bytes))(hund:Tryz.prog.underlying t=some (.slice e))(hgd:o.guard=none)(s x:Operand)
  (ho:o.op=.call { callee:=.builtin .append,args:=#[s,x],argTypes:=#[t,t] })(base:Nat)(v:Value)(n:Nat)(xs:List Value)(hown:w.ownsRow base e size v n xs)(hs:a.eval s=v)(hx:a.eval x=.slice none 0 0)
  (h:wpList Tryz.prog ops Q rest (a.put o.dst v) w):wpList Tryz.prog ops Q (o :: rest) a w:=by
 obtain⟨i0,hi,hz0,hz1,hz2⟩:=info_parts hinfo
 exact wpList_append_own_none hgd s x t ho base e i0 size hund hi v n xs hs hown hx h
set_option maxRecDepth 100000 in
theorem mstrips1_p (w:World):Calls Tryz.prog 147 #[.int .i64 1] w fun e w'=>∃ A c,e=.returned (.slice A 0 c)/\Ext w w':=by
 go_enter Tryz.func147,Tryz.ntmps147
 go_wp2_with fail
 refine (mthreads_p 1 _ (by omega) (by omega)).mono ?_
 rintro e w' ⟨rfl,rfl⟩
 go_wp2_with fail
 go_loopw [3,6] (fun v i wr=>∃ j:Nat,i=.int .i64 j/\j<=1/\wr.ownsRow w.heap.size 42 3 v 0 []/\Ext w wr) (fun _ i _=>1-(intOf i).toNat)
 case atStart=>exact⟨0,rfl,by omega,World.ownsRow_nil _ _ _ _,Ext.refl _⟩
 case round =>
  obtain⟨j,rfl,hj,hown,hX⟩:=hrel
  by_cases hl:j<1
  · obtain rfl:j=0:=by omega
    go_wp2_with fail
    refine (tstrips_p 1 _ (by omega) (by omega)).mono ?_
    rintro e w2 ⟨v2,rfl,hr2,hx2⟩
    rw [show 2*((1-1:Int).toNat*(1-1:Int).toNat)=0 from rfl,show pairVals ((1-1:Int).toNat*(1-1:Int).toNat)=[] from rfl] at hr2
    replace hown:=row_ext hown hx2
    replace hX:=hX.trans hx2
    clear hx2
    rcases hr2.2 with⟨rfl,-⟩ | ⟨g,cap,cur,rfl,q1,q2,q3,q4,-⟩
    · clear hr2
      go_wp2_with (at_builtin;refine append_none info_strip Tryz.underlying39 rfl _ _ rfl w.heap.size _ 0 [] hown rfl rfl ?_)
      have hoh:=Lib.hid hown
      clear hown
      go_wp2_with fail
      refine⟨⟨1,by go_num,by omega,hoh.out,hX⟩,?_⟩
      simp [intOf]
    · clear hr2
      go_wp2_with (at_builtin;refine append_recs info_strip Tryz.underlying39 rfl (by decide) (by decide) rfl _ _ rfl _ 0 [] [] ⟨g,0,none⟩ 0 cap hX hown rfl rfl rfl (fun i u hu=>by simp at hu) (fun u hu=>by simp at hu) (by omega) (by omega) ?_)
      intro v' w' ho hx'
      have hoh:=Lib.hid ho
      clear hown ho q1 q2 q3 q4
      go_wp2_with fail
      refine⟨⟨1,by go_num,by omega,hoh.out,hx'⟩,?_⟩
      simp [intOf]
  · obtain rfl:j=1:=by omega
    obtain⟨A,c,rfl,-⟩:=Recs.of_row hown
    clear hown
    go_wp2_with fail
    go_ret
    exact⟨_,_,rfl,hX⟩
set_option maxRecDepth 100000 in
theorem cells71_p (base loc wr rd top:Int)(w:World):Calls Tryz.prog 70 #[.agg #[.int .i64 7,.int .i64 base,.int .i64 loc,.int .i64 1,.int .i64 wr,.int .i64 rd,.int .i64 top]] w fun e w'=>e=.returned (.int .i64 0)/\Ext w w':=by
 have hS:∀ w,Calls Tryz.prog 105 #[.agg #[.int .i64 7,.int .i64 base,.int .i64 loc,.int .i64 1,.int .i64 wr,.int .i64 rd,.int .i64 top]] w fun e w'=>∃ A c,e=.returned (.slice A 0 c)/\Ext w w':=by
  intro w
  have hX:=Ext.refl w
  have b1:=Blk.new w (.cells #[.int .i64 7,.int .i64 base,.int .i64 loc,.int .i64 1,.int .i64 wr,.int .i64 rd,.int .i64 top] 81)
  replace hX:=hX.alloc (.cells #[.int .i64 7,.int .i64 base,.int .i64 loc,.int .i64 1,.int .i64 wr,.int .i64 rd,.int .i64 top] 81)
  have c_b1:=b1.cells
  go_enter Tryz.func105,Tryz.ntmps105
  go_wp2_with fail
  refine (mstrips1_p _).mono ?_
  rintro e w2 ⟨A,c,rfl,hx⟩
  have hf:=Lib.hid (hX.trans hx)
  clear hx
  go_wp2_with fail
  go_ret
  exact⟨_,_,rfl,hf.out⟩
 have hX:=Ext.refl w
 have b1:=Blk.new w (.cells #[.int .i64 7,.int .i64 base,.int .i64 loc,.int .i64 1,.int .i64 wr,.int .i64 rd,.int .i64 top] 81)
 replace hX:=hX.alloc (.cells #[.int .i64 7,.int .i64 base,.int .i64 loc,.int .i64 1,.int .i64 wr,.int .i64 rd,.int .i64 top] 81)
 have c_b1:=b1.cells
 go_enter Tryz.func70,Tryz.ntmps70
 go_wp2_with fail
 refine (hS _).mono ?_
 rintro e w2 ⟨A,c,rfl,hx⟩
 have hf:=Lib.hid (hX.trans hx)
 clear hx hS c_b1 b1 hX
 go_wp2_with fail
 go_loopw [3,9] (fun s i wr=>i=.int .i64 0/\s=.int .i64 0/\w2=wr) (fun _ _ _=>0)
 case atStart=>exact⟨rfl,rfl,rfl⟩
 case round =>
  obtain⟨rfl,rfl,rfl⟩:=hrel
  go_wp2_with fail
  go_ret
  exact⟨rfl,hf.out⟩
theorem cells_all (r:Reg)(w:World)(hk:r.kind=1∨r.kind=6∨r.kind=7)(hn:1<=r.n/\r.n<=8):Calls Tryz.prog 70 #[encR r] w fun e w'=>e=.returned (.int .i64 (cellsM r))/\Ext w w':=by
 by_cases h:r.kind=7/\r.n=1
 · obtain⟨kind,base,loc,n,wr,rd,top⟩:=r
   obtain⟨rfl,rfl⟩:=h
   exact cells71_p base loc wr rd top w
 · exact cells_p r w (by omega) hn (fun w=>mthreads_p r.n w hn.1 hn.2)
theorem plan_p (va:Value)(l:List Want)(n mode base loc:Int)(w:World)(h:WantsAt w va l)(hlen:l.length<=1000) :
  Calls Tryz.prog 74 #[va,.int .i64 n,.int .i64 mode,.int .i64 base,.int .i64 loc] w (LayPost w.heap.size w (layM l n mode base loc)) :=
 lay_p va l n mode base loc w h hlen fun r w hd _=>cells_all r w hd.kind hd.n
def FRecs (B:Nat) (w:World) (v:Value) (n:Nat) (vals:List Value):Prop :=
 ∃ A c,v=.slice A n c/\n<=c/\c<=9223372036854775807/\(A=none->c=0)/\(∀ ad,A=some ad->∃ b,ad=⟨b,0,none⟩/\B<=b/\b<w.heap.size)/\∀ b,A=some ⟨b,0,none⟩->∀ (i:Nat) u,vals[i]?=some u->w.cell? ⟨b,i,none⟩=some u
theorem FRecs.of_row {w:World}{B e size n:Nat}{v:Value}{xs:List Value}(h:w.ownsRow B e size v n xs):FRecs B w v n xs:=by
 obtain⟨h1,h2⟩:=h
 rcases h2 with⟨rfl,rfl⟩ | ⟨g,cap,cur,rfl,hg,hh,hc,hc2,hsz,htk⟩
 · exact⟨none,0,rfl,Nat.le_refl _,by omega,fun _=>rfl,(fun _ h=>nomatch h),(fun _ h=>nomatch h)⟩
 · refine⟨_,_,rfl,hc,by unfold maxLen at hc2;exact hc2,(fun h=>nomatch h),fun ad h=>⟨g,(Option.some.inj h).symm,hg,(Array.getElem?_eq_some_iff.1 hh).1⟩,fun b hb i u hu=>?_⟩
   obtain rfl:g=b:=by simpa using hb
   rw [cell_of_heap hh i]
   rw [<- htk,List.getElem?_take] at hu
   split at hu
   · simpa using hu
   · cases hu
theorem FRecs.ext {B:Nat}{w w':World}{v:Value}{n:Nat}{vals:List Value}(h:FRecs B w v n vals)(hx:Ext w w'):FRecs B w' v n vals:=by
 obtain⟨A,c,e,h1,h2,h3,h4,h5⟩:=h
 refine⟨A,c,e,h1,h2,h3,fun ad ha=>?_,fun b hb i u hu=>?_⟩
 · obtain⟨b,e,k1,k2⟩:=h4 ad ha
   exact⟨b,e,k1,Nat.lt_of_lt_of_le k2 hx.size⟩
 · obtain⟨b',e,k1,k2⟩:=h4 _ hb
   cases e
   exact (hx.cell (p:=⟨b,i,none⟩) k2).trans (h5 b hb i u hu)
theorem FRecs.less {B B':Nat}{w:World}{v:Value}{n:Nat}{vals:List Value}(h:FRecs B w v n vals)(hB:B'<=B):FRecs B' w v n vals:=by
 obtain⟨A,c,e,h1,h2,h3,h4,h5⟩:=h
 refine⟨A,c,e,h1,h2,h3,fun ad ha=>?_,h5⟩
 obtain⟨b,e,k1,k2⟩:=h4 ad ha
 exact⟨b,e,Nat.le_trans hB k1,k2⟩
theorem FRecs.setCell {B b i:Nat}{u:Value}{w:World}{v:Value}{n:Nat}{vals:List Value}(h:FRecs B w v n vals)(hb:b<B):FRecs B (w.setCell ⟨b,i,none⟩ u) v n vals:=by
 obtain⟨A,c,e,h1,h2,h3,h4,h5⟩:=h
 refine⟨A,c,e,h1,h2,h3,fun ad ha=>?_,fun g hg j x hx=>?_⟩
 · obtain⟨g,e,k1,k2⟩:=h4 ad ha
   exact⟨g,e,k1,by simpa [World.setCell] using k2⟩
 · obtain⟨g',e,k1,k2⟩:=h4 _ hg
   cases e
   have hh:=heap_setCell_ne w (b:=b) (i:=i) (k:=g) u (by omega)
   unfold World.cell? at *
   rw [hh]
   exact h5 g hg j x hx
def svals (r:Reg):List Value:=if r.kind=1 then [.int .i64 1,.int .i64 3,.int .i64 (clamp r.top 1099511627776)] else if r.kind=6 then pairVals ((r.n-1).toNat*(r.n-1).toNat) else pairVals (r.n.toNat*((r.n-1).toNat*(r.n-1).toNat))
theorem svals_len (r:Reg):(svals r).length=3*manyF r:=by
 unfold svals manyF
 split
 · rfl
 · split <;> rw [pairVals_len] <;> omega
theorem svals_one (r:Reg):∀ u∈svals r,u.oneCell'=true:=by
 unfold svals
 split
 · intro u hu
   simp only [List.mem_cons,List.not_mem_nil,or_false] at hu
   rcases hu with rfl | rfl | rfl <;> rfl
 · split <;> exact pairVals_one _
set_option maxRecDepth 100000 in
theorem mstrips1v_p (w:World):Calls Tryz.prog 147 #[.int .i64 1] w fun e w'=>∃ v,e=.returned v/\FRecs w.heap.size w' v 0 []/\Ext w w':=by
 go_enter Tryz.func147,Tryz.ntmps147
 go_wp2_with fail
 refine (mthreads_p 1 _ (by omega) (by omega)).mono ?_
 rintro e w' ⟨rfl,rfl⟩
 go_wp2_with fail
 go_loopw [3,6] (fun v i wr=>∃ j:Nat,i=.int .i64 j/\j<=1/\wr.ownsRow w.heap.size 42 3 v 0 []/\Ext w wr) (fun _ i _=>1-(intOf i).toNat)
 case atStart=>exact⟨0,rfl,by omega,World.ownsRow_nil _ _ _ _,Ext.refl _⟩
 case round =>
  obtain⟨j,rfl,hj,hown,hX⟩:=hrel
  by_cases hl:j<1
  · obtain rfl:j=0:=by omega
    go_wp2_with fail
    refine (tstrips_p 1 _ (by omega) (by omega)).mono ?_
    rintro e w2 ⟨v2,rfl,hr2,hx2⟩
    rw [show 2*((1-1:Int).toNat*(1-1:Int).toNat)=0 from rfl,show pairVals ((1-1:Int).toNat*(1-1:Int).toNat)=[] from rfl] at hr2
    replace hown:=row_ext hown hx2
    replace hX:=hX.trans hx2
    clear hx2
    rcases hr2.2 with⟨rfl,-⟩ | ⟨g,cap,cur,rfl,q1,q2,q3,q4,-⟩
    · clear hr2
      go_wp2_with (at_builtin;refine append_none info_strip Tryz.underlying39 rfl _ _ rfl w.heap.size _ 0 [] hown rfl rfl ?_)
      have hoh:=Lib.hid hown
      clear hown
      go_wp2_with fail
      refine⟨⟨1,by go_num,by omega,hoh.out,hX⟩,?_⟩
      simp [intOf]
    · clear hr2
      go_wp2_with (at_builtin;refine append_recs info_strip Tryz.underlying39 rfl (by decide) (by decide) rfl _ _ rfl _ 0 [] [] ⟨g,0,none⟩ 0 cap hX hown rfl rfl rfl (fun i u hu=>by simp at hu) (fun u hu=>by simp at hu) (by omega) (by omega) ?_)
      intro v' w' ho hx'
      have hoh:=Lib.hid ho
      clear hown ho q1 q2 q3 q4
      go_wp2_with fail
      refine⟨⟨1,by go_num,by omega,hoh.out,hx'⟩,?_⟩
      simp [intOf]
  · obtain rfl:j=1:=by omega
    have hf:=Lib.hid (FRecs.of_row hown)
    clear hown
    go_wp2_with fail
    go_ret
    exact⟨_,rfl,hf.out,hX⟩
set_option maxRecDepth 100000 in
theorem rstripsv_p (r:Reg)(w:World)(hk:r.kind=1∨r.kind=6∨r.kind=7)(hn:1<=r.n/\r.n<=8) :
  Calls Tryz.prog 105 #[encR r] w fun e w'=>∃ v,e=.returned v/\FRecs w.heap.size w' v (manyF r) (svals r)/\Ext w w':=by
 obtain⟨M,hM⟩:∃ M,M=manyF r:=⟨_,rfl⟩
 obtain⟨V,hV⟩:∃ V,V=svals r:=⟨_,rfl⟩
 rw [<- hM,<- hV]
 replace hM:=Lib.hid hM
 replace hV:=Lib.hid hV
 obtain⟨kind,base,loc,n,wr,rd,top⟩:=r
 simp only at hk hn
 unfold encR
 simp only
 have hX:=Ext.refl w
 have b1:=Blk.new w (.cells #[.int .i64 kind,.int .i64 base,.int .i64 loc,.int .i64 n,.int .i64 wr,.int .i64 rd,.int .i64 top] 81)
 replace hX:=hX.alloc (.cells #[.int .i64 kind,.int .i64 base,.int .i64 loc,.int .i64 n,.int .i64 wr,.int .i64 rd,.int .i64 top] 81)
 have c_b1:=b1.cells
 rcases hk with rfl | rfl | rfl
 · go_enter Tryz.func105,Tryz.ntmps105
   go_wp2_with fail
   refine (clamp_p _ _ _).mono ?_
   rintro e w' ⟨rfl,rfl⟩
   have g1:=Blk.new (w.alloc (.cells #[.int .i64 1,.int .i64 base,.int .i64 loc,.int .i64 n,.int .i64 wr,.int .i64 rd,.int .i64 top] 81)) (.cells #[.int .i64 1,.int .i64 3,.int .i64 (clamp top 1099511627776)] 42)
   have hX2:=Lib.hid (hX.alloc (.cells #[.int .i64 1,.int .i64 3,.int .i64 (clamp top 1099511627776)] 42))
   simp only [World.size_alloc] at g1
   have g1h:=Lib.hid g1
   clear g1
   go_wp2_with fail
   go_ret
   rw [hM.out,hV.out]
   refine⟨_,rfl,⟨some ⟨w.heap.size+1,0,none⟩,1,rfl,Nat.le_refl _,by omega,(fun h=>nomatch h),fun ad h=>⟨w.heap.size+1,(Option.some.inj h).symm,by omega,g1h.out.lt⟩,fun b hb i u hu=>?_⟩,hX2.out⟩
   obtain rfl:w.heap.size+1=b:=by simpa using hb
   rw [g1h.out.cells i,<- hu]
   exact List.getElem?_toArray ..
 · go_enter Tryz.func105,Tryz.ntmps105
   go_wp2_with fail
   refine (tstrips_p n _ hn.1 hn.2).mono ?_
   rintro e w2 ⟨v,rfl,hr,hx⟩
   have hS:=Lib.hid (And.intro ((FRecs.of_row hr).less hX.size) (hX.trans hx))
   clear hr hx
   go_wp2_with fail
   go_ret
   rw [hM.out,hV.out]
   exact⟨_,rfl,hS.out.1,hS.out.2⟩
 · go_enter Tryz.func105,Tryz.ntmps105
   go_wp2_with fail
   by_cases h2:2<=n
   · refine (mstrips_p n _ h2 hn.2 (mthreads_p n _ hn.1 hn.2)).mono ?_
     rintro e w2 ⟨v,rfl,hr,hx⟩
     have hS:=Lib.hid (And.intro ((FRecs.of_row hr).less hX.size) (hX.trans hx))
     clear hr hx
     go_wp2_with fail
     go_ret
     rw [hM.out,hV.out]
     exact⟨_,rfl,hS.out.1,hS.out.2⟩
   · obtain rfl:n=1:=by omega
     refine (mstrips1v_p _).mono ?_
     rintro e w2 ⟨v,rfl,hr,hx⟩
     have hS:=Lib.hid (And.intro (hr.less hX.size) (hX.trans hx))
     clear hr hx
     go_wp2_with fail
     go_ret
     rw [hM.out,hV.out]
     exact⟨_,rfl,hS.out.1,hS.out.2⟩
end Go.Proofs.YtchahoiainbcaaaGreatDoor
namespace Kv
theorem sum_snoc {α:Type}(f:α->Nat)(l:List α)(j:Nat)(r:α)(h:l[j]?=some r):((l.take (j+1)).map f).sum=((l.take j).map f).sum+f r:=by
 rw [List.take_add_one,h]
 simp
theorem flat_snoc {α β:Type}(f:α->List β)(l:List α)(j:Nat)(r:α)(h:l[j]?=some r):(l.take (j+1)).flatMap f=(l.take j).flatMap f++f r:=by
 rw [List.take_add_one,h,List.flatMap_append]
 simp
theorem sum_le {α:Type}(f:α->Nat)(b:Nat)(l:List α)(h:∀ r∈l,f r<=b):(l.map f).sum<=b*l.length:=by
 induction l with
 | nil=>simp
 | cons x l ih =>
   have h1:=h x (by simp)
   have h2:=ih fun r hr=>h r (List.mem_cons_of_mem _ hr)
   simp only [List.map_cons,List.sum_cons,List.length_cons,Nat.mul_add]
   omega
end Kv
namespace Go.Proofs.YtchahoiainbcaaaGreatDoor
open Go.RowKit Kv
theorem info_strips:(Tryz.prog.info? 39).map (fun i=>(i.zero,i.size,i.bytes))=some (some (.slice none 0 0),1,24):=by kernel_rfl
theorem make_lists (k:Nat)(hk:k<=100000)(w:World) :
  (Instr.makeSlice 197 (.int .i64 k) (.int .i64 k)).run Tryz.prog w=.ok (.slice (some ⟨w.heap.size,0,none⟩) k k) (w.alloc (.cells (List.replicate k (.slice none 0 0)).toArray 39)):=by
 obtain⟨i0,hi,hz0,hz1,hz2⟩:=info_parts info_strips
 have hr:=run_makeSlice (P:=Tryz.prog) w 197 39 i0 (.slice none 0 0) Tryz.underlying197 hi hz0 .i64 .i64 k k (by omega) (by omega) (by rw [hz1];simp;omega) (by rw [hz2];omega) (by omega)
 rw [Int.toNat_natCast,hz1,Nat.mul_one] at hr
 have he:madeCells (Value.slice none 0 0).cells k=(List.replicate k (Value.slice none 0 0)).toArray:=by
  unfold madeCells
  apply Array.ext'
  apply List.ext_getElem?
  intro j
  by_cases hj:j<k
  · simp [hj,Nat.mod_one,Value.cells]
  · simp [hj]
 rw [hr,he]
def sumN (rs:List Reg):Nat:=(rs.map manyF).sum
set_option maxRecDepth 100000 in
set_option maxHeartbeats 1000000 in
theorem join_p (b c:Nat)(rs:List Reg)(w:World)(hb:b<w.heap.size)(hl:rs.length<=1000)(hmb:∀ r∈rs,manyF r<=784)
  (hat:∀ (j:Nat) r,rs[j]?=some r->∃ v,w.cell? ⟨b,j,none⟩=some v/\FRecs (b+1) w v (manyF r) (svals r)) :
  Calls Tryz.prog 202 #[.slice (some ⟨b,0,none⟩) rs.length c] w fun e w'=>∃ v,e=.returned v/\FRecs w.heap.size w' v (sumN rs) (rs.flatMap svals)/\Ext w w':=by
 have hsum:=fun j=>sum_le manyF 784 (rs.take j) fun r hr=>hmb r (List.mem_of_mem_take hr)
 go_enter Tryz.func202,Tryz.ntmps202
 go_wp2_with fail
 go_loopw [3,8] (fun v i wr=>∃ j:Nat,i=.int .i64 j/\j<=rs.length/\wr.ownsRow w.heap.size 42 3 v (sumN (rs.take j)) ((rs.take j).flatMap svals)/\Ext w wr) (fun _ i _=>rs.length-(intOf i).toNat)
 case atStart=>exact⟨0,rfl,by omega,World.ownsRow_nil _ _ _ _,Ext.refl _⟩
 case round =>
  obtain⟨j,rfl,hj,hown,hX⟩:=hrel
  by_cases hlt:j<rs.length
  · obtain⟨r,hr⟩:∃ r,rs[j]?=some r:=⟨_,List.getElem?_eq_getElem hlt⟩
    obtain⟨v,hv,hf⟩:=hat j r hr
    have hv2:=(hX.cell (p:=⟨b,j,none⟩) hb).trans hv
    have hf2:=hf.ext hX
    have hsl:=svals_len r
    have hso:=svals_one r
    have hmr:=hmb r (List.mem_of_getElem? hr)
    have hsj:=hsum j
    have htk:(rs.take j).length<=1000:=by rw [List.length_take];omega
    have hs1:sumN (rs.take (j+1))=sumN (rs.take j)+manyF r:=sum_snoc manyF rs j r hr
    have hs2:=flat_snoc svals rs j r hr
    have hsn:sumN (rs.take j)<=784000:=by unfold sumN;omega
    have hH:=Lib.hid (And.intro hs1 hs2)
    clear hs1 hs2 hv hf hat hsum hsj hmb hr
    obtain⟨A,c2,rfl,h1,h2,h3,h4,h5⟩:=hf2
    generalize hm:manyF r=m at *
    generalize hsv:svals r=sv at *
    generalize hsj:sumN (rs.take j)=sj at *
    clear hm hsv hsj
    cases A with
    | none =>
      obtain rfl:=h3 rfl
      obtain rfl:m=0:=by omega
      obtain rfl:sv=[]:=List.length_eq_zero_iff.1 (by omega)
      have hownh:=Lib.hid hown
      clear hown h1 h2 h3 h4 h5 hsl hso
      go_wp2_with (at_builtin;refine append_none info_strip Tryz.underlying39 rfl _ _ rfl w.heap.size _ sj _ hownh.out rfl rfl ?_)
      refine⟨⟨j+1,by go_num,by omega,?_,hX⟩,?_⟩
      · rw [hH.out.1,hH.out.2,List.append_nil]
        exact hownh.out
      · simp [intOf];omega
    | some ad =>
      obtain⟨g,rfl,k1,k2⟩:=h4 ad rfl
      have hc:=h5 g rfl
      have hAll:=Lib.hid (And.intro hown (And.intro hc (And.intro hsl hso)))
      clear hown h3 h4 h5 hc hsl hso
      go_wp2_with (at_builtin;refine append_recs info_strip Tryz.underlying39 rfl (by decide) (by decide) rfl _ _ rfl _ sj _ sv ⟨g,0,none⟩ m c2 hX hAll.out.1 rfl rfl (by have:=hAll.out.2.2.1;omega) (fun i u hu=>by rw [Addr.add_lit,Nat.zero_add];exact hAll.out.2.1 i u hu) hAll.out.2.2.2 (by omega) (by omega) ?_;intro v' w' ho hx';replace ho:=Lib.hid ho)
      refine⟨⟨j+1,by go_num,by omega,?_,hx'⟩,?_⟩
      · rw [hH.out.1,hH.out.2]
        exact ho.out
      · simp [intOf];omega
  · obtain rfl:j=rs.length:=by omega
    rw [List.take_length] at hown
    have hf:=Lib.hid (FRecs.of_row hown)
    clear hown hsum hat
    go_wp2_with fail
    go_ret
    exact⟨_,rfl,hf.out,hX⟩
set_option maxRecDepth 100000 in
set_option maxHeartbeats 1000000 in
theorem pstrips_p (va:Value)(rs:List Reg)(w:World)(h:RegsV w va rs)(hk:∀ r∈rs,(r.kind=1∨r.kind=6∨r.kind=7)/\1<=r.n/\r.n<=8)(hl:rs.length<=1000) :
  Calls Tryz.prog 201 #[va] w fun e w'=>∃ v,e=.returned v/\FRecs w.heap.size w' v (sumN rs) (rs.flatMap svals)/\Ext w w':=by
 obtain⟨A,c,rfl,hc1,hc2,hV⟩:=h
 have hmk:=fun w=>make_lists rs.length (by omega) w
 have hmb:∀ r∈rs,manyF r<=784:=fun r hr=>manyF_bd r (hk r hr).2
 have hB0:=Blk.new w (.cells (List.replicate rs.length (.slice none 0 0)).toArray 39)
 have hX0:=(Ext.refl w).alloc (.cells (List.replicate rs.length (.slice none 0 0)).toArray 39)
 have hlen0:(List.replicate rs.length (Value.slice none 0 0)).toArray.size=rs.length:=by simp
 generalize hcs0:(List.replicate rs.length (Value.slice none 0 0)).toArray=cs0 at *
 clear hcs0
 go_enter Tryz.func201,Tryz.ntmps201
 go_wp2_with fail
 go_loopw [11] (fun i wr=>∃ j:Nat,i=.int .i64 j/\j<=rs.length/\Ext w wr/\∃ cs,Blk wr w.heap.size (.cells cs 39)/\cs.size=rs.length/\∀ (k:Nat) r,k<j->rs[k]?=some r->∃ v,cs[k]?=some v/\FRecs (w.heap.size+1) wr v (manyF r) (svals r)) (fun i _=>rs.length-(intOf i).toNat)
 case atStart=>exact⟨0,rfl,by omega,hX0,cs0,hB0,hlen0,fun k r hk=>absurd hk (Nat.not_lt_zero _)⟩
 case round =>
  obtain⟨j,rfl,hj,hX,cs,hB,hsz,hall⟩:=hrel
  by_cases hlt:j<rs.length
  · obtain⟨r,hr⟩:∃ r,rs[j]?=some r:=⟨_,List.getElem?_eq_getElem hlt⟩
    obtain⟨b,rfl,hb,hrc⟩:=reg_at hV hr
    have hkr:=hk r (List.mem_of_getElem? hr)
    have hS:=fun w=>rstripsv_p r w hkr.1 hkr.2
    obtain⟨a0,a1,a2,a3,a4,a5,a6⟩:=hrc
    have e0:=(hX.cell (p:=⟨b,j*7,none⟩) hb).trans a0
    have e1:=(hX.cell (p:=⟨b,j*7+1,none⟩) hb).trans a1
    have e2:=(hX.cell (p:=⟨b,j*7+2,none⟩) hb).trans a2
    have e3:=(hX.cell (p:=⟨b,j*7+3,none⟩) hb).trans a3
    have e4:=(hX.cell (p:=⟨b,j*7+4,none⟩) hb).trans a4
    have e5:=(hX.cell (p:=⟨b,j*7+5,none⟩) hb).trans a5
    have e6:=(hX.cell (p:=⟨b,j*7+6,none⟩) hb).trans a6
    have hH:=Lib.hid (And.intro hall (And.intro hr (And.intro hV hk)))
    unfold encR at hS
    have x1:=(Ext.refl wr).alloc (.cells #[.int .i64 r.kind,.int .i64 r.base,.int .i64 r.loc,.int .i64 r.n,.int .i64 r.wr,.int .i64 r.rd,.int .i64 r.top] 81)
    have hszw:=hB.lt
    clear hall hr a0 a1 a2 a3 a4 a5 a6 hk hkr
    go_wp2_with fail
    refine (hS _).mono ?_
    rintro e w2 ⟨v,rfl,hf,hx2⟩
    obtain⟨A0,c0,rfl⟩:∃ A0 c0,v=.slice A0 (manyF r) c0:=by obtain⟨A,c,e,_⟩:=hf;exact⟨A,c,e⟩
    have hx:=x1.trans hx2
    have hB2:=hB.ext hx
    have hX2:=hX.trans hx
    have hf2:=Lib.hid (hf.less (B':=w.heap.size+1) (by simp;omega))
    have f2:=frozen_of_heap hB2 j
    have c2:=hB2.cells j
    clear hx2 x1 e0 e1 e2 e3 e4 e5 e6 hf hS hB
    go_wp2_with fail
    obtain⟨hall,hr,-,-⟩:=hH.out
    refine⟨⟨j+1,by go_num,by omega,hX2.setCell (p:=⟨w.heap.size,j,none⟩) (Nat.le_refl _) _,_,heap_setCell hB2 _,by simpa using hsz,?_⟩,?_⟩
    · intro k q hkj hq
      by_cases hkk:k=j
      · subst hkk
        obtain rfl:r=q:=by rw [hr] at hq;simpa using hq
        exact⟨_,by simp [hsz,hlt],hf2.out.setCell (by omega)⟩
      · obtain⟨v',h1,h2⟩:=hall k q (by omega) hq
        refine⟨v',?_,(h2.ext hx).setCell (by omega)⟩
        rw [Array.getElem?_setIfInBounds_ne (by omega)]
        exact h1
    · simp [intOf];omega
  · obtain rfl:j=rs.length:=by omega
    have hJ:=join_p w.heap.size rs.length rs wr hB.lt hl hmb fun k r hk=>by
     obtain⟨v,h1,h2⟩:=hall k r (List.getElem?_eq_some_iff.1 hk).1 hk
     exact⟨v,by rw [hB.cells k];exact h1,h2⟩
    clear hall hV hk hmb
    go_wp2_with fail
    refine hJ.mono ?_
    rintro e w2 ⟨v,rfl,hf,hx⟩
    have hS:=Lib.hid (And.intro (hf.less hX.size) (hX.trans hx))
    clear hf hx hJ
    go_wp2_with fail
    go_ret
    exact⟨_,rfl,hS.out.1,hS.out.2⟩
end Go.Proofs.YtchahoiainbcaaaGreatDoor
namespace Kv
open Ieee
abbrev D:Format:=Ieee.double
def Num (x:Nat) (v:Int):Prop:=∃ s m p,D.read x=.number s m p/\-1074<=p/\m<9007199254740992/\signed s m (p+1074).toNat=v
def DNum (d:Datum) (v:Int):Prop:=∃ s m p,d=.number s m p/\-1074<=p/\m<9007199254740992/\signed s m (p+1074).toNat=v
theorem Num.d {x:Nat}{v:Int}(h:Num x v):DNum (D.read x) v:=h
end Kv
namespace Go.Proofs
open Go.Shelf
def Tryz.lays156_ren:Go.Shelf.Ren:=⟨fun | 156=>25 | 165=>49 | 166=>27 | 169=>29 | 240=>50 | 241=>72 | 276=>73 | 277=>110 | n=>n,fun | 31=>32 | 9=>9 | 3=>3 | 4=>4 | 0=>0 | 20=>20 | 72=>60 | 76=>63 | 70=>57 | 37=>58 | 75=>62 | 127=>83 | 164=>115 | 5=>5 | 80=>66 | n=>n,fun | n=>n⟩
theorem Tryz.lays156:Go.Proofs.Lays.n156 Tryz.prog Tryz.lays156_ren:={
 mixed:=by kernel_rfl
 f156:=Tryz.func25.trans (congrArg some (by kernel_rfl))
 f165:=Tryz.func49.trans (congrArg some (by kernel_rfl))
 f166:=Tryz.func27.trans (congrArg some (by kernel_rfl))
 f169:=Tryz.func29.trans (congrArg some (by kernel_rfl))
 f240:=Tryz.func50.trans (congrArg some (by kernel_rfl))
 f241:=Tryz.func72.trans (congrArg some (by kernel_rfl))
 f276:=Tryz.func73.trans (congrArg some (by kernel_rfl))
 f277:=Tryz.func110.trans (congrArg some (by kernel_rfl))
 t0:=Tryz.underlying0
 a0:=Tryz.isAgg0
 z0:=Tryz.sizeOf0
 v0:=Tryz.zeroValue0
 t3:=Tryz.underlying3
 a3:=Tryz.isAgg3
 z3:=Tryz.sizeOf3
 v3:=Tryz.zeroValue3
 t4:=Tryz.underlying4
 a4:=Tryz.isAgg4
 z4:=Tryz.sizeOf4
 v4:=Tryz.zeroValue4
 t9:=Tryz.underlying9
 a9:=Tryz.isAgg9
 z9:=Tryz.sizeOf9
 v9:=Tryz.zeroValue9
 t20:=Tryz.underlying20
 a20:=Tryz.isAgg20
 z20:=Tryz.sizeOf20
 v20:=Tryz.zeroValue20
 t31:=Tryz.underlying32
 a31:=Tryz.isAgg32
 z31:=Tryz.sizeOf32
 v31:=Tryz.zeroValue32
 t37:=Tryz.underlying58
 a37:=Tryz.isAgg58
 z37:=Tryz.sizeOf58
 v37:=Tryz.zeroValue58
 t70:=Tryz.underlying57
 a70:=Tryz.isAgg57
 z70:=Tryz.sizeOf57
 v70:=Tryz.zeroValue57
 t72:=Tryz.underlying60
 a72:=Tryz.isAgg60
 z72:=Tryz.sizeOf60
 v72:=Tryz.zeroValue60
 t75:=Tryz.underlying62
 a75:=Tryz.isAgg62
 z75:=Tryz.sizeOf62
 v75:=Tryz.zeroValue62
 t76:=Tryz.underlying63
 a76:=Tryz.isAgg63
 z76:=Tryz.sizeOf63
 v76:=Tryz.zeroValue63
 t127:=Tryz.underlying83
 a127:=Tryz.isAgg83
 z127:=Tryz.sizeOf83
 v127:=Tryz.zeroValue83
 t164:=Tryz.underlying115
 a164:=Tryz.isAgg115
 z164:=Tryz.sizeOf115
 v164:=Tryz.zeroValue115 }
theorem Tryz.Builder_Extra_156:Builder.Extra Tryz.prog Tryz.lays156_ren:={
 sizeBuilder:=by kernel_rfl
 liesBuilder:=by kernel_rfl
 t5:=Tryz.underlying5
 a5:=Tryz.isAgg5
 z5:=Tryz.sizeOf5
 v5:=Tryz.zeroValue5
 infoByte:=by kernel_rfl
 cellsByte:=by kernel_rfl
 sizeByte:=by kernel_rfl
 neB5:=by decide }
open Go.RowKit in
theorem Tryz.strings_Join (bk o c:Nat)(xs:List ByteArray)(sep:ByteArray)(w:World)(hcells:∀ (j:Nat) x,xs[j]?=some x->w.cell? ⟨bk,o+j,none⟩=some (.string x))(hbk:bk<w.heap.size)(hN:xs.length<=140737488355328)(hcap:xs.length<=c)(hlen:(Lib.join (xs.map (·.data.toList)) sep.data.toList).length<=140737488355328) :
  Calls Tryz.prog 25 #[.slice (some ⟨bk,o,none⟩) xs.length c,.string sep] w fun e w'=>e=.returned (.string ⟨(Lib.join (xs.map (·.data.toList)) sep.data.toList).toArray⟩)/\Below w.heap.size w w':=Any.strings_Join Tryz.lays156 Tryz.Builder_Extra_156 bk o c xs sep w hcells hbk hN hcap hlen
def Tryz.lays129_ren:Go.Shelf.Ren:=⟨fun | 129=>46 | n=>n,fun | 53=>78 | 3=>3 | 4=>4 | 46=>112 | 5=>5 | 9=>9 | n=>n,fun | n=>n⟩
theorem Tryz.lays129:Go.Proofs.Lays.n129 Tryz.prog Tryz.lays129_ren:={
 mixed:=by kernel_rfl
 f129:=Tryz.func46.trans (congrArg some (by kernel_rfl))
 t3:=Tryz.underlying3
 a3:=Tryz.isAgg3
 z3:=Tryz.sizeOf3
 v3:=Tryz.zeroValue3
 t4:=Tryz.underlying4
 a4:=Tryz.isAgg4
 z4:=Tryz.sizeOf4
 v4:=Tryz.zeroValue4
 t5:=Tryz.underlying5
 a5:=Tryz.isAgg5
 z5:=Tryz.sizeOf5
 v5:=Tryz.zeroValue5
 t9:=Tryz.underlying9
 a9:=Tryz.isAgg9
 z9:=Tryz.sizeOf9
 v9:=Tryz.zeroValue9
 t46:=Tryz.underlying112
 a46:=Tryz.isAgg112
 z46:=Tryz.sizeOf112
 v46:=Tryz.zeroValue112
 t53:=Tryz.underlying78
 a53:=Tryz.isAgg78
 z53:=Tryz.sizeOf78
 v53:=Tryz.zeroValue78 }
theorem Tryz.bits_Len64 (x:Int)(w:World)(h0:0<=x)(h1:x<=18446744073709551615) :
  Calls Tryz.prog 46 #[.int .u64 x] w fun e w'=>e=.returned (.int .i64 (Lib.bitLen x.toNat))/\w'=w:=Any.bits_Len64 Tryz.lays129 x w h0 h1
def Tryz.laysM171_ren:Go.Shelf.Ren:=⟨fun | 171=>24 | 243=>48 | 246=>71 | 283=>106 | 284=>107 | 285=>108 | 286=>109 | 129=>46 | 317=>148 | 318=>149 | 319=>150 | 320=>151 | 337=>163 | 338=>164 | n=>n,fun | 3=>3 | 9=>9 | 2=>2 | 4=>4 | 171=>138 | 0=>0 | 53=>78 | 37=>58 | 5=>5 | 173=>140 | 212=>169 | 51=>170 | 20=>20 | 213=>171 | 46=>112 | 232=>180 | 233=>181 | n=>n,fun | 17=>0 | 18=>2 | 19=>3 | n=>n⟩
theorem Tryz.laysM171:Go.Proofs.LaysM.n171 Tryz.prog Tryz.laysM171_ren:={
 mixed:=by kernel_rfl
 f129:=Tryz.func46.trans (congrArg some (by kernel_rfl))
 f171:=Tryz.func24.trans (congrArg some (by kernel_rfl))
 f243:=Tryz.func48.trans (congrArg some (by kernel_rfl))
 f246:=Tryz.func71.trans (congrArg some (by kernel_rfl))
 f283:=Tryz.func106.trans (congrArg some (by kernel_rfl))
 f284:=Tryz.func107.trans (congrArg some (by kernel_rfl))
 f285:=Tryz.func108.trans (congrArg some (by kernel_rfl))
 f286:=Tryz.func109.trans (congrArg some (by kernel_rfl))
 f317:=Tryz.func148.trans (congrArg some (by kernel_rfl))
 f318:=Tryz.func149.trans (congrArg some (by kernel_rfl))
 f319:=Tryz.func150.trans (congrArg some (by kernel_rfl))
 f320:=Tryz.func151.trans (congrArg some (by kernel_rfl))
 f337:=Tryz.func163.trans (congrArg some (by kernel_rfl))
 f338:=Tryz.func164.trans (congrArg some (by kernel_rfl))
 t0:=Tryz.underlying0
 a0:=Tryz.isAgg0
 z0:=Tryz.sizeOf0
 v0:=Tryz.zeroValue0
 t2:=Tryz.underlying2
 a2:=Tryz.isAgg2
 z2:=Tryz.sizeOf2
 v2:=Tryz.zeroValue2
 t3:=Tryz.underlying3
 a3:=Tryz.isAgg3
 z3:=Tryz.sizeOf3
 v3:=Tryz.zeroValue3
 t4:=Tryz.underlying4
 a4:=Tryz.isAgg4
 z4:=Tryz.sizeOf4
 v4:=Tryz.zeroValue4
 t5:=Tryz.underlying5
 a5:=Tryz.isAgg5
 z5:=Tryz.sizeOf5
 v5:=Tryz.zeroValue5
 t9:=Tryz.underlying9
 a9:=Tryz.isAgg9
 z9:=Tryz.sizeOf9
 v9:=Tryz.zeroValue9
 t20:=Tryz.underlying20
 a20:=Tryz.isAgg20
 z20:=Tryz.sizeOf20
 v20:=Tryz.zeroValue20
 t37:=Tryz.underlying58
 a37:=Tryz.isAgg58
 z37:=Tryz.sizeOf58
 v37:=Tryz.zeroValue58
 t46:=Tryz.underlying112
 a46:=Tryz.isAgg112
 z46:=Tryz.sizeOf112
 v46:=Tryz.zeroValue112
 t51:=Tryz.underlying170
 a51:=Tryz.isAgg170
 z51:=Tryz.sizeOf170
 v51:=Tryz.zeroValue170
 t53:=Tryz.underlying78
 a53:=Tryz.isAgg78
 z53:=Tryz.sizeOf78
 v53:=Tryz.zeroValue78
 t171:=Tryz.underlying138
 a171:=Tryz.isAgg138
 z171:=Tryz.sizeOf138
 v171:=Tryz.zeroValue138
 t173:=Tryz.underlying140
 a173:=Tryz.isAgg140
 z173:=Tryz.sizeOf140
 v173:=Tryz.zeroValue140
 t212:=Tryz.underlying169
 a212:=Tryz.isAgg169
 z212:=Tryz.sizeOf169
 v212:=Tryz.zeroValue169
 t213:=Tryz.underlying171
 a213:=Tryz.isAgg171
 z213:=Tryz.sizeOf171
 t232:=Tryz.underlying180
 a232:=Tryz.isAgg180
 z232:=Tryz.sizeOf180
 v232:=Tryz.zeroValue180
 t233:=Tryz.underlying181
 a233:=Tryz.isAgg181
 z233:=Tryz.sizeOf181
 v233:=Tryz.zeroValue181
 g17:=by kernel_rfl
 g18:=by kernel_rfl
 g19:=by kernel_rfl
 i0:=by kernel_rfl
 i2:=by kernel_rfl
 i3:=by kernel_rfl
 i4:=by kernel_rfl
 i5:=by kernel_rfl
 i9:=by kernel_rfl
 i20:=by kernel_rfl
 i37:=by kernel_rfl
 i46:=by kernel_rfl
 i51:=by kernel_rfl
 i53:=by kernel_rfl
 i171:=by kernel_rfl
 i173:=by kernel_rfl
 i212:=by kernel_rfl
 i232:=by kernel_rfl
 i233:=by kernel_rfl
 m17:=by kernel_rfl
 m18:=by kernel_rfl
 m19:=by kernel_rfl }
open Go.RowKit Go.Sort Go.Lib in
theorem Tryz.strconv_Itoa (n:Int)(h0:-9223372036854775808<=n)(h1:n<=9223372036854775807)(w:World)(htab:Lib.TabIs Tryz.prog w "internal/strconv.uint64pow10" .u64 Lib.pow10Tab) :
  Calls Tryz.prog 24 #[.int .i64 n] w fun e w'=>e=.returned (.string ⟨(Lib.itoa n).toArray⟩)/\∃ k os,w'=grow (w.drewN k) os:=Any.strconv_Itoa Tryz.laysM171 n h0 h1 w htab
end Go.Proofs
namespace Go.Proofs.YtchahoiainbcaaaGreatDoor
open Go.RowKit Kv
def deBruijn64:List Int:=[0,1,56,2,57,49,28,3,61,58,42,50,38,29,17,4,62,47,59,36,45,43,51,22,53,39,33,30,24,18,12,5,63,55,48,27,60,41,37,16,46,35,44,21,52,32,23,11,54,26,40,15,34,20,31,10,25,14,19,9,13,8,7,6]
structure Tabs (w:World):Prop where
 pow10:Lib.TabIs Tryz.prog w "internal/strconv.uint64pow10" .u64 Lib.pow10Tab
 bruijn:Lib.TabIs Tryz.prog w "math/bits.deBruijn64tab" .u8 deBruijn64
theorem Tabs.ext {w w':World}(h:Tabs w)(hx:Ext w w'):Tabs w' :=
 ⟨Lib.tabBelow_of_tabIs h.pow10 _ hx,Lib.tabBelow_of_tabIs h.bruijn _ hx⟩
theorem w0:floatOfInt .f64 0=0:=by decide +kernel
theorem k4 (k:Int):(k.tmod 4+4).tmod 4=(((k % 4).toNat:Nat):Int)/\-4<k.tmod 4/\k.tmod 4<4:=by
 have h1:=Int.tmod_lt_of_pos k (show (0:Int)<4 from by omega)
 have h2:=Int.lt_tmod_of_pos k (show (0:Int)<4 from by omega)
 have h3:=Int.tmod_eq_emod_of_nonneg (a:=k.tmod 4+4) (b:=4) (by omega)
 have h4:=Int.mul_tdiv_add_tmod k 4
 refine⟨?_,h2,h1⟩
 rw [h3]
 omega
end Go.Proofs.YtchahoiainbcaaaGreatDoor
namespace Kv
def triN (d:Nat):Nat:=d*(d+1) / 2
theorem triN_succ (d:Nat):triN (d+1)=triN d+(d+1):=by
 unfold triN
 have:(d+1)*(d+1+1)=d*(d+1)+2*(d+1):=by grind
 rw [this]
 omega
theorem triN_mono {a b:Nat}(h:a<=b):triN a<=triN b:=by
 induction b with
 | zero=>rw [show a=0 from by omega];exact Nat.le_refl _
 | succ b ih =>
   by_cases hb:a=b+1
   · rw [hb];exact Nat.le_refl _
   · have:=ih (by omega)
     rw [triN_succ]
     omega
end Kv
namespace Go.Proofs.YtchahoiainbcaaaGreatDoor
open Go.RowKit Kv
theorem gsize_p (d:Nat)(h:d<=64)(w:World):Calls Tryz.prog 67 #[.int .i64 d] w fun e w'=>e=.returned (.int .i64 (triN d))/\w=w':=by
 have hm:d*(d+1)<=64*65:=Nat.mul_le_mul h (by omega)
 have e1:max 0 (min (d:Int) 64)=d:=by omega
 have e2:=IntWalk.i64_in ((d:Int)+1) (by omega)
 have e3:IntKind.i64.wrap ((d:Int)*((d:Int)+1))=((d*(d+1):Nat):Int):=by
  rw [IntWalk.i64_in _ (by have:(d:Int)*((d:Int)+1)=((d*(d+1):Nat):Int):=by simp
                           rw [this];omega)]
  simp
 have e4:IntKind.i64.wrap ((((d*(d+1):Nat):Int)) / 2)=(triN d:Int):=by
  unfold triN
  rw [IntWalk.i64_in _ (by omega)]
  omega
 clear hm
 generalize triN d=t at *
 generalize d*(d+1)=s at *
 go_enter Tryz.func67,Tryz.ntmps67
 go_wp2_with fail
 go_ret
 exact⟨rfl,rfl⟩
theorem RegsAt.ext {ix:List Nat}{p b:Nat}{w w':World}{l:List Reg}(h:RegsAt ix w p b l)(hx:Ext w w')(hp:p<w.heap.size):RegsAt ix w' p b l:=h.keep (B:=0) (Keep.of_ext hx hp (Nat.zero_le _))
def lenOf:Option Value->Nat
 | some (.slice _ n _)=>n
 | _=>0
def leftW (i j:Nat) (w:World) (p:Nat):Nat:=lenOf (w.cell? ⟨p,i,none⟩)-lenOf (w.cell? ⟨p,j,none⟩)
theorem row_slice {w:World}{B e size n:Nat}{v:Value}{xs:List Value}(h:w.ownsRow B e size v n xs):∃ A c,v=.slice A n c:=by
 rcases h.2 with⟨rfl,h0⟩ | ⟨g,cap,cur,rfl,_⟩
 · exact⟨none,0,by rw [h0]⟩
 · exact⟨_,_,rfl⟩
theorem Plays.left {B p:Nat}{w:World}{S:TS}(h:Plays B w p S):leftW 1 3 w p=S.left:=by
 obtain⟨_,vA,vL,vC,vN,L,h⟩:=h
 obtain⟨A,c,rfl,_⟩:=h.ans.slice
 obtain⟨C,d,rfl⟩:=row_slice h.rowC
 unfold leftW TS.left
 rw [cell_of_heap h.heap,cell_of_heap h.heap]
 rfl
theorem Plays.len {B p:Nat}{w:World}{S:TS}(h:Plays B w p S):S.acc.length<=S.ans.length:=h.1
end Go.Proofs.YtchahoiainbcaaaGreatDoor
namespace Kv
theorem Prog.Notes.keep {α:Type}{p:Prog α}{n:Nat}(h:p.Notes 0){S S1:TS}{a:Option α}(hr:p.run S=(a,S1))(hn:S.nts.length<=n):S1.nts.length<=n:=by
 have:=h.run S
 rw [hr] at this
 simp only at this
 omega
end Kv
namespace Go.Proofs.YtchahoiainbcaaaGreatDoor
open Go.RowKit Kv
theorem Plays.fresh {B p b:Nat}{w w':World}{S:TS}(h:Plays B w p S)(hx:Ext w w')(hb:w.heap.size<=b):¬ ownR [2,3,4] w' p b:=by
 obtain⟨_,_,_,_,_,_,h⟩:=h
 intro ho
 have:=(h.own ((ownR_same (Below.block hx p h.lt) b).1 ho)).2
 omega
end Go.Proofs.YtchahoiainbcaaaGreatDoor
namespace Kv
open Go
def Jumps (J:Nat->Act->World->Prop) (Q:Exit->Act->World->Prop):Exit->Act->World->Prop
 | .goto l,a,w=>J l a w
 | e,a,w=>Q e a w
section
variable {P:Program} {a:Act} {w:World} {J:Nat->Act->World->Prop} {Q:Exit->Act->World->Prop}
@[go_sem] theorem jumps_normal:Jumps J Q .normal a w=Q .normal a w:=rfl
@[go_sem] theorem jumps_exit (id:Nat):Jumps J Q (.exit id) a w=Q (.exit id) a w:=rfl
@[go_sem] theorem jumps_ret:Jumps J Q .ret a w=Q .ret a w:=rfl
@[go_sem] theorem jumps_panic (c:List PanicEntry):Jumps J Q (.panic c) a w=Q (.panic c) a w:=rfl
@[go_sem] theorem jumps_goto (l:Nat):Jumps J Q (.goto l) a w=J l a w:=rfl
end
end Kv
namespace Go.Proofs.YtchahoiainbcaaaGreatDoor
open Go.RowKit Kv
theorem levels_p (n:Int)(hn:n<=9223372036854775807)(w:World) :
  Calls Tryz.prog 21 #[.int .i64 n] w fun e w'=>e=.returned (.int .i64 (levels n))/\w=w':=by
 by_cases h1:n<=1
 · have H:=Lib.hid (levels_small n h1)
   go_enter Tryz.func21,Tryz.ntmps21
   go_wp2
   go_ret
   exact⟨ret_int (by rw [H.out];rfl),rfl⟩
 · have H:=Lib.hid (levels_bitLen n (by omega))
   rw [show (n-1).toNat=n.toNat-1 from by omega] at H
   go_enter Tryz.func21,Tryz.ntmps21
   go_wp2_with (go_at_call 46;refine (Tryz.bits_Len64 _ _ (by omega) (by omega)).mono ?_;rintro e w' ⟨rfl,rfl⟩)
   go_ret
   exact⟨ret_int (by rw [H.out]),rfl⟩
theorem digits_p (n:Int)(hn:-9223372036854775808<=n)(hn':n<=9223372036854775807)(w:World)(T:Tabs w) :
  Calls Tryz.prog 14 #[.int .i64 n] w fun e w'=>e=.returned (.string ⟨(digits n).toArray⟩)/\Ext w w':=by
 have ht:=Lib.hid T.pow10
 clear T
 go_enter Tryz.func14,Tryz.ntmps14
 go_wp2_with (go_at_call 24;refine (Tryz.strconv_Itoa _ hn hn' _ ht.out).mono ?_;rintro e w' ⟨rfl,k,os,rfl⟩)
 go_ret
 exact⟨rfl,(Ext.refl _).grow _ _⟩
end Go.Proofs.YtchahoiainbcaaaGreatDoor
namespace Kv
def nM (n:Int):Int:=min (max n 1) 8
theorem nM_id {n:Int}(h:1<=n)(h':n<=8):nM n=n:=by unfold nM;omega
end Kv
namespace Go.Proofs.YtchahoiainbcaaaGreatDoor
open Go.RowKit Kv
theorem wants_new (w:World)(l:List Want)(hl:l.length<=1000000):WantsAt (w.alloc (.cells (l.flatMap wantVals).toArray 85)) (.slice (some ⟨w.heap.size,0,none⟩) l.length l.length) l:=by
 refine⟨_,_,rfl,Nat.le_refl _,by omega,fun _=>⟨w.heap.size,rfl,by simp,fun i u hu=>?_⟩⟩
 exact (cell_of_heap (heap_alloc_new w (.cells (l.flatMap wantVals).toArray 85)) i).trans (by simpa using hu)
@[go_sem] theorem build_want (a b:Int) (w:World):(Instr.build 85 #[(0,.int .i64 a),(1,.int .i64 b)]).run Tryz.prog w=.ok (.agg #[.int .i64 a,.int .i64 b]) w:=run_build w 85 _ _ (by kernel_rfl)
@[go_sem] theorem build_regn (a:Int) (w:World):(Instr.build 81 #[(3,.int .i64 a)]).run Tryz.prog w=.ok (.agg #[.int .i64 0,.int .i64 0,.int .i64 0,.int .i64 a,.int .i64 0,.int .i64 0,.int .i64 0]) w:=run_build w 81 _ _ (by kernel_rfl)
theorem swants_p (n:Int)(w:World):Calls Tryz.prog 99 #[.int .i64 n] w fun e w'=>∃ v,e=.returned v/\WantsAt w' v [⟨-1,nM n⟩,⟨-1,1⟩]/\Ext w w':=by
 have hw:=Lib.hid (wants_new w [⟨-1,nM n⟩,⟨-1,1⟩] (by simp))
 have he:Hid (min (max n 1) 8=nM n):=rfl
 go_enter Tryz.func99,Tryz.ntmps99
 go_wp2_with fail
 go_ret
 exact⟨_,rfl,hw.out,(Ext.refl w).alloc _⟩
end Go.Proofs.YtchahoiainbcaaaGreatDoor
namespace Kv
end Kv
namespace Go.Proofs.YtchahoiainbcaaaGreatDoor
open Go.RowKit Kv
theorem RegsAt.three {ix:List Nat}{p b:Nat}{w:World}{x y z:Reg}(h:RegsAt ix w p b [x,y,z]):RegCells w b 0 x/\RegCells w b 7 y/\RegCells w b 14 z :=
 ⟨⟨h.cells 0 _ rfl,h.cells 1 _ rfl,h.cells 2 _ rfl,h.cells 3 _ rfl,h.cells 4 _ rfl,h.cells 5 _ rfl,h.cells 6 _ rfl⟩,⟨h.cells 7 _ rfl,h.cells 8 _ rfl,h.cells 9 _ rfl,h.cells 10 _ rfl,h.cells 11 _ rfl,h.cells 12 _ rfl,h.cells 13 _ rfl⟩,
  ⟨h.cells 14 _ rfl,h.cells 15 _ rfl,h.cells 16 _ rfl,h.cells 17 _ rfl,h.cells 18 _ rfl,h.cells 19 _ rfl,h.cells 20 _ rfl⟩⟩
theorem awants_p (w:World):Calls Tryz.prog 93 #[] w fun e w'=>∃ v,e=.returned v/\WantsAt w' v (List.replicate 3 ⟨-1,1⟩)/\Ext w w':=by
 go_enter Tryz.func93,Tryz.ntmps93
 go_wp2_with fail
 go_loopw [1,2] (fun v i wr=>∃ j:Nat,i=.int .i64 j/\j<=3/\wr.ownsRow w.heap.size 85 2 v j ((List.replicate j (⟨-1,1⟩:Want)).flatMap wantVals)/\Ext w wr) (fun _ i _=>3-(intOf i).toNat)
 case atStart=>exact⟨0,rfl,by omega,World.ownsRow_nil _ _ _ _,Ext.refl _⟩
 case round =>
  obtain⟨j,rfl,hj,hown,hE⟩:=hrel
  by_cases hl:j<3
  · go_wp2_with (at_builtin;refine append_rec info_want Tryz.underlying75 rfl (by decide) (by decide) rfl _ _ rfl _ j _ [.int .i64 (-1),.int .i64 1] hE hown rfl rfl rfl (by simp [Value.oneCell']) (by omega) ?_)
    intro v' w' ho hx _
    have hoh:=Lib.hid ho
    clear hown ho
    go_wp2_with fail
    refine⟨⟨j+1,by go_num,by omega,?_,hx⟩,?_⟩
    · rw [List.replicate_succ',List.flatMap_append];exact hoh.out
    · simp [intOf];omega
  · obtain rfl:j=3:=by omega
    have hownh:=Lib.hid hown
    clear hown
    go_wp2_with fail
    go_ret
    exact⟨_,rfl,Recs.of_row hownh.out,hE⟩
structure Near (W:World) (b n:Nat) (t:TypeId) (w:World):Prop where
 os:w.os=W.os
 tape:w.tape=W.tape
 output:w.output=W.output
 size:W.heap.size<=w.heap.size
 rest:∀ k,k<W.heap.size->k≠b->w.heap[k]?=W.heap[k]?
 blk:∃ cs,w.heap[b]?=some (.cells cs t (0,0))/\cs.size=n
section
variable {W w w':World} {b n:Nat} {t:TypeId}
theorem Near.new {cs:Array Value}(h:W.heap[b]?=some (.cells cs t (0,0)))(hn:cs.size=n):Near W b n t W:=⟨rfl,rfl,rfl,Nat.le_refl _,fun _ _ _=>rfl,cs,h,hn⟩
theorem Near.ext (h:Near W b n t w)(hx:Ext w w'):Near W b n t w':=by
 obtain⟨cs,h1,h2⟩:=h.blk
 exact⟨hx.os.trans h.os,hx.tape.trans h.tape,hx.output.trans h.output,Nat.le_trans h.size hx.size,fun k hk hb=>(Below.block hx k (Nat.lt_of_lt_of_le hk h.size)).trans (h.rest k hk hb),cs,(Below.block hx b (Array.getElem?_eq_some_iff.1 h1).1).trans h1,h2⟩
theorem Near.drew (h:Near W b n t w):Near W b n t w.drew:=h.ext (Ext.refl w).drew
theorem Near.set (h:Near W b n t w)(i:Nat)(u:Value):Near W b n t (w.setCell ⟨b,i,none⟩ u):=by
 obtain⟨cs,h1,h2⟩:=h.blk
 refine⟨h.os,h.tape,h.output,by have:=h.size;simpa using this,fun k hk hb=>(heap_setCell_ne _ _ hb).trans (h.rest k hk hb),_,heap_setCell h1 u,by simpa using h2⟩
theorem Near.cell (h:Near W b n t w){k i:Nat}(hk:k<W.heap.size)(hb:k≠b):w.cell? ⟨k,i,none⟩=W.cell? ⟨k,i,none⟩:=World.cell?_of_block (w:=W) (a:=⟨k,i,none⟩) (h.rest k hk hb)
theorem Near.frozen (h:Near W b n t w)(i:Nat):w.frozen? ⟨b,i,none⟩=false:=by
 obtain⟨cs,h1,h2⟩:=h.blk
 exact frozen_of_heap h1 i
theorem Near.below {B:Nat}{w0:World}(h:Near W b n t w)(h0:Below B w0 W)(hb:B<=b)(hB:B<=W.heap.size):Below B w0 w :=
 h0.trans ⟨h.os,h.tape,h.output,h.size,fun k hk=>h.rest k (by omega) (by omega)⟩
end
@[go_sem] theorem as_stop (v:Value) (w:World):(Instr.typeAssert (.iface 176 v) 20 176 true).run Tryz.prog w=.ok (.tuple #[v,.bool true]) w:=by kernel_rfl
@[go_sem] theorem ne_mem (a:Addr) (w:World):(binOp .neq 86 (.pointer (some a)) (.pointer (some a))).run Tryz.prog w=.ok (.bool false) w:=by
 have hs:(Tryz.prog.info? 123).isSome=true:=by kernel_rfl
 obtain⟨j,hj⟩:=Option.isSome_iff_exists.1 hs
 have h:∀ d:Nat,(Op.equalIn (d+1) 86 (.pointer (some a)) (.pointer (some a))).run Tryz.prog w=.ok true w:=fun d=>by
  simp [Op.equalIn,run_underlying Tryz.underlying86,sizeOf,typeInfo,hj,run_sameAddr_same]
 simp only [binOp]
 simp [Op.equal,Op.maxDepth,h 9999]
section
variable {B p b bo:Nat} {w w' W:World} {S:TS} {st:Int} {vA vL vC vN vs:Value} {L:List Int}
end
structure SameW (w w':World):Prop where
 os:w'.os=w.os
 tape:w'.tape=w.tape
 output:w'.output=w.output
 size:w'.heap.size=w.heap.size
 blocks:∀ k:Nat,w'.heap[k]?=w.heap[k]?
theorem SameW.drew (w:World):SameW w w.drew:=⟨rfl,rfl,rfl,rfl,fun _=>rfl⟩
theorem SameW.refl (w:World):SameW w w:=⟨rfl,rfl,rfl,rfl,fun _=>rfl⟩
theorem SameW.ext {w w':World}(h:SameW w w'):Ext w w':=⟨h.os,h.tape,h.output,Nat.le_of_eq h.size.symm,fun k _=>h.blocks k⟩
theorem SameW.set {w w':World}{b:Nat}{cs:Array Value}{t:TypeId}(h:SameW w w')(g:w.heap[b]?=some (.cells cs t (0,0))){i:Nat}{v:Value}(hv:cs[i]?=some v):SameW w (w'.setCell ⟨b,i,none⟩ v):=by
 refine⟨h.os,h.tape,h.output,by rw [<- h.size];simp,fun k=>?_⟩
 by_cases e:k=b
 · subst e
   rw [heap_setCell ((h.blocks k).trans g) v,g]
   congr 2
   apply Array.ext_getElem?
   intro j
   rw [Array.getElem?_setIfInBounds]
   split
   · rename_i e
     subst e
     rw [hv]
     split
     · rfl
     · rename_i h2
       rw [Array.getElem?_eq_none (by omega)] at hv
       cases hv
   · rfl
 · rw [heap_setCell_ne _ _ e]
   exact h.blocks k
end Go.Proofs.YtchahoiainbcaaaGreatDoor
namespace Go.Proofs.YtchahoiainbcaaaGreatDoor
open Go.RowKit Go.WideShapes Go.ChangeShapes
section
variable {H:Type} {enc:TypeId × Value->H} {P:Program}
theorem post_of_below {f:Func}{s:ChangeSpec}{apart fresh handsOn again:Bool}{W W':World}{args:Array Value}{v:Value}{ds gs:List (DataW H)}{before pa pv:List MemPlace}
  (hW:DataW.Whole enc P f.params.toList s.vars apart W args.toList ds gs before)
  (hres:∀ (b:Nat) (sp:Nat->Bool) (hd:Bool),DataW.TrodAll enc P W' b sp hd f.resultTypes.toList (v.resultList f.resultTypes.size) (s.fn H (ds++gs)).results [])
  (hargs:∀ sp:Nat->Bool,(∀ p∈before,sp p.block=true)->DataW.TrodAll enc P W' 0 sp true f.params.toList args.toList (s.fn H (ds++gs)).args pa)
  (hvars:∀ sp:Nat->Bool,(∀ p∈before,sp p.block=true)->DataW.TrodVars enc P W' sp s.vars (s.fn H (ds++gs)).vars pv)
  (hps:before=pa++pv)(hb:Below W.heap.size W W')
  (hok:∀ (j:Nat) (t:TypeId) (r:Value),f.resultTypes[j]?=some t->(v.resultList f.resultTypes.size)[j]?=some r->Value.okWide P W' .any 0 t r) :
  s.post enc P f apart fresh handsOn again W args v W':=by
 have hlt:∀ p∈before,p.block<W.heap.size:=fun p hp=>hW.lt p hp
 have hold:∀ p∈before,(fun b=>decide (b<W.heap.size)) p.block=true:=fun p hp=>by simpa using hlt p hp
 refine⟨ds,gs,before,[],pa,pv,hW,hres _ _ _,hargs _ hold,hvars _ hold,World.keptBut_mono (fun p hp=>⟨hp,?_⟩) (hb.frame (·∈before)),fun _=>?_⟩
 · rw [hps,List.mem_append] at hp
   exact Or.inr hp
 · obtain⟨_,_,_,_,_,hz,hn⟩:=hW
   refine⟨hok,_,_,([]++pa)++pv,⟨[]++pa,pv,trodAll_append (hargs _ (fun _ _=>rfl)) (hres _ _ _),hvars _ (fun _ _=>rfl),rfl,?_,?_⟩,?_⟩
   · intro b off hp
     have hin:MemPlace.cell b off∈before:=by rw [hps];simpa using hp
     rw [hb.frozen (hlt _ hin)]
     exact hz b off hin
   · intro ha
     have:=hn ha
     rw [hps] at this
     simpa using this
   · intro p hp _
     rw [hps]
     simpa using hp
end
section
variable {H:Type} {enc:TypeId × Value->H} {P:Program}
theorem trodAll_stays (hl:laidOutB P=true):∀ (ts:List TypeId),(∀ t∈ts,P.readableRec t=true/\t<P.types.size)->∀ {W W':World} {sp:Nat->Bool} {vs:List Value} {ds:List (DataW H)} {ps:List MemPlace},
  DataW.TrodAll enc P W 0 (fun _=>true) true ts vs ds ps->(∀ p∈ps,W.sameAt W' p)->(∀ p∈ps,sp p.block=true)->DataW.TrodAll enc P W' 0 sp true ts vs ds ps
 | [],_,W,W',sp,vs,ds,ps,h,_,_=>by
   cases vs <;> cases ds <;> simp_all [DataW.TrodAll]
 | t :: ts,ht,W,W',sp,vs,ds,ps,h,hs,hsp=>by
   obtain⟨v,vs',d,ds',p,q,rfl,rfl,rfl,hp,hq⟩:=trodAll_cons h
   have h1:=ht t (by simp)
   refine trodAll_cons_mk (WideElems.Trod_stays hl h1.1 h1.2 hp (fun x hx=>hs x (by simp [hx])) (fun x hx=>hsp x (by simp [hx]))) ?_
   exact trodAll_stays hl ts (fun t' h'=>ht t' (by simp [h'])) hq (fun x hx=>hs x (by simp [hx])) (fun x hx=>hsp x (by simp [hx]))
theorem trodAll_length:∀ (ts:List TypeId) {W:World} {b:Nat} {sp:Nat->Bool} {held:Bool} {vs:List Value} {ds:List (DataW H)} {ps:List MemPlace},DataW.TrodAll enc P W b sp held ts vs ds ps->ds.length=ts.length
 | [],W,b,sp,held,vs,ds,ps,h=>by cases vs <;> cases ds <;> simp_all [DataW.TrodAll]
 | t :: ts,W,b,sp,held,vs,ds,ps,h=>by
   obtain⟨v,vs',d,ds',p,q,rfl,rfl,rfl,hp,hq⟩:=trodAll_cons h
   simp [trodAll_length ts hq]
theorem law_post {f:Func}{s:ChangeSpec}{W W':World}{args:Array Value}{ds gs:List (DataW H)}{before:List MemPlace}{tb:TypeId}
  (hl:laidOutB P=true)(hr:∀ t∈f.params.toList,P.readableRec t=true/\t<P.types.size)(hres:f.resultTypes=#[tb])(htb:P.underlying tb=some .bool)
  (hvars:s.vars=[])(hspec:∀ ds:List (DataW H),ds.length=f.params.size->s.fn H ds={ results:=[.lit (.bool true)],args:=ds })
  (hW:DataW.Whole enc P f.params.toList s.vars false W args.toList ds gs before)(hx:Ext W W') :
  s.post enc P f false true false false W args (.bool true) W':=by
 have hWlt:∀ p∈before,p.block<W.heap.size:=fun p hp=>hW.lt p hp
 obtain⟨p,q,hA,hV,hpq,hfz,hnd⟩:=hW
 rw [hvars] at hV
 have hgs:gs=[]/\q=[]:=trodVars_none hV
 obtain⟨rfl,rfl⟩:=hgs
 have hlen:=trodAll_length _ hA
 have hsp:=hspec ds (by rw [hlen];simp)
 have hb:before=p:=by rw [hpq];simp
 subst hb
 have hn:f.resultTypes.size=1:=by rw [hres];rfl
 have hlo:(Value.bool true).resultList f.resultTypes.size=[Value.bool true]:=by rw [hn];rfl
 have e0:ds++([]:List (DataW H))=ds:=List.append_nil _
 refine post_of_below (pa:=before) (pv:=[]) (ds:=ds) (gs:=[]) ⟨before,[],hA,by rw [hvars];exact hV,hpq,hfz,hnd⟩ ?_ ?_ ?_ hpq hx ?_
 · intro b sp hd
   rw [e0,hsp,hlo,hres]
   exact trodAll_cons_mk (shut_bool htb _) trodAll_mk0
 · intro sp hsp'
   rw [e0,hsp]
   exact trodAll_stays hl _ hr hA (fun p hp=>Below.same hx (hWlt p hp)) hsp'
 · intro sp _
   rw [e0,hsp,hvars]
   rfl
 · intro j t r ht hr'
   rw [hres] at ht
   rw [hlo] at hr'
   cases j with
   | zero =>
     obtain rfl:tb=t:=by simpa using ht
     obtain rfl:Value.bool true=r:=by simpa using hr'
     exact okWide_bool_mk htb _
   | succ j=>simp at ht
end
end Go.Proofs.YtchahoiainbcaaaGreatDoor
namespace Go.Proofs.YtchahoiainbcaaaGreatDoor
theorem own:ownKnob Tryz.prog.godebug=none:=by kernel_rfl
end Go.Proofs.YtchahoiainbcaaaGreatDoor
namespace Go.Proofs.YtchahoiainbcaaaGreatDoor
open Go.RowKit Kv
theorem kwants_p (w:World):Calls Tryz.prog 90 #[] w fun e w'=>∃ v,e=.returned v/\WantsAt w' v (List.replicate 4 ⟨-1,1⟩)/\Ext w w':=by
 go_enter Tryz.func90,Tryz.ntmps90
 go_wp2_with fail
 go_loopw [1,2] (fun v i wr=>∃ j:Nat,i=.int .i64 j/\j<=4/\wr.ownsRow w.heap.size 85 2 v j ((List.replicate j (⟨-1,1⟩:Want)).flatMap wantVals)/\Ext w wr) (fun _ i _=>4-(intOf i).toNat)
 case atStart=>exact⟨0,rfl,by omega,World.ownsRow_nil _ _ _ _,Ext.refl _⟩
 case round =>
  obtain⟨j,rfl,hj,hown,hE⟩:=hrel
  by_cases hl:j<4
  · go_wp2_with (at_builtin;refine append_rec info_want Tryz.underlying75 rfl (by decide) (by decide) rfl _ _ rfl _ j _ [.int .i64 (-1),.int .i64 1] hE hown rfl rfl rfl (by simp [Value.oneCell']) (by omega) ?_)
    intro v' w' ho hx _
    have hoh:=Lib.hid ho
    clear hown ho
    go_wp2_with fail
    refine⟨⟨j+1,by go_num,by omega,?_,hx⟩,?_⟩
    · rw [List.replicate_succ',List.flatMap_append];exact hoh.out
    · simp [intOf];omega
  · obtain rfl:j=4:=by omega
    have hownh:=Lib.hid hown
    clear hown
    go_wp2_with fail
    go_ret
    exact⟨_,rfl,Recs.of_row hownh.out,hE⟩
end Go.Proofs.YtchahoiainbcaaaGreatDoor
namespace Kv
theorem lev_le {m:Nat}(h:m<=64):levels m<=6:=by
 have:∀ m:Nat,m<65->levels m<=6:=by decide +kernel
 exact this m (by omega)
theorem pow_le {k:Nat}(h:k<=6):1<=2 ^ k/\2 ^ k<=64:=by
 have:∀ k:Nat,k<7->1<=2 ^ k/\2 ^ k<=64:=by decide
 exact this k (by omega)
end Kv
namespace Go.Proofs.YtchahoiainbcaaaGreatDoor
open Go.RowKit Kv
def fnV (n:Nat):Value:=.func (.func n) #[] #[]
def eachK (kind:Int):Nat:=if kind=7 then 4 else 3
def nodeV (kind:Int):Value:=if kind=7 then .agg #[fnV 90,fnV 91,fnV 92] else .agg #[fnV 93,fnV 94,fnV 95]
set_option maxRecDepth 100000 in
theorem nodeOf_p (kind:Int)(w:World):Calls Tryz.prog 62 #[.int .i64 kind] w fun e w'=>e=.returned (nodeV kind)/\Ext w w':=by
 unfold nodeV
 by_cases h:kind=7
 · have d:(kind==7)=true:=by simpa using h
   rw [if_pos h]
   clear h
   go_enter Tryz.func62,Tryz.ntmps62
   go_wp2_with fail
   refine bodyPost_ret (v:=.agg #[fnV 90,fnV 91,fnV 92]) (by simp [results,Tryz.results62,go_sem,fnV]) rfl ?_
   exact⟨rfl,(Ext.refl w).alloc _⟩
 · have d:(kind==7)=false:=by simpa using h
   rw [if_neg h]
   clear h
   go_enter Tryz.func62,Tryz.ntmps62
   go_wp2_with fail
   refine bodyPost_ret (v:=.agg #[fnV 93,fnV 94,fnV 95]) (by simp [results,Tryz.results62,go_sem,fnV]) rfl ?_
   exact⟨rfl,(Ext.refl w).alloc _⟩
set_option maxRecDepth 100000 in
set_option maxHeartbeats 1000000 in
theorem twants_p7 (kind:Int)(m:Nat)(w:World)(h1:1<=m)(h2:m<=64)(hk:kind=7) :
  Calls Tryz.prog 40 #[.int .i64 kind,.int .i64 m] w fun e w'=>∃ v,e=.returned v/\WantsAt w' v (List.replicate (4*(2 ^ levels m-1)) ⟨-1,1⟩)/\Ext w w':=by
 have hlv:=fun w=>levels_p m (by omega) w
 have hle:=lev_le h2
 generalize levels m=L at *
 obtain⟨p1,p2⟩:=pow_le hle
 have hPi:(2:Int) ^ L=((2 ^ L:Nat):Int):=by rw [Int.natCast_pow];rfl
 generalize 2 ^ L=P at *
 have hsh:Op.shift .shl .i64 1 .i64 (L:Int)=pure (.int .i64 (P:Int)):=by
  rw [Go.shift_shl_i64 (x:=1) (y:=(L:Int)) (yk:=.i64) (by omega) (by omega),Int.one_mul,Int.toNat_natCast,hPi,IntWalk.i64_in _ (by omega)]
 clear hPi hle
 obtain⟨M,rfl⟩:∃ M,P=M+1:=⟨P-1,by omega⟩
 have hw:IntKind.i64.wrap (((M+1:Nat):Int)-1)=(M:Int):=by rw [IntWalk.i64_in _ (by omega)];omega
 rw [Nat.add_sub_cancel]
 generalize hQ:M+1=Q at *
 have hM:M<=63:=by omega
 have d1:decide ((m:Int)<1)=false:=by rw [decide_eq_false_iff_not];omega
 have d2:decide ((64:Int)<(m:Int))=false:=by rw [decide_eq_false_iff_not];omega
 have hn:nodeV kind=.agg #[.func (.func 90) #[] #[],.func (.func 91) #[] #[],.func (.func 92) #[] #[]]:=by unfold nodeV;rw [if_pos hk];rfl
 have hN:=fun w=>nodeOf_p kind w
 rw [hn] at hN
 have hfd:∀ w,(Instr.field 104 (.agg #[.func (.func 90) #[] #[],.func (.func 91) #[] #[],.func (.func 92) #[] #[]]) 0).run Tryz.prog w=.ok (.func (.func 90) #[] #[]) w:=fun w=>by kernel_rfl
 clear hn hk
 go_enter Tryz.func40,Tryz.ntmps40
 go_wp2_with fail
 refine (hlv _).mono ?_
 rintro e w' ⟨rfl,rfl⟩
 clear hlv
 go_wp2_with fail
 go_loopw [5,16] (fun v i wr=>∃ j:Nat,i=.int .i64 j/\j<=M/\wr.ownsRow w.heap.size 85 2 v (4*j) ((List.replicate (4*j) (⟨-1,1⟩:Want)).flatMap wantVals)/\Ext w wr) (fun _ i _=>M-(intOf i).toNat)
 case atStart=>exact⟨0,rfl,by omega,World.ownsRow_nil _ _ _ _,Ext.refl _⟩
 case round =>
  obtain⟨j,rfl,hj,hown,hX⟩:=hrel
  by_cases hl:j<M
  · go_wp2_with fail
    refine (hN _).mono ?_
    rintro e w2 ⟨rfl,hx2⟩
    replace hown:=row_ext hown hx2
    replace hX:=hX.trans hx2
    clear hx2
    go_wp2_with fail
    refine (kwants_p _).mono ?_
    rintro e w3 ⟨v2,rfl,hr2,hx3⟩
    replace hown:=row_ext hown hx3
    replace hX:=hX.trans hx3
    obtain⟨A,c,rfl,r1,r2,hV⟩:=hr2
    obtain⟨b,rfl,hb,hc⟩:=hV (by simp [wantVals,List.replicate])
    rw [List.length_replicate] at *
    clear hV hx3
    go_wp2_with (at_builtin;refine append_recs info_want Tryz.underlying75 rfl (by decide) (by decide) rfl _ _ rfl _ (4*j) _ ((List.replicate 4 (⟨-1,1⟩:Want)).flatMap wantVals) ⟨b,0,none⟩ 4 c hX hown rfl rfl rfl (fun i u hu=>by rw [Addr.add_lit,Nat.zero_add];exact hc i u hu) (fun u hu=>by simp [List.replicate,wantVals] at hu;rcases hu with rfl | rfl | rfl | rfl | rfl | rfl | rfl | rfl <;> rfl) (by omega) (by omega) ?_)
    intro v' w' ho hx'
    have hoh:Hid (w'.ownsRow w.heap.size 85 2 v' (4*(j+1)) ((List.replicate (4*(j+1)) (⟨-1,1⟩:Want)).flatMap wantVals)):=Lib.hid (by
     rw [Nat.mul_succ,<- List.replicate_append_replicate,List.flatMap_append];exact ho)
    clear hown ho hc
    go_wp2_with fail
    refine⟨⟨j+1,by go_num,by omega,hoh.out,hx'⟩,?_⟩
    simp [intOf];omega
  · obtain rfl:j=M:=by omega
    have hownh:=Lib.hid hown
    clear hown
    go_wp2_with fail
    go_ret
    exact⟨_,rfl,by have:=Recs.of_row hownh.out;unfold WantsAt;rw [List.length_replicate];exact this,hX⟩
set_option maxRecDepth 100000 in
set_option maxHeartbeats 1000000 in
theorem twants_p3 (kind:Int)(m:Nat)(w:World)(h1:1<=m)(h2:m<=64)(hk:kind≠7) :
  Calls Tryz.prog 40 #[.int .i64 kind,.int .i64 m] w fun e w'=>∃ v,e=.returned v/\WantsAt w' v (List.replicate (3*(2 ^ levels m-1)) ⟨-1,1⟩)/\Ext w w':=by
 have hlv:=fun w=>levels_p m (by omega) w
 have hle:=lev_le h2
 generalize levels m=L at *
 obtain⟨p1,p2⟩:=pow_le hle
 have hPi:(2:Int) ^ L=((2 ^ L:Nat):Int):=by rw [Int.natCast_pow];rfl
 generalize 2 ^ L=P at *
 have hsh:Op.shift .shl .i64 1 .i64 (L:Int)=pure (.int .i64 (P:Int)):=by
  rw [Go.shift_shl_i64 (x:=1) (y:=(L:Int)) (yk:=.i64) (by omega) (by omega),Int.one_mul,Int.toNat_natCast,hPi,IntWalk.i64_in _ (by omega)]
 clear hPi hle
 obtain⟨M,rfl⟩:∃ M,P=M+1:=⟨P-1,by omega⟩
 have hw:IntKind.i64.wrap (((M+1:Nat):Int)-1)=(M:Int):=by rw [IntWalk.i64_in _ (by omega)];omega
 rw [Nat.add_sub_cancel]
 generalize hQ:M+1=Q at *
 have hM:M<=63:=by omega
 have d1:decide ((m:Int)<1)=false:=by rw [decide_eq_false_iff_not];omega
 have d2:decide ((64:Int)<(m:Int))=false:=by rw [decide_eq_false_iff_not];omega
 have hn:nodeV kind=.agg #[.func (.func 93) #[] #[],.func (.func 94) #[] #[],.func (.func 95) #[] #[]]:=by unfold nodeV;rw [if_neg hk];rfl
 have hN:=fun w=>nodeOf_p kind w
 rw [hn] at hN
 have hfd:∀ w,(Instr.field 104 (.agg #[.func (.func 93) #[] #[],.func (.func 94) #[] #[],.func (.func 95) #[] #[]]) 0).run Tryz.prog w=.ok (.func (.func 93) #[] #[]) w:=fun w=>by kernel_rfl
 clear hn hk
 go_enter Tryz.func40,Tryz.ntmps40
 go_wp2_with fail
 refine (hlv _).mono ?_
 rintro e w' ⟨rfl,rfl⟩
 clear hlv
 go_wp2_with fail
 go_loopw [5,16] (fun v i wr=>∃ j:Nat,i=.int .i64 j/\j<=M/\wr.ownsRow w.heap.size 85 2 v (3*j) ((List.replicate (3*j) (⟨-1,1⟩:Want)).flatMap wantVals)/\Ext w wr) (fun _ i _=>M-(intOf i).toNat)
 case atStart=>exact⟨0,rfl,by omega,World.ownsRow_nil _ _ _ _,Ext.refl _⟩
 case round =>
  obtain⟨j,rfl,hj,hown,hX⟩:=hrel
  by_cases hl:j<M
  · go_wp2_with fail
    refine (hN _).mono ?_
    rintro e w2 ⟨rfl,hx2⟩
    replace hown:=row_ext hown hx2
    replace hX:=hX.trans hx2
    clear hx2
    go_wp2_with fail
    refine (awants_p _).mono ?_
    rintro e w3 ⟨v2,rfl,hr2,hx3⟩
    replace hown:=row_ext hown hx3
    replace hX:=hX.trans hx3
    obtain⟨A,c,rfl,r1,r2,hV⟩:=hr2
    obtain⟨b,rfl,hb,hc⟩:=hV (by simp [wantVals,List.replicate])
    rw [List.length_replicate] at *
    clear hV hx3
    go_wp2_with (at_builtin;refine append_recs info_want Tryz.underlying75 rfl (by decide) (by decide) rfl _ _ rfl _ (3*j) _ ((List.replicate 3 (⟨-1,1⟩:Want)).flatMap wantVals) ⟨b,0,none⟩ 3 c hX hown rfl rfl rfl (fun i u hu=>by rw [Addr.add_lit,Nat.zero_add];exact hc i u hu) (fun u hu=>by simp [List.replicate,wantVals] at hu;rcases hu with rfl | rfl | rfl | rfl | rfl | rfl | rfl | rfl <;> rfl) (by omega) (by omega) ?_)
    intro v' w' ho hx'
    have hoh:Hid (w'.ownsRow w.heap.size 85 2 v' (3*(j+1)) ((List.replicate (3*(j+1)) (⟨-1,1⟩:Want)).flatMap wantVals)):=Lib.hid (by
     rw [Nat.mul_succ,<- List.replicate_append_replicate,List.flatMap_append];exact ho)
    clear hown ho hc
    go_wp2_with fail
    refine⟨⟨j+1,by go_num,by omega,hoh.out,hx'⟩,?_⟩
    simp [intOf];omega
  · obtain rfl:j=M:=by omega
    have hownh:=Lib.hid hown
    clear hown
    go_wp2_with fail
    go_ret
    exact⟨_,rfl,by have:=Recs.of_row hownh.out;unfold WantsAt;rw [List.length_replicate];exact this,hX⟩
theorem twants_p (kind:Int)(m:Nat)(w:World)(h1:1<=m)(h2:m<=64) :
  Calls Tryz.prog 40 #[.int .i64 kind,.int .i64 m] w fun e w'=>∃ v,e=.returned v/\WantsAt w' v (List.replicate (eachK kind*(2 ^ levels m-1)) ⟨-1,1⟩)/\Ext w w':=by
 unfold eachK
 by_cases hk:kind=7
 · rw [if_pos hk];exact twants_p7 kind m w h1 h2 hk
 · rw [if_neg hk];exact twants_p3 kind m w h1 h2 hk
end Go.Proofs.YtchahoiainbcaaaGreatDoor
namespace Kv
end Kv
namespace Go.Proofs.YtchahoiainbcaaaGreatDoor
open Go.RowKit Kv
def RowH (ix:List Nat) (w:World) (p:Nat) (A:Option Addr) (l:List Int):Prop:=l≠[]->∃ g cur,A=some ⟨g,0,none⟩/\Held ix w p g (.cells cur 3)/\∀ (i:Nat) y,l[i]?=some y->cur[i]?=some (.int .i64 y)
theorem RowH.of_row {ix:List Nat}{w:World}{p base:Nat}{v:Value}{l:List Int}(h:IntRow w base v l)(hn:∀ b,base<=b->¬ ownR ix w p b):∃ A c,v=.slice A l.length c/\RowH ix w p A l:=by
 rcases h.2 with⟨rfl,h0⟩ | ⟨g,cap,cur,rfl,hb,hg,h1,h2,h3,h4⟩
 · exact⟨none,0,by rw [h0],fun hne=>absurd (List.length_eq_zero_iff.1 h0) hne⟩
 · refine⟨_,cap,rfl,fun _=>⟨g,cur,rfl,⟨hg,hn g hb⟩,fun i y hy=>?_⟩⟩
   have e:(cur.toList.take (l.length*1))[i]?=some (.int .i64 y):=by rw [h4,List.getElem?_map,hy];rfl
   rw [List.getElem?_take] at e
   split at e
   · rw [<- e];simp
   · cases e
end Go.Proofs.YtchahoiainbcaaaGreatDoor
namespace Kv
def filWant (N i:Nat):Want:=if i<N then ⟨i,N⟩ else ⟨-1,N⟩
def filWants (N:Nat):List Want:=(List.range (2*N-1)).map (filWant N)
def fastWant (N i:Nat):Want:=if i<2 then ⟨-1,N⟩ else ⟨i-2,1⟩
def fastWants (N:Nat):List Want:=(List.range (N+2)).map (fastWant N)
def bwWant (N i:Nat):Want:=if i=0 then ⟨-1,1⟩ else if i<=N then ⟨i-1,1⟩ else ⟨i-1-N,4*N⟩
def bwWants (N:Nat):List Want:=(List.range (2*N+1)).map (bwWant N)
end Kv
namespace Go.Proofs.YtchahoiainbcaaaGreatDoor
open Go.RowKit Kv
def wantRow (f:Nat->Want) (n:Nat):List Value:=((List.range n).map f).flatMap wantVals
theorem wants_succ (f:Nat->Want)(j:Nat):wantRow f (j+1)=wantRow f j++wantVals (f j):=by
 unfold wantRow
 rw [List.range_succ,List.map_append,List.flatMap_append]
 simp
theorem wants_row {w:World}{B:Nat}{v:Value}{n:Nat}{f:Nat->Want}(h:w.ownsRow B 85 2 v n (wantRow f n)):WantsAt w v ((List.range n).map f):=by
 have:=Recs.of_row h
 unfold WantsAt
 rw [List.length_map,List.length_range]
 exact this
set_option maxRecDepth 100000 in
theorem filwants_p (N:Nat)(w:World)(h1:1<=N)(h2:N<=8):Calls Tryz.prog 33 #[.int .i64 N] w fun e w'=>∃ v,e=.returned v/\WantsAt w' v (filWants N)/\Ext w w':=by
 have hmx:min (max (N:Int) 1) 8=N:=by omega
 go_enter Tryz.func33,Tryz.ntmps33
 go_wp2_with fail
 go_loopw [3,9] (fun v i wr=>∃ j:Nat,i=.int .i64 j/\j<=N/\wr.ownsRow w.heap.size 85 2 v j (wantRow (filWant N) j)/\Ext w wr) (fun _ i _=>N-(intOf i).toNat)
 case atStart=>exact⟨0,rfl,by omega,World.ownsRow_nil _ _ _ _,Ext.refl _⟩
 case round =>
  obtain⟨j,rfl,hj,hown,hE⟩:=hrel
  by_cases hl:j<N
  · go_wp2_with (at_builtin;refine append_rec info_want Tryz.underlying75 rfl (by decide) (by decide) rfl _ _ rfl _ j _ [.int .i64 j,.int .i64 N] hE hown rfl rfl rfl (by simp [Value.oneCell']) (by omega) ?_)
    intro v' w' ho hx _
    have hoh:=Lib.hid ho
    clear hown ho
    go_wp2_with fail
    refine⟨⟨j+1,by go_num,by omega,?_,hx⟩,?_⟩
    · rw [show (j+1)=j+1 from by omega,wants_succ]
      rw [show filWant N (j)=⟨(j:Int),(N:Int)⟩ from by unfold filWant;rw [if_pos hl]]
      exact hoh.out
    · simp [intOf];omega
  · obtain rfl:j=N:=by omega
    have hsub:=IntWalk.i64_in ((j:Int)-1) (by omega)
    have hE0:=Lib.hid hE
    have hown0:=Lib.hid hown
    clear hown hE
    go_wp2_with fail
    clear hmx hsub
    go_loopw [3,21] (fun v i wr=>∃ k:Nat,i=.int .i64 k/\k<=j-1/\wr.ownsRow w.heap.size 85 2 v (j+k) (wantRow (filWant j) (j+k))/\Ext w wr) (fun _ i _=>(j-1)-(intOf i).toNat)
    case atStart=>exact⟨0,rfl,by omega,hown0.out,hE0.out⟩
    case round =>
     clear hown0 hE0
     obtain⟨k,rfl,hk,hown,hE⟩:=hrel
     by_cases hl:k<j-1
     · have dl:decide ((k:Int)<(j:Int)-1)=true:=by rw [decide_eq_true_eq];omega
       go_wp2_with (at_builtin;refine append_rec info_want Tryz.underlying75 rfl (by decide) (by decide) rfl _ _ rfl _ (j+k) _ [.int .i64 (-1),.int .i64 j] hE hown rfl rfl rfl (by simp [Value.oneCell']) (by omega) ?_)
       intro v' w' ho hx _
       have hoh:=Lib.hid ho
       clear hown ho
       go_wp2_with fail
       refine⟨⟨k+1,by go_num,by omega,?_,hx⟩,?_⟩
       · rw [show j+(k+1)=(j+k)+1 from by omega,wants_succ]
         rw [show filWant j (j+k)=⟨-1,(j:Int)⟩ from by unfold filWant;rw [if_neg (by omega)]]
         exact hoh.out
       · simp [intOf];omega
     · have dl:decide ((k:Int)<(j:Int)-1)=false:=by rw [decide_eq_false_iff_not];omega
       obtain rfl:k=j-1:=by omega
       have hownh:=Lib.hid hown
       clear hown
       go_wp2_with fail
       go_ret
       refine⟨_,rfl,?_,hE⟩
       have:=hownh.out
       rw [show j+(j-1)=2*j-1 from by omega] at this
       exact wants_row this
set_option maxRecDepth 100000 in
theorem fastwants_p (N:Nat)(w:World)(h1:1<=N)(h2:N<=8):Calls Tryz.prog 36 #[.int .i64 N] w fun e w'=>∃ v,e=.returned v/\WantsAt w' v (fastWants N)/\Ext w w':=by
 have hmx:min (max (N:Int) 1) 8=N:=by omega
 have hr0:=Lib.hid (row_new w [.int .i64 (-1),.int .i64 N,.int .i64 (-1),.int .i64 N] 85 2 2 rfl (by omega))
 have hx0:=Lib.hid ((Ext.refl w).alloc (.cells [.int .i64 (-1),.int .i64 (N:Int),.int .i64 (-1),.int .i64 (N:Int)].toArray 85))
 go_enter Tryz.func36,Tryz.ntmps36
 go_wp2_with fail
 clear hmx
 go_loopw [3,14] (fun v i wr=>∃ j:Nat,i=.int .i64 j/\j<=N/\wr.ownsRow w.heap.size 85 2 v (j+2) (wantRow (fastWant N) (j+2))/\Ext w wr) (fun _ i _=>N-(intOf i).toNat)
 case atStart=>exact⟨0,rfl,by omega,hr0.out,hx0.out⟩
 case round =>
  clear hr0 hx0
  obtain⟨j,rfl,hj,hown,hE⟩:=hrel
  by_cases hl:j<N
  · go_wp2_with (at_builtin;refine append_rec info_want Tryz.underlying75 rfl (by decide) (by decide) rfl _ _ rfl _ (j+2) _ [.int .i64 j,.int .i64 1] hE hown rfl rfl rfl (by simp [Value.oneCell']) (by omega) ?_)
    intro v' w' ho hx _
    have hoh:=Lib.hid ho
    clear hown ho
    go_wp2_with fail
    refine⟨⟨j+1,by go_num,by omega,?_,hx⟩,?_⟩
    · rw [show ((j+1)+2)=(j+2)+1 from by omega,wants_succ]
      rw [show fastWant N ((j+2))=⟨(j:Int),1⟩ from by unfold fastWant;rw [if_neg (by omega)];congr 1;omega]
      exact hoh.out
    · simp [intOf];omega
  · obtain rfl:j=N:=by omega
    have hownh:=Lib.hid hown
    clear hown
    go_wp2_with fail
    go_ret
    exact⟨_,rfl,wants_row hownh.out,hE⟩
set_option maxRecDepth 100000 in
theorem bwwants_p (N:Nat)(w:World)(h1:1<=N)(h2:N<=8):Calls Tryz.prog 30 #[.int .i64 N] w fun e w'=>∃ v,e=.returned v/\WantsAt w' v (bwWants N)/\Ext w w':=by
 have hmx:min (max (N:Int) 1) 8=N:=by omega
 have h4:=IntWalk.i64_in (4*(N:Int)) (by omega)
 have hr0:=Lib.hid (row_new w [.int .i64 (-1),.int .i64 1] 85 2 1 rfl (by omega))
 have hx0:=Lib.hid ((Ext.refl w).alloc (.cells [.int .i64 (-1),.int .i64 1].toArray 85))
 go_enter Tryz.func30,Tryz.ntmps30
 go_wp2_with fail
 clear hmx
 go_loopw [3,12] (fun v i wr=>∃ j:Nat,i=.int .i64 j/\j<=N/\wr.ownsRow w.heap.size 85 2 v (j+1) (wantRow (bwWant N) (j+1))/\Ext w wr) (fun _ i _=>N-(intOf i).toNat)
 case atStart=>exact⟨0,rfl,by omega,hr0.out,hx0.out⟩
 case round =>
  clear hr0 hx0
  obtain⟨j,rfl,hj,hown,hE⟩:=hrel
  by_cases hl:j<N
  · go_wp2_with (at_builtin;refine append_rec info_want Tryz.underlying75 rfl (by decide) (by decide) rfl _ _ rfl _ (j+1) _ [.int .i64 j,.int .i64 1] hE hown rfl rfl rfl (by simp [Value.oneCell']) (by omega) ?_)
    intro v' w' ho hx _
    have hoh:=Lib.hid ho
    clear hown ho
    go_wp2_with fail
    refine⟨⟨j+1,by go_num,by omega,?_,hx⟩,?_⟩
    · rw [show ((j+1)+1)=(j+1)+1 from by omega,wants_succ]
      rw [show bwWant N ((j+1))=⟨(j:Int),1⟩ from by unfold bwWant;rw [if_neg (by omega),if_pos (by omega)];congr 1;omega]
      exact hoh.out
    · simp [intOf];omega
  · obtain rfl:j=N:=by omega
    have hE0:=Lib.hid hE
    have hown0:=Lib.hid hown
    clear hown hE
    go_wp2_with fail
    go_loopw [3,22] (fun v i wr=>∃ k:Nat,i=.int .i64 k/\k<=j/\wr.ownsRow w.heap.size 85 2 v (j+1+k) (wantRow (bwWant j) (j+1+k))/\Ext w wr) (fun _ i _=>j-(intOf i).toNat)
    case atStart=>exact⟨0,rfl,by omega,hown0.out,hE0.out⟩
    case round =>
     clear hown0 hE0
     obtain⟨k,rfl,hk,hown,hE⟩:=hrel
     by_cases hl:k<j
     · go_wp2_with (at_builtin;refine append_rec info_want Tryz.underlying75 rfl (by decide) (by decide) rfl _ _ rfl _ (j+1+k) _ [.int .i64 k,.int .i64 (4*(j:Int))] hE hown rfl rfl rfl (by simp [Value.oneCell']) (by omega) ?_)
       intro v' w' ho hx _
       have hoh:=Lib.hid ho
       clear hown ho
       go_wp2_with fail
       refine⟨⟨k+1,by go_num,by omega,?_,hx⟩,?_⟩
       · rw [show j+1+(k+1)=(j+1+k)+1 from by omega,wants_succ]
         rw [show bwWant j (j+1+k)=⟨(k:Int),4*(j:Int)⟩ from by unfold bwWant;rw [if_neg (by omega),if_neg (by omega)];congr 1;omega]
         exact hoh.out
       · simp [intOf];omega
     · obtain rfl:k=j:=by omega
       have hownh:=Lib.hid hown
       clear hown
       go_wp2_with fail
       go_ret
       refine⟨_,rfl,?_,hE⟩
       have:=hownh.out
       rw [show k+1+k=2*k+1 from by omega] at this
       exact wants_row this
end Go.Proofs.YtchahoiainbcaaaGreatDoor
namespace Kv
theorem filWants_len (N:Nat):(filWants N).length=2*N-1:=by simp [filWants]
theorem fastWants_len (N:Nat):(fastWants N).length=N+2:=by simp [fastWants]
theorem bwWants_len (N:Nat):(bwWants N).length=2*N+1:=by simp [bwWants]
end Kv
namespace Go.Proofs.YtchahoiainbcaaaGreatDoor
open Go.RowKit Kv
end Go.Proofs.YtchahoiainbcaaaGreatDoor
namespace Kv
def treeWants (E N:Nat):List Want:=List.replicate (E*(2 ^ levels N-1)) ⟨-1,1⟩
end Kv
namespace Go.Proofs.YtchahoiainbcaaaGreatDoor
open Go.RowKit Kv
theorem each_le (kind:Int):3<=eachK kind/\eachK kind<=4:=by unfold eachK;split <;> omega
end Go.Proofs.YtchahoiainbcaaaGreatDoor
namespace Kv
open Go Go.RowKit
def renW:Nat->Nat->List Want
 | 0,_=>[]
 | k+1,N=>renW k N++[⟨-1,(N:Int)⟩,⟨-1,1⟩]
theorem renW_len (N:Nat):∀ k:Nat,(renW k N).length=2*k
 | 0=>rfl
 | k+1=>by
   rw [renW,List.length_append,renW_len N k]
   rfl
def adWants (N:Nat):List Want:=renW (triN N) N++treeWants 3 (triN N)
theorem triN_le {N:Nat}(h1:1<=N)(h2:N<=8):1<=triN N/\triN N<=36:=by
 have a:=triN_mono h1
 have b:=triN_mono h2
 rw [show triN 1=1 from by decide] at a
 rw [show triN 8=36 from by decide] at b
 exact⟨a,b⟩
theorem adWants_len {N:Nat}:(adWants N).length=2*triN N+3*(2 ^ levels (triN N)-1):=by
 rw [adWants,List.length_append,renW_len,treeWants,List.length_replicate]
theorem adTree_le {N:Nat}(h1:1<=N)(h2:N<=8):3*(2 ^ levels (triN N:Nat)-1)<=189:=by
 obtain⟨_,q2⟩:=triN_le h1 h2
 obtain⟨p1,p2⟩:=pow_le (lev_le (m:=triN N) (by omega))
 omega
end Kv
namespace Go.Proofs.YtchahoiainbcaaaGreatDoor
open Go.RowKit Kv
theorem each6:eachK 6=3:=by unfold eachK;rw [if_neg (by decide)]
set_option maxRecDepth 100000 in
set_option maxHeartbeats 1000000 in
theorem renwants_p (N:Nat)(w:World)(h1:1<=N)(h2:N<=8) :
  Calls Tryz.prog 66 #[.int .i64 N] w fun e w'=>∃ v,e=.returned v/\w'.ownsRow w.heap.size 85 2 v (2*triN N) ((renW (triN N) N).flatMap wantVals)/\Ext w w':=by
 have e1:min (max (N:Int) 1) 8=N:=by omega
 have hS:=fun w=>gsize_p N (by omega) w
 have hW:=fun w=>swants_p N w
 rw [show nM (N:Int)=N from nM_id (by omega) (by omega)] at hW
 obtain⟨q1,q2⟩:=triN_le h1 h2
 generalize triN N=M at *
 go_enter Tryz.func66,Tryz.ntmps66
 go_wp2_with fail
 refine (hS _).mono ?_
 rintro e w' ⟨rfl,rfl⟩
 go_wp2_with fail
 go_loopw [3,9] (fun v i wr=>∃ j:Nat,i=.int .i64 j/\j<=M/\wr.ownsRow w.heap.size 85 2 v (2*j) ((renW j N).flatMap wantVals)/\Ext w wr) (fun _ i _=>M-(intOf i).toNat)
 case atStart=>exact⟨0,rfl,by omega,World.ownsRow_nil _ _ _ _,Ext.refl _⟩
 case round =>
  obtain⟨j,rfl,hj,hown,hX⟩:=hrel
  by_cases hl:j<M
  · go_wp2_with fail
    refine (hW _).mono ?_
    rintro e w3 ⟨v2,rfl,hr2,hx3⟩
    replace hown:=row_ext hown hx3
    replace hX:=hX.trans hx3
    obtain⟨A,c,rfl,r1,r2,hV⟩:=hr2
    obtain⟨b,rfl,hb,hc⟩:=hV (by simp [wantVals])
    clear hV hx3
    go_wp2_with (at_builtin;refine append_recs info_want Tryz.underlying75 rfl (by decide) (by decide) rfl _ _ rfl _ (2*j) _ (([⟨-1,(N:Int)⟩,⟨-1,1⟩]:List Want).flatMap wantVals) ⟨b,0,none⟩ 2 c hX hown rfl rfl rfl (fun i u hu=>by rw [Addr.add_lit,Nat.zero_add];exact hc i u hu) (fun u hu=>by simp [wantVals] at hu;rcases hu with rfl | rfl | rfl | rfl <;> rfl) (by omega) (by omega) ?_)
    intro v' w' ho hx'
    have hoh:Hid (w'.ownsRow w.heap.size 85 2 v' (2*(j+1)) ((renW (j+1) N).flatMap wantVals)):=Lib.hid (by
     rw [renW,List.flatMap_append];exact ho)
    clear hown ho hc
    go_wp2_with fail
    refine⟨⟨j+1,by go_num,by omega,hoh.out,hx'⟩,?_⟩
    simp [intOf];omega
  · obtain rfl:j=M:=by omega
    have hownh:=Lib.hid hown
    clear hown
    go_wp2_with fail
    go_ret
    exact⟨_,rfl,hownh.out,hX⟩
theorem tree_pos {m:Nat}(h1:2<=m)(h2:m<=36):3*(2 ^ levels (m:Nat)-1)≠0:=by
 have:∀ m:Nat,m<37->2<=m->3*(2 ^ levels (m:Nat)-1)≠0:=by decide +kernel
 exact this m (by omega) h1
set_option maxRecDepth 100000 in
theorem twants1_p (w:World):Calls Tryz.prog 40 #[.int .i64 6,.int .i64 1] w fun e w'=>e=.returned (.slice none 0 0)/\Ext w w':=by
 have hlv:=fun w=>levels_p (1:Nat) (by omega) w
 rw [show levels ((1:Nat):Int)=0 from by decide] at hlv
 have hsh:Op.shift .shl .i64 1 .i64 0=pure (.int .i64 1):=by
  rw [Go.shift_shl_i64 (x:=1) (y:=0) (yk:=.i64) (by omega) (by omega)]
  rfl
 go_enter Tryz.func40,Tryz.ntmps40
 go_wp2_with fail
 refine (hlv _).mono ?_
 rintro e w' ⟨rfl,rfl⟩
 clear hlv
 go_wp2_with fail
 go_loopw [5,16] (fun v i wr=>i=.int .i64 0/\v=.slice none 0 0/\Ext w wr) (fun _ _ _=>0)
 case atStart=>exact⟨rfl,rfl,Ext.refl _⟩
 case round =>
  obtain⟨rfl,rfl,hX⟩:=hrel
  go_wp2_with fail
  go_ret
  exact⟨rfl,hX⟩
set_option maxRecDepth 100000 in
set_option maxHeartbeats 1000000 in
theorem adwants_p (N:Nat)(w:World)(h1:1<=N)(h2:N<=8) :
  Calls Tryz.prog 43 #[.int .i64 N] w fun e w'=>∃ v,e=.returned v/\WantsAt w' v (adWants N)/\Ext w w':=by
 have e1:min (max (N:Int) 1) 8=N:=by omega
 have hS:=fun w=>gsize_p N (by omega) w
 obtain⟨q1,q2⟩:=triN_le h1 h2
 have ht:=adTree_le h1 h2
 have hW:=fun w=>twants_p 6 (triN N) w q1 (by omega)
 rw [each6] at hW
 have hR:=fun w=>renwants_p N w h1 h2
 have hlen:=adWants_len (N:=N)
 have had:adWants N=renW (triN N) N++List.replicate (3*(2 ^ levels (triN N:Nat)-1)) (⟨-1,1⟩:Want):=rfl
 have hLh:=Lib.hid (show triN N≠1->3*(2 ^ levels (triN N:Nat)-1)≠0 from fun h=>tree_pos (by omega) q2)
 have hL1:=Lib.hid (show triN N=1->3*(2 ^ levels (triN N:Nat)-1)=0 from fun h=>by rw [h];decide)
 generalize 3*(2 ^ levels (triN N:Nat)-1)=L at *
 generalize hl1:renW (triN N) N=l1 at *
 generalize triN N=M at *
 have hlenh:=Lib.hid hlen
 have hadh:=Lib.hid had
 clear hlen had
 go_enter Tryz.func43,Tryz.ntmps43
 go_wp2_with fail
 refine (hR _).mono ?_
 rintro e w2 ⟨v,rfl,hown,hX⟩
 go_wp2_with fail
 refine (hS _).mono ?_
 rintro e w' ⟨rfl,rfl⟩
 go_wp2_with fail
 by_cases hM1:M=1
 · subst hM1
   obtain rfl:L=0:=hL1.out rfl
   clear hW
   refine (twants1_p _).mono ?_
   rintro e w3 ⟨rfl,hx3⟩
   replace hown:=row_ext hown hx3
   replace hX:=hX.trans hx3
   clear hx3
   go_wp2_with (at_builtin;refine append_none info_want Tryz.underlying75 rfl _ _ rfl w.heap.size _ (2*1) _ hown rfl rfl ?_)
   have hf:Hid (WantsAt w3 v (adWants N)):=Lib.hid (by
    have:=Recs.of_row hown
    unfold WantsAt
    rw [hlenh.out,hadh.out]
    simpa using this)
   clear hown
   go_wp2_with fail
   go_ret
   exact⟨_,rfl,hf.out,hX⟩
 · refine (hW _).mono ?_
   rintro e w3 ⟨v2,rfl,hr2,hx3⟩
   replace hown:=row_ext hown hx3
   replace hX:=hX.trans hx3
   clear hx3
   obtain⟨A,c,rfl,r1,r2,hV⟩:=hr2
   rw [List.length_replicate] at *
   have hfl:((List.replicate L (⟨-1,1⟩:Want)).flatMap wantVals).length=L*2:=by
    rw [List.length_flatMap]
    simp [wantVals]
   obtain⟨b,rfl,hb,hc⟩:=hV (by
    have hL0:=hLh.out hM1
    cases L with
    | zero=>exact absurd rfl hL0
    | succ L=>simp [wantVals,List.replicate])
   clear hV
   go_wp2_with (at_builtin;refine append_recs info_want Tryz.underlying75 rfl (by decide) (by decide) rfl _ _ rfl _ (2*M) _ ((List.replicate L (⟨-1,1⟩:Want)).flatMap wantVals) ⟨b,0,none⟩ L c hX hown rfl rfl hfl (fun i u hu=>by rw [Addr.add_lit,Nat.zero_add];exact hc i u hu) (fun u hu=>by
    obtain⟨q,_,hq⟩:=List.mem_flatMap.1 hu
    simp [wantVals] at hq;rcases hq with rfl | rfl <;> rfl) (by omega) (by omega) ?_)
   intro v' w' ho hx'
   have hf:Hid (WantsAt w' v' (adWants N)):=Lib.hid (by
    have:=Recs.of_row ho
    unfold WantsAt
    rw [hlenh.out,hadh.out,List.flatMap_append]
    exact this)
   clear hown ho hc
   go_wp2_with fail
   go_ret
   exact⟨_,rfl,hf.out,hx'⟩
end Go.Proofs.YtchahoiainbcaaaGreatDoor
namespace Kv
inductive Prog.Sets {α:Type} (lo hi:Int):Prog α->Prop
 | ret (a:α):Sets lo hi (.ret a)
 | read (c:Int) {k:Int->Prog α}:(∀ x,Sets lo hi (k x))->Sets lo hi (.read c k)
 | write (c v:Int) {k:Unit->Prog α}:Sets lo hi (k ())->Sets lo hi (.write c v k)
 | get (i:Int) {k:Int->Prog α}:(∀ x,Sets lo hi (k x))->Sets lo hi (.get i k)
 | set (i v:Int) {k:Unit->Prog α}:lo<=i->i<hi->Sets lo hi (k ())->Sets lo hi (.set i v k)
 | note (m:Int) {k:Unit->Prog α}:Sets lo hi (k ())->Sets lo hi (.note m k)
theorem Prog.Sets.bind {α β:Type}{lo hi:Int}{p:Prog α}{f:α->Prog β}(h:p.Sets lo hi)(hf:∀ a,(f a).Sets lo hi):(p.bind f).Sets lo hi:=by
 induction h with
 | ret a=>exact hf a
 | read c _ ih=>exact .read c fun x=>ih x
 | write c v _ ih=>exact .write c v ih
 | get c _ ih=>exact .get c fun x=>ih x
 | set c v h1 h2 _ ih=>exact .set c v h1 h2 ih
 | note m _ ih=>exact .note m ih
theorem Prog.Sets.mono {α:Type}{lo hi lo' hi':Int}{p:Prog α}(h:p.Sets lo hi)(h1:lo'<=lo)(h2:hi<=hi'):p.Sets lo' hi':=by
 induction h with
 | ret a=>exact .ret a
 | read c _ ih=>exact .read c fun x=>ih x
 | write c v _ ih=>exact .write c v ih
 | get c _ ih=>exact .get c fun x=>ih x
 | set c v h3 h4 _ ih=>exact .set c v (by omega) (by omega) ih
 | note m _ ih=>exact .note m ih
theorem Prog.Sets.got {α:Type}{lo hi i:Int}{p:Prog α}(h:p.Sets lo hi)(hi2:i<lo∨hi<=i):∀ S:TS,(p.run S).2.got i=S.got i:=by
 induction h with
 | ret a=>intro S;rfl
 | read c _ ih =>
   intro S
   simp only [Prog.run]
   cases S.next with
   | none=>rfl
   | some v=>exact (ih v _).trans rfl
 | write c v _ ih =>
   intro S
   simp only [Prog.run]
   cases S.next with
   | none=>rfl
   | some _=>exact (ih _).trans rfl
 | get c _ ih=>intro S;exact ih _ _
 | set j v h1 h2 _ ih =>
   intro S
   refine (ih (S.upd j v)).trans ?_
   unfold TS.got TS.upd
   split
   · rfl
   · split
     · simp only
       rw [if_neg (by omega)]
     · rfl
 | note m _ ih=>intro S;exact (ih _).trans rfl
end Kv
namespace Go.Proofs.YtchahoiainbcaaaGreatDoor
open Go.RowKit Kv
theorem laid_all {l:List Want}{n mode b c:Int}{rs:List Reg}(h:layM l n mode b c=some rs):∀ r∈rs,r.ok/\r.n=n:=by
 intro r hr
 obtain⟨i,hi⟩:=List.getElem?_of_mem hr
 obtain⟨⟨_,_,n1,n2,_,_⟩,hw,_⟩:=layM_args h
 have hil:=(List.getElem?_eq_some_iff.1 hi).1
 rw [layM_len h] at hil
 obtain⟨r',hr',hL⟩:=layM_at h (List.getElem?_eq_getElem hil)
 obtain rfl:r=r':=by rw [hi] at hr';simpa using hr'
 obtain⟨h1,h2,_⟩:=hL.ok ⟨n1,n2⟩ (hw _ (List.getElem_mem hil))
 exact⟨h1,h2⟩
end Go.Proofs.YtchahoiainbcaaaGreatDoor
namespace Kv
def TameA (S:TS):Prop:=∀ v∈S.ans,0<=v/\v<=1048576
theorem TameA.run {α:Type}{S S':TS}{p:Prog α}{a:Option α}(h:TameA S)(hr:p.run S=(a,S')):TameA S':=by
 have:=Prog.run_ans p S
 rw [hr] at this
 unfold TameA
 rw [this]
 exact h
def sumC (l:List Reg):Int:=(l.map cellsM).sum
def sumL (l:List Reg):Int:=(l.map localsM).sum
theorem sumC_next {l:List Reg}{j:Nat}{r:Reg}(h:l[j]?=some r):sumC (l.take (j+1))=sumC (l.take j)+cellsM r:=by
 unfold sumC
 rw [List.take_add_one,h]
 simp [List.sum_append]
theorem sumL_next {l:List Reg}{j:Nat}{r:Reg}(h:l[j]?=some r):sumL (l.take (j+1))=sumL (l.take j)+localsM r:=by
 unfold sumL
 rw [List.take_add_one,h]
 simp [List.sum_append]
theorem sum_bd {l:List Reg}(h:∀ r∈l,r.ok):∀ j:Nat,j<=l.length->(0<=sumC (l.take j)/\sumC (l.take j)<=6272*j)/\(0<=sumL (l.take j)/\sumL (l.take j)<=7072*j)
 | 0,_=>by simp [sumC,sumL]
 | j+1,hj=>by
   obtain⟨r,hr⟩:∃ r,l[j]?=some r:=⟨_,List.getElem?_eq_getElem (by omega)⟩
   have h1:=sum_bd h j (by omega)
   have h2:=cells_nat r (h r (List.mem_of_getElem? hr)).n
   rw [sumC_next hr,sumL_next hr]
   omega
end Kv
namespace Go.Proofs.YtchahoiainbcaaaGreatDoor
open Go.RowKit Kv
set_option maxRecDepth 100000 in
set_option maxHeartbeats 1000000 in
theorem size_p (b c:Nat)(rs:List Reg)(w:World)(hb:b<w.heap.size)(hc:∀ (i:Nat) u,(rs.flatMap regVals)[i]?=some u->w.cell? ⟨b,i,none⟩=some u)(hok:∀ r∈rs,r.ok)(hl:rs.length<=300) :
  Calls Tryz.prog 75 #[.slice (some ⟨b,0,none⟩) rs.length c] w fun e w'=>e=.returned (.tuple #[.int .i64 (sumC rs),.int .i64 (sumL rs)])/\Ext w w':=by
 have hokh:=Lib.hid hok
 have hbd:=Lib.hid (sum_bd hok)
 have hch:=Lib.hid hc
 clear hok hc
 go_enter Tryz.func75,Tryz.ntmps75
 go_wp2_with fail
 go_loopw [4,5,10] (fun u v i wr=>∃ j:Nat,i=.int .i64 j/\j<=rs.length/\u=.int .i64 (sumC (rs.take j))/\v=.int .i64 (sumL (rs.take j))/\Ext w wr) (fun _ _ i _=>rs.length-(intOf i).toNat)
 case atStart=>exact⟨0,rfl,by omega,rfl,rfl,Ext.refl w⟩
 case round =>
  obtain⟨j,rfl,hj,rfl,rfl,hX⟩:=hrel
  by_cases hlt:j<rs.length
  · have dl:decide ((j:Int)<(rs.length:Int))=true:=by rw [decide_eq_true_eq];omega
    obtain⟨r,hr⟩:∃ r,rs[j]?=some r:=⟨_,List.getElem?_eq_getElem hlt⟩
    have hrk:=hokh.out r (List.mem_of_getElem? hr)
    have h1:=hbd.out j (by omega)
    have h2:=cells_nat r hrk.n
    have n1:=sumC_next hr
    have n2:=sumL_next hr
    obtain⟨a0,a1,a2,a3,a4,a5,a6⟩:=reg_cells (w:=wr) (b:=b) (fun i u hu=>(hX.cell (p:=⟨b,i,none⟩) hb).trans (hch.out i u hu)) hr
    have hC:=fun w=>cells_all r w hrk.kind hrk.n
    have hL:=fun w=>locals_p r w hrk.kind hrk.n
    unfold encR at hC hL
    have w1:IntKind.i64.wrap (sumC (rs.take j)+cellsM r)=sumC (rs.take (j+1)):=by rw [IntWalk.i64_in _ (by omega),n1]
    have w2:IntKind.i64.wrap (sumL (rs.take j)+localsM r)=sumL (rs.take (j+1)):=by rw [IntWalk.i64_in _ (by omega),n2]
    have c_n:=fun i=>cell_of_heap (heap_alloc_new wr (.cells #[.int .i64 r.kind,.int .i64 r.base,.int .i64 r.loc,.int .i64 r.n,.int .i64 r.wr,.int .i64 r.rd,.int .i64 r.top] 81)) i
    have hX1:=hX.alloc (.cells #[.int .i64 r.kind,.int .i64 r.base,.int .i64 r.loc,.int .i64 r.n,.int .i64 r.wr,.int .i64 r.rd,.int .i64 r.top] 81)
    have g1:=Blk.new wr (.cells #[.int .i64 r.kind,.int .i64 r.base,.int .i64 r.loc,.int .i64 r.n,.int .i64 r.wr,.int .i64 r.rd,.int .i64 r.top] 81)
    clear hr h1 h2 n1 n2
    go_wp2_with fail
    refine (hC _).mono ?_
    rintro e w2 ⟨rfl,hx2⟩
    clear c_n
    have g2:=g1.ext hx2
    have c_g:=g2.cells
    replace hX1:=hX1.trans hx2
    clear hx2 a0 a1 a2 a3 a4 a5 a6 g1
    go_wp2_with fail
    refine (hL _).mono ?_
    rintro e w3 ⟨rfl,hx3⟩
    replace hX1:=hX1.trans hx3
    clear hx3 c_g g2
    go_wp2_with fail
    refine⟨⟨j+1,by go_num,by omega,rfl,rfl,hX1⟩,?_⟩
    simp [intOf];omega
  · obtain rfl:j=rs.length:=by omega
    have dl:decide ((rs.length:Int)<(rs.length:Int))=false:=by rw [decide_eq_false_iff_not];omega
    rw [List.take_length]
    go_wp2_with fail
    first | go_ret2 | go_ret
    exact⟨rfl,hX⟩
end Go.Proofs.YtchahoiainbcaaaGreatDoor
namespace Go.Proofs.YtchahoiainbcaaaGreatDoor
open Kv
def lkWants (alg:Int) (N:Nat):List Want :=
 if alg=3 then bwWants N else if alg=4 then filWants N else if alg=5 then fastWants N else if alg=6∨alg=7 then treeWants (eachK alg) N else adWants N
def lkC (alg:Int) (N:Nat) (rs:List Reg):Int:=if alg=1 then 2*N else if alg=2 then N else sumC rs
def lkL (alg:Int) (rs:List Reg):Int:=if alg=1 then 1 else if alg=2 then 0 else if alg=3∨alg=8 then sumL rs+1 else sumL rs
structure LkOk (alg:Int) (N:Nat) (mode base loc room:Int) (rs:List Reg):Prop where
 halg:1<=alg/\alg<=8
 hn:1<=N/\N<=8
 hmode:1<=mode/\mode<=2
 hbase:0<=base/\base<=32768
 hloc:0<=loc/\loc<=32768
 hroom:1<=room/\room<=1048576
 hlay:3<=alg->layM (lkWants alg N) N mode base loc=some rs
 hcells:base+lkC alg N rs<=32768
 hlocals:loc+lkL alg rs<=32768
end Go.Proofs.YtchahoiainbcaaaGreatDoor
namespace Go.Proofs.YtchahoiainbcaaaGreatDoor
open Go.RowKit Kv
theorem sizes_p (alg N mode base loc room:Int)(w:World)(h1:1<=N/\N<=8)(h2:1<=room/\room<=1048576) :
  Calls Tryz.prog 189 #[.agg #[.int .i64 alg,.int .i64 N,.int .i64 mode,.int .i64 base,.int .i64 loc,.int .i64 room]] w fun e w'=>e=.returned (.tuple #[.int .i64 N,.int .i64 room])/\Ext w w':=by
 have e1:min (max N 1) 8=N:=by omega
 have e2:min (max room 1) 1048576=room:=by omega
 have hX:=Ext.refl w
 have b1:=Blk.new w (.cells #[.int .i64 alg,.int .i64 N,.int .i64 mode,.int .i64 base,.int .i64 loc,.int .i64 room] 23)
 replace hX:=hX.alloc (.cells #[.int .i64 alg,.int .i64 N,.int .i64 mode,.int .i64 base,.int .i64 loc,.int .i64 room] 23)
 have c_b1:=b1.cells
 go_enter Tryz.func189,Tryz.ntmps189
 go_wp2_with fail
 go_quiet (fail)
 go_wp2_with fail
 first | go_ret2 | go_ret
 exact⟨rfl,hX.drewN _⟩
theorem onethr_p (alg N mode base loc room:Int)(w:World)(h1:1<=N/\N<=8) :
  Calls Tryz.prog 195 #[.agg #[.int .i64 alg,.int .i64 N,.int .i64 mode,.int .i64 base,.int .i64 loc,.int .i64 room]] w fun e w'=>e=.returned (.int .i64 N)/\Ext w w':=by
 have e1:min (max N 1) 8=N:=by omega
 have hX:=Ext.refl w
 have b1:=Blk.new w (.cells #[.int .i64 alg,.int .i64 N,.int .i64 mode,.int .i64 base,.int .i64 loc,.int .i64 room] 23)
 replace hX:=hX.alloc (.cells #[.int .i64 alg,.int .i64 N,.int .i64 mode,.int .i64 base,.int .i64 loc,.int .i64 room] 23)
 have c_b1:=b1.cells
 go_enter Tryz.func195,Tryz.ntmps195
 go_wp2_with fail
 first | go_ret2 | go_ret
 exact⟨rfl,hX⟩
end Go.Proofs.YtchahoiainbcaaaGreatDoor
