/-
  RenameApartSaid: part 4 of its proof.
-/
import Derived.Test.YtbphlkaihfbgeaaJRenameApartSaid3
import Derived.Laws.AppendOwnNone
import Derived.Deep.DeepCutAuto
import Derived.Laws.MakeOwn
namespace Go.Proofs.Ytbphlkaihfbgeaa
open Go.RowKit Kv
@[go_sem] theorem build_regw (a b c d e:Int) (w:World):(Instr.build 56 #[(0,.int .i64 a),(3,.int .i64 b),(4,.int .i64 c),(5,.int .i64 d),(6,.int .i64 e)]).run Try.prog w=.ok (.agg #[.int .i64 a,.int .i64 0,.int .i64 0,.int .i64 b,.int .i64 c,.int .i64 d,.int .i64 e]) w:=run_build w 56 _ _ (by kernel_rfl)
theorem topM_max (t:Int):max 1 (min t 255)=topM t:=by
 unfold topM clamp within
 split <;> omega
theorem want_p (q:Want)(n mode:Int)(w:World)(hm:mode=1∨mode=2)(hq:-1<=q.wr):Calls Try.prog 185 #[.agg #[.int .i64 q.wr,.int .i64 q.top],.int .i64 n,.int .i64 mode] w fun e w'=>e=.returned (encR (regOf n mode 0 0 q))/\Ext w w':=by
 obtain⟨wr,top⟩:=q
 unfold encR regOf
 simp only at hq ⊢
 have ht:=topM_max top
 rcases hm with rfl | rfl
 · rw [show kindM 1 wr=1 from by unfold kindM;rw [if_neg (by omega)]]
   clear hq
   go_enter Try.func185,Try.ntmps185
   go_wp2_with fail
   refine bodyPost_ret (v:=.agg #[.int .i64 1,.int .i64 0,.int .i64 0,.int .i64 n,.int .i64 wr,.int .i64 (-1),.int .i64 (topM top)]) (by simp [results,Try.results185,go_sem]) rfl ⟨rfl,?_⟩
   exact (((Ext.refl _).alloc _).alloc _).alloc _
 · by_cases h:wr=-1
   · rw [show kindM 2 wr=7 from by unfold kindM;rw [if_pos rfl,if_neg (by omega)]]
     have d:(wr==-1)=true:=by rw [beq_iff_eq];exact h
     clear hq h
     go_enter Try.func185,Try.ntmps185
     go_wp2_with fail
     refine bodyPost_ret (v:=.agg #[.int .i64 7,.int .i64 0,.int .i64 0,.int .i64 n,.int .i64 wr,.int .i64 (-1),.int .i64 (topM top)]) (by simp [results,Try.results185,go_sem]) rfl ⟨rfl,?_⟩
     exact (((Ext.refl _).alloc _).alloc _).alloc _
   · rw [show kindM 2 wr=6 from by unfold kindM;rw [if_pos rfl,if_pos (by omega)]]
     have d:(wr==-1)=false:=by rw [beq_eq_false_iff_ne];exact h
     clear hq h
     go_enter Try.func185,Try.ntmps185
     go_wp2_with fail
     refine bodyPost_ret (v:=.agg #[.int .i64 6,.int .i64 0,.int .i64 0,.int .i64 n,.int .i64 wr,.int .i64 (-1),.int .i64 (topM top)]) (by simp [results,Try.results185,go_sem]) rfl ⟨rfl,?_⟩
     exact (((Ext.refl _).alloc _).alloc _).alloc _
set_option maxRecDepth 100000 in
set_option maxHeartbeats 2000000 in
theorem lay_p (va:Value)(l:List Want)(n mode base loc:Int)(w:World)(h:WantsAt w va l)(hlen:l.length<=1000)(hC:∀ (r:Reg) w,Drawn r->r.n=n->Calls Try.prog 45 #[encR r] w fun e w'=>e=.returned (.int .i64 (cellsM r))/\Ext w w') :
  Calls Try.prog 132 #[va,.int .i64 n,.int .i64 mode,.int .i64 base,.int .i64 loc] w (LayPost w.heap.size w (layM l n mode base loc)):=by
 obtain⟨A,c,rfl,q1,q2,hv⟩:=h
 by_cases h0:1<=mode/\mode<=2/\1<=n/\n<=8/\0<=base/\0<=loc
 · have hmd:mode=1∨mode=2:=by omega
   rcases hmd with rfl | rfl
   · have hgood:=Lib.hid (fun hq=>argsM_good (l:=l) h0 hq)
     have hbad:=Lib.hid (fun (i:Nat) q hq hx=>argsM_bad (l:=l) (n:=n) (mode:=1) (b:=base) (c:=loc) (i:=i) (q:=q) hq hx)
     obtain⟨-,-,n1,n2,b1,l1⟩:=h0
     have d3:decide (n<1)=false:=by rw [decide_eq_false_iff_not];omega
     have d4:decide (8<n)=false:=by rw [decide_eq_false_iff_not];omega
     have d5:decide (base<0)=false:=by rw [decide_eq_false_iff_not];omega
     have d6:decide (loc<0)=false:=by rw [decide_eq_false_iff_not];omega
     go_enter Try.func132,Try.ntmps132
     go_wp2_with fail
     go_loopw [40] (fun i wr=>∃ j:Nat,i=.int .i64 j/\j<=l.length/\Hid (∀ (k:Nat) q,k<j->l[k]?=some q->-1<=q.wr/\q.wr<n)/\Ext w wr) (fun i _=>l.length-(intOf i).toNat)
     case atStart=>exact⟨0,rfl,by omega,fun k q hk=>by omega,Ext.refl _⟩
     case round =>
      obtain⟨j,rfl,hj,hs,hE⟩:=hrel
      by_cases hl:j<l.length
      · obtain⟨q,hq⟩:∃ q,l[j]?=some q:=⟨_,List.getElem?_eq_getElem hl⟩
        obtain⟨b,rfl,hb,e1,e2⟩:=want_at (hv.ext hE) hq
        have hE2:=hE.alloc (.cells #[.int .i64 q.wr,.int .i64 q.top] 91)
        by_cases f1:q.wr < -1
        · have d7:decide (q.wr < -1)=true:=by simpa using f1
          have hf:=Lib.hid (hbad.out j q hq (by omega))
          clear hq hgood hbad hs
          go_wp2_with fail
          rw [hf.out]
          refine bodyPost_ret (v:=.tuple #[.slice none 0 0,.int .i64 1]) (by simp [results,Try.results132,go_sem]) rfl ?_
          exact⟨hE2,1,by decide,rfl⟩
        · have d7:decide (q.wr < -1)=false:=by rw [decide_eq_false_iff_not];omega
          by_cases f2:n<=q.wr
          · have d8:decide (n<=q.wr)=true:=by simpa using f2
            have hf:=Lib.hid (hbad.out j q hq (by omega))
            clear hq hgood hbad hs
            go_wp2_with fail
            rw [hf.out]
            refine bodyPost_ret (v:=.tuple #[.slice none 0 0,.int .i64 1]) (by simp [results,Try.results132,go_sem]) rfl ?_
            exact⟨hE2,1,by decide,rfl⟩
          · have d8:decide (n<=q.wr)=false:=by rw [decide_eq_false_iff_not];omega
            have hs2:Hid (∀ (k:Nat) q,k<j+1->l[k]?=some q->-1<=q.wr/\q.wr<n):=Lib.hid fun k q' hk hq'=>by
             by_cases e:k=j
             · subst e
               rw [hq] at hq'
               obtain rfl:q=q':=by simpa using hq'
               omega
             · exact hs.out k q' (by omega) hq'
            have hE3:=Lib.hid hE2
            clear hq hs hgood hbad hE2
            go_wp2_with fail
            refine⟨⟨j+1,by go_num,by omega,hs2,hE3.out⟩,?_⟩
            simp [intOf];omega
      · have hlay:=Lib.hid (hgood.out fun k q hq=>hs.out k q (by have:=(List.getElem?_eq_some_iff.1 hq).1;omega) hq)
        have hwr:=Lib.hid (fun (k:Nat) (q:Want) (hq:l[k]?=some q)=>hs.out k q (by have:=(List.getElem?_eq_some_iff.1 hq).1;omega) hq)
        clear hgood hbad hs
        go_wp2_with fail
        have hE0:=Lib.hid hE
        clear hE
        go_loopw [3,4,14,56] (fun b' c' v i wr=>∃ (j:Nat) (bi ci:Int) (pre:List Reg),b'=.int .i64 bi/\c'=.int .i64 ci/\i=.int .i64 j/\j<=l.length/\pre.length=j/\0<=bi/\0<=ci/\Hid (layFrom n 1 l base loc=(layFrom n 1 (l.drop j) bi ci).map (pre++·))/\wr.ownsRow w.heap.size 56 7 v j (pre.flatMap regVals)/\Ext w wr) (fun _ _ _ i _=>l.length-(intOf i).toNat)
        case atStart=>exact⟨0,base,loc,[],rfl,rfl,rfl,by omega,rfl,b1,l1,by unfold Hid;simp,World.ownsRow_nil _ _ _ _,hE0.out⟩
        case round =>
         clear hE0
         obtain⟨j,bi,ci,pre,rfl,rfl,rfl,hj,hpl,hbi,hci,hM,hown,hE⟩:=hrel
         by_cases hl:j<l.length
         · obtain⟨q,hq⟩:∃ q,l[j]?=some q:=⟨_,List.getElem?_eq_getElem hl⟩
           obtain⟨b,rfl,hb,e1,e2⟩:=want_at (hv.ext hE) hq
           obtain⟨w1,w2⟩:=hwr.out j q hq
           have hdr:l.drop j=q :: l.drop (j+1):=by
            rw [List.drop_eq_getElem_cons hl]
            congr 1
            rw [List.getElem?_eq_getElem hl] at hq
            simpa using hq
           have hMh:=Lib.hid hM
           have hownh:=Lib.hid hown
           clear hM hown hq
           have hrk:regOf n 1 bi ci q=⟨kindM 1 q.wr,bi,ci,n,q.wr,-1,topM q.top⟩:=rfl
           have hWW:=fun W=>want_p q n 1 W (by omega) w1
           have hK:kindM 1 q.wr=1∨kindM 1 q.wr=6∨kindM 1 q.wr=7:=by unfold kindM;split <;> (try split) <;> simp
           have hK6:kindM 1 q.wr=6->0<=q.wr:=by unfold kindM;split <;> (try split) <;> omega
           have htm:=topM_bd q.top
           have hdn:Drawn ⟨kindM 1 q.wr,bi,ci,n,q.wr,-1,topM q.top⟩:=⟨hK,hbi,hci,⟨n1,n2⟩,⟨w1,w2⟩,hK6,rfl,htm⟩
           have hlf:=Lib.hid (show layFrom n 1 (l.drop j) bi ci=if fineM ⟨kindM 1 q.wr,bi,ci,n,q.wr,-1,topM q.top⟩ then (layFrom n 1 (l.drop (j+1)) (bi+cellsM ⟨kindM 1 q.wr,bi,ci,n,q.wr,-1,topM q.top⟩) (ci+localsM ⟨kindM 1 q.wr,bi,ci,n,q.wr,-1,topM q.top⟩)).map (⟨kindM 1 q.wr,bi,ci,n,q.wr,-1,topM q.top⟩ :: ·) else none from by rw [hdr,layFrom_cons,hrk])
           have hCC:=fun W=>hC ⟨kindM 1 q.wr,bi,ci,n,q.wr,-1,topM q.top⟩ W hdn rfl
           have hFF:=fun W=>fine_p ⟨kindM 1 q.wr,bi,ci,n,q.wr,-1,topM q.top⟩ W hdn hCC
           have hLL:=fun W=>locals_p ⟨kindM 1 q.wr,bi,ci,n,q.wr,-1,topM q.top⟩ W hK ⟨n1,n2⟩
           have hcn:=cells_nat ⟨kindM 1 q.wr,bi,ci,n,q.wr,-1,topM q.top⟩ ⟨n1,n2⟩
           have hfb:fineM ⟨kindM 1 q.wr,bi,ci,n,q.wr,-1,topM q.top⟩=true->bi<=32768/\ci<=32768:=by
            unfold fineM
            simp only [Bool.and_eq_true,decide_eq_true_eq]
            omega
           clear hdn hrk htm hdr hK hK6
           unfold encR regOf at hWW
           unfold encR at hFF hCC hLL
           simp only at hWW hFF hCC hLL
           generalize kindM 1 q.wr=kk at *
           generalize topM q.top=tp at *
           generalize cellsM _=C at *
           generalize localsM _=D at *
           generalize hfm:fineM _=F at *
           clear hfm
           go_wp2_with fail
           refine (hWW _).mono ?_
           rintro e w3 ⟨rfl,hx⟩
           clear hWW
           have g3:=Blk.new w3 (.cells #[.int .i64 kk,.int .i64 bi,.int .i64 ci,.int .i64 n,.int .i64 q.wr,.int .i64 (-1),.int .i64 tp] 56)
           have x3:Ext wr (w3.alloc (.cells #[.int .i64 kk,.int .i64 bi,.int .i64 ci,.int .i64 n,.int .i64 q.wr,.int .i64 (-1),.int .i64 tp] 56)):=(((Ext.refl wr).alloc _).trans hx).alloc _
           have hz3:wr.heap.size<w3.heap.size:=by have:=hx.size;simp at this;omega
           clear hx
           go_wp2_with fail
           generalize w3.alloc _=W at *
           have c_3:=g3.cells
           refine (hFF _).mono ?_
           rintro e w4 ⟨rfl,hx⟩
           clear hFF c_3
           replace g3:=g3.ext hx
           replace x3:=x3.trans hx
           clear hx
           have c_3:=g3.cells
           cases F with
           | false =>
             have hres:=Lib.hid (show layM l n 1 base loc=none from by rw [hlay.out,hMh.out,hlf.out];rfl)
             go_wp2_with fail
             rw [hres.out]
             exact bodyPost_ret (v:=.tuple #[.slice none 0 0,.int .i64 6]) (by simp [results,Try.results132,go_sem]) rfl ⟨hE.trans x3,6,by decide,rfl⟩
           | true =>
             obtain⟨hb1,hb2⟩:=hfb rfl
             have s1:=IntWalk.i64_in (bi+C) (by omega)
             have s2:=IntWalk.i64_in (ci+D) (by omega)
             have hown3:=row_ext hownh.out x3
             have hRn:Hid (u14.ownBlock≠some w3.heap.size):=Lib.hid fun e=>by have:=(hownh.out.lt _ e).2;omega
             have hE3:=hE.trans x3
             have hM2:=Lib.hid (show layFrom n 1 l base loc=(layFrom n 1 (l.drop (j+1)) (bi+C) (ci+D)).map ((pre++[⟨kk,bi,ci,n,q.wr,-1,tp⟩])++·) from by
              rw [hMh.out,hlf.out]
              simp only [if_true,Option.map_map]
              congr 1
              funext x
              simp)
             clear hfb hlf hMh hownh hb1 hb2
             go_wp2_with (at_builtin;refine append_rec info_reg Try.underlying44 rfl (by decide) (by decide) rfl _ _ rfl _ j (pre.flatMap regVals) [.int .i64 kk,.int .i64 bi,.int .i64 ci,.int .i64 n,.int .i64 q.wr,.int .i64 (-1),.int .i64 tp] hE3 hown3 rfl rfl rfl (by simp [Value.oneCell']) (by omega) ?_)
             intro v' w5 ho4 hx4 hbk
             have g4:Blk w5 w3.heap.size _:=(hbk _ g3.lt hRn.out).trans g3
             have c_4:=g4.cells
             clear hbk hown3 hE3 c_3 hRn g3 x3
             go_wp2_with fail
             refine (hCC _).mono ?_
             rintro e w6 ⟨rfl,hx⟩
             replace g4:=g4.ext hx
             replace ho4:=row_ext ho4 hx
             replace hx4:=hx4.trans hx
             clear c_4 hx hCC
             have c_4:=g4.cells
             go_wp2_with fail
             refine (hLL _).mono ?_
             rintro e w7 ⟨rfl,hx⟩
             replace ho4:=row_ext ho4 hx
             replace hx4:=hx4.trans hx
             clear c_4 g4 hx hLL
             have ho5:=Lib.hid ho4
             clear ho4
             go_wp2_with fail
             refine⟨⟨j+1,bi+C,ci+D,pre++[⟨kk,bi,ci,n,q.wr,-1,tp⟩],rfl,rfl,by go_num,by omega,by simp [hpl],by omega,by omega,hM2,by rw [List.flatMap_append];exact ho5.out,hx4⟩,?_⟩
             simp [intOf];omega
         · have hf:layFrom n 1 l base loc=some pre:=by
            rw [hM.out,List.drop_eq_nil_of_le (by omega)]
            simp [layFrom]
           have hres:=Lib.hid (hlay.out.trans hf)
           clear hM hf hlay hwr
           have hownh:=Lib.hid hown
           clear hown
           go_wp2_with fail
           rw [hres.out]
           refine bodyPost_ret (v:=.tuple #[u14,.int .i64 0]) (by simp [results,Try.results132,go_sem]) rfl ?_
           exact⟨hE,u14,rfl,by rw [hpl];exact hownh.out⟩
   · have hgood:=Lib.hid (fun hq=>argsM_good (l:=l) h0 hq)
     have hbad:=Lib.hid (fun (i:Nat) q hq hx=>argsM_bad (l:=l) (n:=n) (mode:=2) (b:=base) (c:=loc) (i:=i) (q:=q) hq hx)
     obtain⟨-,-,n1,n2,b1,l1⟩:=h0
     have d3:decide (n<1)=false:=by rw [decide_eq_false_iff_not];omega
     have d4:decide (8<n)=false:=by rw [decide_eq_false_iff_not];omega
     have d5:decide (base<0)=false:=by rw [decide_eq_false_iff_not];omega
     have d6:decide (loc<0)=false:=by rw [decide_eq_false_iff_not];omega
     go_enter Try.func132,Try.ntmps132
     go_wp2_with fail
     go_loopw [40] (fun i wr=>∃ j:Nat,i=.int .i64 j/\j<=l.length/\Hid (∀ (k:Nat) q,k<j->l[k]?=some q->-1<=q.wr/\q.wr<n)/\Ext w wr) (fun i _=>l.length-(intOf i).toNat)
     case atStart=>exact⟨0,rfl,by omega,fun k q hk=>by omega,Ext.refl _⟩
     case round =>
      obtain⟨j,rfl,hj,hs,hE⟩:=hrel
      by_cases hl:j<l.length
      · obtain⟨q,hq⟩:∃ q,l[j]?=some q:=⟨_,List.getElem?_eq_getElem hl⟩
        obtain⟨b,rfl,hb,e1,e2⟩:=want_at (hv.ext hE) hq
        have hE2:=hE.alloc (.cells #[.int .i64 q.wr,.int .i64 q.top] 91)
        by_cases f1:q.wr < -1
        · have d7:decide (q.wr < -1)=true:=by simpa using f1
          have hf:=Lib.hid (hbad.out j q hq (by omega))
          clear hq hgood hbad hs
          go_wp2_with fail
          rw [hf.out]
          refine bodyPost_ret (v:=.tuple #[.slice none 0 0,.int .i64 1]) (by simp [results,Try.results132,go_sem]) rfl ?_
          exact⟨hE2,1,by decide,rfl⟩
        · have d7:decide (q.wr < -1)=false:=by rw [decide_eq_false_iff_not];omega
          by_cases f2:n<=q.wr
          · have d8:decide (n<=q.wr)=true:=by simpa using f2
            have hf:=Lib.hid (hbad.out j q hq (by omega))
            clear hq hgood hbad hs
            go_wp2_with fail
            rw [hf.out]
            refine bodyPost_ret (v:=.tuple #[.slice none 0 0,.int .i64 1]) (by simp [results,Try.results132,go_sem]) rfl ?_
            exact⟨hE2,1,by decide,rfl⟩
          · have d8:decide (n<=q.wr)=false:=by rw [decide_eq_false_iff_not];omega
            have hs2:Hid (∀ (k:Nat) q,k<j+1->l[k]?=some q->-1<=q.wr/\q.wr<n):=Lib.hid fun k q' hk hq'=>by
             by_cases e:k=j
             · subst e
               rw [hq] at hq'
               obtain rfl:q=q':=by simpa using hq'
               omega
             · exact hs.out k q' (by omega) hq'
            have hE3:=Lib.hid hE2
            clear hq hs hgood hbad hE2
            go_wp2_with fail
            refine⟨⟨j+1,by go_num,by omega,hs2,hE3.out⟩,?_⟩
            simp [intOf];omega
      · have hlay:=Lib.hid (hgood.out fun k q hq=>hs.out k q (by have:=(List.getElem?_eq_some_iff.1 hq).1;omega) hq)
        have hwr:=Lib.hid (fun (k:Nat) (q:Want) (hq:l[k]?=some q)=>hs.out k q (by have:=(List.getElem?_eq_some_iff.1 hq).1;omega) hq)
        clear hgood hbad hs
        go_wp2_with fail
        have hE0:=Lib.hid hE
        clear hE
        go_loopw [3,4,14,56] (fun b' c' v i wr=>∃ (j:Nat) (bi ci:Int) (pre:List Reg),b'=.int .i64 bi/\c'=.int .i64 ci/\i=.int .i64 j/\j<=l.length/\pre.length=j/\0<=bi/\0<=ci/\Hid (layFrom n 2 l base loc=(layFrom n 2 (l.drop j) bi ci).map (pre++·))/\wr.ownsRow w.heap.size 56 7 v j (pre.flatMap regVals)/\Ext w wr) (fun _ _ _ i _=>l.length-(intOf i).toNat)
        case atStart=>exact⟨0,base,loc,[],rfl,rfl,rfl,by omega,rfl,b1,l1,by unfold Hid;simp,World.ownsRow_nil _ _ _ _,hE0.out⟩
        case round =>
         clear hE0
         obtain⟨j,bi,ci,pre,rfl,rfl,rfl,hj,hpl,hbi,hci,hM,hown,hE⟩:=hrel
         by_cases hl:j<l.length
         · obtain⟨q,hq⟩:∃ q,l[j]?=some q:=⟨_,List.getElem?_eq_getElem hl⟩
           obtain⟨b,rfl,hb,e1,e2⟩:=want_at (hv.ext hE) hq
           obtain⟨w1,w2⟩:=hwr.out j q hq
           have hdr:l.drop j=q :: l.drop (j+1):=by
            rw [List.drop_eq_getElem_cons hl]
            congr 1
            rw [List.getElem?_eq_getElem hl] at hq
            simpa using hq
           have hMh:=Lib.hid hM
           have hownh:=Lib.hid hown
           clear hM hown hq
           have hrk:regOf n 2 bi ci q=⟨kindM 2 q.wr,bi,ci,n,q.wr,-1,topM q.top⟩:=rfl
           have hWW:=fun W=>want_p q n 2 W (by omega) w1
           have hK:kindM 2 q.wr=1∨kindM 2 q.wr=6∨kindM 2 q.wr=7:=by unfold kindM;split <;> (try split) <;> simp
           have hK6:kindM 2 q.wr=6->0<=q.wr:=by unfold kindM;split <;> (try split) <;> omega
           have htm:=topM_bd q.top
           have hdn:Drawn ⟨kindM 2 q.wr,bi,ci,n,q.wr,-1,topM q.top⟩:=⟨hK,hbi,hci,⟨n1,n2⟩,⟨w1,w2⟩,hK6,rfl,htm⟩
           have hlf:=Lib.hid (show layFrom n 2 (l.drop j) bi ci=if fineM ⟨kindM 2 q.wr,bi,ci,n,q.wr,-1,topM q.top⟩ then (layFrom n 2 (l.drop (j+1)) (bi+cellsM ⟨kindM 2 q.wr,bi,ci,n,q.wr,-1,topM q.top⟩) (ci+localsM ⟨kindM 2 q.wr,bi,ci,n,q.wr,-1,topM q.top⟩)).map (⟨kindM 2 q.wr,bi,ci,n,q.wr,-1,topM q.top⟩ :: ·) else none from by rw [hdr,layFrom_cons,hrk])
           have hCC:=fun W=>hC ⟨kindM 2 q.wr,bi,ci,n,q.wr,-1,topM q.top⟩ W hdn rfl
           have hFF:=fun W=>fine_p ⟨kindM 2 q.wr,bi,ci,n,q.wr,-1,topM q.top⟩ W hdn hCC
           have hLL:=fun W=>locals_p ⟨kindM 2 q.wr,bi,ci,n,q.wr,-1,topM q.top⟩ W hK ⟨n1,n2⟩
           have hcn:=cells_nat ⟨kindM 2 q.wr,bi,ci,n,q.wr,-1,topM q.top⟩ ⟨n1,n2⟩
           have hfb:fineM ⟨kindM 2 q.wr,bi,ci,n,q.wr,-1,topM q.top⟩=true->bi<=32768/\ci<=32768:=by
            unfold fineM
            simp only [Bool.and_eq_true,decide_eq_true_eq]
            omega
           clear hdn hrk htm hdr hK hK6
           unfold encR regOf at hWW
           unfold encR at hFF hCC hLL
           simp only at hWW hFF hCC hLL
           generalize kindM 2 q.wr=kk at *
           generalize topM q.top=tp at *
           generalize cellsM _=C at *
           generalize localsM _=D at *
           generalize hfm:fineM _=F at *
           clear hfm
           go_wp2_with fail
           refine (hWW _).mono ?_
           rintro e w3 ⟨rfl,hx⟩
           clear hWW
           have g3:=Blk.new w3 (.cells #[.int .i64 kk,.int .i64 bi,.int .i64 ci,.int .i64 n,.int .i64 q.wr,.int .i64 (-1),.int .i64 tp] 56)
           have x3:Ext wr (w3.alloc (.cells #[.int .i64 kk,.int .i64 bi,.int .i64 ci,.int .i64 n,.int .i64 q.wr,.int .i64 (-1),.int .i64 tp] 56)):=(((Ext.refl wr).alloc _).trans hx).alloc _
           have hz3:wr.heap.size<w3.heap.size:=by have:=hx.size;simp at this;omega
           clear hx
           go_wp2_with fail
           generalize w3.alloc _=W at *
           have c_3:=g3.cells
           refine (hFF _).mono ?_
           rintro e w4 ⟨rfl,hx⟩
           clear hFF c_3
           replace g3:=g3.ext hx
           replace x3:=x3.trans hx
           clear hx
           have c_3:=g3.cells
           cases F with
           | false =>
             have hres:=Lib.hid (show layM l n 2 base loc=none from by rw [hlay.out,hMh.out,hlf.out];rfl)
             go_wp2_with fail
             rw [hres.out]
             exact bodyPost_ret (v:=.tuple #[.slice none 0 0,.int .i64 6]) (by simp [results,Try.results132,go_sem]) rfl ⟨hE.trans x3,6,by decide,rfl⟩
           | true =>
             obtain⟨hb1,hb2⟩:=hfb rfl
             have s1:=IntWalk.i64_in (bi+C) (by omega)
             have s2:=IntWalk.i64_in (ci+D) (by omega)
             have hown3:=row_ext hownh.out x3
             have hRn:Hid (u14.ownBlock≠some w3.heap.size):=Lib.hid fun e=>by have:=(hownh.out.lt _ e).2;omega
             have hE3:=hE.trans x3
             have hM2:=Lib.hid (show layFrom n 2 l base loc=(layFrom n 2 (l.drop (j+1)) (bi+C) (ci+D)).map ((pre++[⟨kk,bi,ci,n,q.wr,-1,tp⟩])++·) from by
              rw [hMh.out,hlf.out]
              simp only [if_true,Option.map_map]
              congr 1
              funext x
              simp)
             clear hfb hlf hMh hownh hb1 hb2
             go_wp2_with (at_builtin;refine append_rec info_reg Try.underlying44 rfl (by decide) (by decide) rfl _ _ rfl _ j (pre.flatMap regVals) [.int .i64 kk,.int .i64 bi,.int .i64 ci,.int .i64 n,.int .i64 q.wr,.int .i64 (-1),.int .i64 tp] hE3 hown3 rfl rfl rfl (by simp [Value.oneCell']) (by omega) ?_)
             intro v' w5 ho4 hx4 hbk
             have g4:Blk w5 w3.heap.size _:=(hbk _ g3.lt hRn.out).trans g3
             have c_4:=g4.cells
             clear hbk hown3 hE3 c_3 hRn g3 x3
             go_wp2_with fail
             refine (hCC _).mono ?_
             rintro e w6 ⟨rfl,hx⟩
             replace g4:=g4.ext hx
             replace ho4:=row_ext ho4 hx
             replace hx4:=hx4.trans hx
             clear c_4 hx hCC
             have c_4:=g4.cells
             go_wp2_with fail
             refine (hLL _).mono ?_
             rintro e w7 ⟨rfl,hx⟩
             replace ho4:=row_ext ho4 hx
             replace hx4:=hx4.trans hx
             clear c_4 g4 hx hLL
             have ho5:=Lib.hid ho4
             clear ho4
             go_wp2_with fail
             refine⟨⟨j+1,bi+C,ci+D,pre++[⟨kk,bi,ci,n,q.wr,-1,tp⟩],rfl,rfl,by go_num,by omega,by simp [hpl],by omega,by omega,hM2,by rw [List.flatMap_append];exact ho5.out,hx4⟩,?_⟩
             simp [intOf];omega
         · have hf:layFrom n 2 l base loc=some pre:=by
            rw [hM.out,List.drop_eq_nil_of_le (by omega)]
            simp [layFrom]
           have hres:=Lib.hid (hlay.out.trans hf)
           clear hM hf hlay hwr
           have hownh:=Lib.hid hown
           clear hown
           go_wp2_with fail
           rw [hres.out]
           refine bodyPost_ret (v:=.tuple #[u14,.int .i64 0]) (by simp [results,Try.results132,go_sem]) rfl ?_
           exact⟨hE,u14,rfl,by rw [hpl];exact hownh.out⟩
 · rw [argsM_false h0]
   go_enter Try.func132,Try.ntmps132
   have hfin:LayPost w.heap.size w none (.returned (.tuple #[.slice none 0 0,.int .i64 1])) w:=⟨Ext.refl _,1,by decide,rfl⟩
   by_cases m1:mode=1∨mode=2
   · by_cases m3:n<1
     · have d3:decide (n<1)=true:=by simpa using m3
       rcases m1 with rfl | rfl
       all_goals
        go_wp2_with fail
        exact bodyPost_ret (v:=.tuple #[.slice none 0 0,.int .i64 1]) (by simp [results,Try.results132,go_sem]) rfl hfin
     · have d3:decide (n<1)=false:=by simpa using m3
       by_cases m4:8<n
       · have d4:decide (8<n)=true:=by simpa using m4
         rcases m1 with rfl | rfl
         all_goals
          go_wp2_with fail
          exact bodyPost_ret (v:=.tuple #[.slice none 0 0,.int .i64 1]) (by simp [results,Try.results132,go_sem]) rfl hfin
       · have d4:decide (8<n)=false:=by simpa using m4
         by_cases m5:base<0
         · have d5:decide (base<0)=true:=by simpa using m5
           rcases m1 with rfl | rfl
           all_goals
            go_wp2_with fail
            exact bodyPost_ret (v:=.tuple #[.slice none 0 0,.int .i64 1]) (by simp [results,Try.results132,go_sem]) rfl hfin
         · have d5:decide (base<0)=false:=by simpa using m5
           have d6:decide (loc<0)=true:=by rw [decide_eq_true_eq];omega
           rcases m1 with rfl | rfl
           all_goals
            go_wp2_with fail
            exact bodyPost_ret (v:=.tuple #[.slice none 0 0,.int .i64 1]) (by simp [results,Try.results132,go_sem]) rfl hfin
   · have d1:(mode != 1)=true:=by rw [bne_iff_ne];omega
     have d2:(mode != 2)=true:=by rw [bne_iff_ne];omega
     go_wp2_with fail
     exact bodyPost_ret (v:=.tuple #[.slice none 0 0,.int .i64 1]) (by simp [results,Try.results132,go_sem]) rfl hfin
theorem append_none {w:World}{ops:Array Oper}{rest:List Oper}{o:Oper}{a:Act}{Q:Exit->Act->World->Prop}{z:Value}{e t:TypeId}{size bytes:Nat}
  (hinfo:(Try.prog.info? e).map (fun i=>(i.zero,i.size,i.bytes))=some (some z,size,bytes))(hund:Try.prog.underlying t=some (.slice e))(hgd:o.guard=none)(s x:Operand)
  (ho:o.op=.call { callee:=.builtin .append,args:=#[s,x],argTypes:=#[t,t] })(base:Nat)(v:Value)(n:Nat)(xs:List Value)(hown:w.ownsRow base e size v n xs)(hs:a.eval s=v)(hx:a.eval x=.slice none 0 0)
  (h:wpList Try.prog ops Q rest (a.put o.dst v) w):wpList Try.prog ops Q (o :: rest) a w:=by
 obtain⟨i0,hi,hz0,hz1,hz2⟩:=info_parts hinfo
 exact wpList_append_own_none hgd s x t ho base e i0 size hund hi v n xs hs hown hx h
set_option maxRecDepth 100000 in
theorem mstrips1_p (w:World):Calls Try.prog 177 #[.int .i64 1] w fun e w'=>∃ A c,e=.returned (.slice A 0 c)/\Ext w w':=by
 go_enter Try.func177,Try.ntmps177
 go_wp2_with fail
 refine (mthreads_p 1 _ (by omega) (by omega)).mono ?_
 rintro e w' ⟨rfl,rfl⟩
 go_wp2_with fail
 go_loopw [3,6] (fun v i wr=>∃ j:Nat,i=.int .i64 j/\j<=1/\wr.ownsRow w.heap.size 109 3 v 0 []/\Ext w wr) (fun _ i _=>1-(intOf i).toNat)
 case atStart=>exact⟨0,rfl,by omega,World.ownsRow_nil _ _ _ _,Ext.refl _⟩
 case round =>
  obtain⟨j,rfl,hj,hown,hX⟩:=hrel
  by_cases hl:j<1
  · obtain rfl:j=0:=by omega
    go_wp2_with fail
    refine (tstrips_p 1 _ (by omega) (by omega)).mono ?_
    rintro e w2 ⟨v2,rfl,hr2,hx2⟩
    rw [show 2*((1-1:Int).toNat*(1-1:Int).toNat)=0 from rfl,show pairVals ((1-1:Int).toNat*(1-1:Int).toNat)=[] from rfl] at hr2
    replace hown:=row_ext hown hx2
    replace hX:=hX.trans hx2
    clear hx2
    rcases hr2.2 with⟨rfl,-⟩ | ⟨g,cap,cur,rfl,q1,q2,q3,q4,-⟩
    · clear hr2
      go_wp2_with (at_builtin;refine append_none info_strip Try.underlying106 rfl _ _ rfl w.heap.size _ 0 [] hown rfl rfl ?_)
      have hoh:=Lib.hid hown
      clear hown
      go_wp2_with fail
      refine⟨⟨1,by go_num,by omega,hoh.out,hX⟩,?_⟩
      simp [intOf]
    · clear hr2
      go_wp2_with (at_builtin;refine append_recs info_strip Try.underlying106 rfl (by decide) (by decide) rfl _ _ rfl _ 0 [] [] ⟨g,0,none⟩ 0 cap hX hown rfl rfl rfl (fun i u hu=>by simp at hu) (fun u hu=>by simp at hu) (by omega) (by omega) ?_)
      intro v' w' ho hx'
      have hoh:=Lib.hid ho
      clear hown ho q1 q2 q3 q4
      go_wp2_with fail
      refine⟨⟨1,by go_num,by omega,hoh.out,hx'⟩,?_⟩
      simp [intOf]
  · obtain rfl:j=1:=by omega
    obtain⟨A,c,rfl,-⟩:=Recs.of_row hown
    clear hown
    go_wp2_with fail
    go_ret
    exact⟨_,_,rfl,hX⟩
set_option maxRecDepth 100000 in
theorem cells71_p (base loc wr rd top:Int)(w:World):Calls Try.prog 45 #[.agg #[.int .i64 7,.int .i64 base,.int .i64 loc,.int .i64 1,.int .i64 wr,.int .i64 rd,.int .i64 top]] w fun e w'=>e=.returned (.int .i64 0)/\Ext w w':=by
 have hS:∀ w,Calls Try.prog 114 #[.agg #[.int .i64 7,.int .i64 base,.int .i64 loc,.int .i64 1,.int .i64 wr,.int .i64 rd,.int .i64 top]] w fun e w'=>∃ A c,e=.returned (.slice A 0 c)/\Ext w w':=by
  intro w
  have hX:=Ext.refl w
  have b1:=Blk.new w (.cells #[.int .i64 7,.int .i64 base,.int .i64 loc,.int .i64 1,.int .i64 wr,.int .i64 rd,.int .i64 top] 56)
  replace hX:=hX.alloc (.cells #[.int .i64 7,.int .i64 base,.int .i64 loc,.int .i64 1,.int .i64 wr,.int .i64 rd,.int .i64 top] 56)
  have c_b1:=b1.cells
  go_enter Try.func114,Try.ntmps114
  go_wp2_with fail
  refine (mstrips1_p _).mono ?_
  rintro e w2 ⟨A,c,rfl,hx⟩
  have hf:=Lib.hid (hX.trans hx)
  clear hx
  go_wp2_with fail
  go_ret
  exact⟨_,_,rfl,hf.out⟩
 have hX:=Ext.refl w
 have b1:=Blk.new w (.cells #[.int .i64 7,.int .i64 base,.int .i64 loc,.int .i64 1,.int .i64 wr,.int .i64 rd,.int .i64 top] 56)
 replace hX:=hX.alloc (.cells #[.int .i64 7,.int .i64 base,.int .i64 loc,.int .i64 1,.int .i64 wr,.int .i64 rd,.int .i64 top] 56)
 have c_b1:=b1.cells
 go_enter Try.func45,Try.ntmps45
 go_wp2_with fail
 refine (hS _).mono ?_
 rintro e w2 ⟨A,c,rfl,hx⟩
 have hf:=Lib.hid (hX.trans hx)
 clear hx hS c_b1 b1 hX
 go_wp2_with fail
 go_loopw [3,9] (fun s i wr=>i=.int .i64 0/\s=.int .i64 0/\w2=wr) (fun _ _ _=>0)
 case atStart=>exact⟨rfl,rfl,rfl⟩
 case round =>
  obtain⟨rfl,rfl,rfl⟩:=hrel
  go_wp2_with fail
  go_ret
  exact⟨rfl,hf.out⟩
theorem cells_all (r:Reg)(w:World)(hk:r.kind=1∨r.kind=6∨r.kind=7)(hn:1<=r.n/\r.n<=8):Calls Try.prog 45 #[encR r] w fun e w'=>e=.returned (.int .i64 (cellsM r))/\Ext w w':=by
 by_cases h:r.kind=7/\r.n=1
 · obtain⟨kind,base,loc,n,wr,rd,top⟩:=r
   obtain⟨rfl,rfl⟩:=h
   exact cells71_p base loc wr rd top w
 · exact cells_p r w (by omega) hn (fun w=>mthreads_p r.n w hn.1 hn.2)
theorem plan_p (va:Value)(l:List Want)(n mode base loc:Int)(w:World)(h:WantsAt w va l)(hlen:l.length<=1000) :
  Calls Try.prog 132 #[va,.int .i64 n,.int .i64 mode,.int .i64 base,.int .i64 loc] w (LayPost w.heap.size w (layM l n mode base loc)) :=
 lay_p va l n mode base loc w h hlen fun r w hd _=>cells_all r w hd.kind hd.n
end Go.Proofs.Ytbphlkaihfbgeaa
namespace Kv
open Go Go.RowKit
def renW:Nat->Nat->List Want
 | 0,_=>[]
 | k+1,N=>renW k N++[⟨-1,(N:Int)⟩,⟨-1,1⟩]
theorem renW_len (N:Nat):∀ k:Nat,(renW k N).length=2*k
 | 0=>rfl
 | k+1=>by
   rw [renW,List.length_append,renW_len N k]
   rfl
theorem triN_le {N:Nat}(h1:1<=N)(h2:N<=8):1<=triN N/\triN N<=36:=by
 have a:=triN_mono h1
 have b:=triN_mono h2
 rw [show triN 1=1 from by decide] at a
 rw [show triN 8=36 from by decide] at b
 exact⟨a,b⟩
end Kv
namespace Go.Proofs.Ytbphlkaihfbgeaa
open Go.RowKit Kv
set_option maxRecDepth 100000 in
set_option maxHeartbeats 1000000 in
theorem renwants_p (N:Nat)(w:World)(h1:1<=N)(h2:N<=8) :
  Calls Try.prog 133 #[.int .i64 N] w fun e w'=>∃ v,e=.returned v/\w'.ownsRow w.heap.size 91 2 v (2*triN N) ((renW (triN N) N).flatMap wantVals)/\Ext w w':=by
 have e1:min (max (N:Int) 1) 8=N:=by omega
 have hS:=fun w=>gsize_p N (by omega) w
 have hW:=fun w=>swants_p N w
 rw [show nM (N:Int)=N from nM_id (by omega) (by omega)] at hW
 obtain⟨q1,q2⟩:=triN_le h1 h2
 generalize triN N=M at *
 go_enter Try.func133,Try.ntmps133
 go_wp2_with fail
 refine (hS _).mono ?_
 rintro e w' ⟨rfl,rfl⟩
 go_wp2_with fail
 go_loopw [3,9] (fun v i wr=>∃ j:Nat,i=.int .i64 j/\j<=M/\wr.ownsRow w.heap.size 91 2 v (2*j) ((renW j N).flatMap wantVals)/\Ext w wr) (fun _ i _=>M-(intOf i).toNat)
 case atStart=>exact⟨0,rfl,by omega,World.ownsRow_nil _ _ _ _,Ext.refl _⟩
 case round =>
  obtain⟨j,rfl,hj,hown,hX⟩:=hrel
  by_cases hl:j<M
  · go_wp2_with fail
    refine (hW _).mono ?_
    rintro e w3 ⟨v2,rfl,hr2,hx3⟩
    replace hown:=row_ext hown hx3
    replace hX:=hX.trans hx3
    obtain⟨A,c,rfl,r1,r2,hV⟩:=hr2
    obtain⟨b,rfl,hb,hc⟩:=hV (by simp [wantVals])
    clear hV hx3
    go_wp2_with (at_builtin;refine append_recs info_want Try.underlying46 rfl (by decide) (by decide) rfl _ _ rfl _ (2*j) _ (([⟨-1,(N:Int)⟩,⟨-1,1⟩]:List Want).flatMap wantVals) ⟨b,0,none⟩ 2 c hX hown rfl rfl rfl (fun i u hu=>by rw [Addr.add_lit,Nat.zero_add];exact hc i u hu) (fun u hu=>by simp [wantVals] at hu;rcases hu with rfl | rfl | rfl | rfl <;> rfl) (by omega) (by omega) ?_)
    intro v' w' ho hx'
    have hoh:Hid (w'.ownsRow w.heap.size 91 2 v' (2*(j+1)) ((renW (j+1) N).flatMap wantVals)):=Lib.hid (by
     rw [renW,List.flatMap_append];exact ho)
    clear hown ho hc
    go_wp2_with fail
    refine⟨⟨j+1,by go_num,by omega,hoh.out,hx'⟩,?_⟩
    simp [intOf];omega
  · obtain rfl:j=M:=by omega
    have hownh:=Lib.hid hown
    clear hown
    go_wp2_with fail
    go_ret
    exact⟨_,rfl,hownh.out,hX⟩
theorem renwants_at {N:Nat}{w:World}{B:Nat}{v:Value}(h:w.ownsRow B 91 2 v (2*triN N) ((renW (triN N) N).flatMap wantVals)):WantsAt w v (renW (triN N) N):=by
 have:=Recs.of_row h
 unfold WantsAt
 rw [renW_len]
 exact this
end Go.Proofs.Ytbphlkaihfbgeaa
namespace Kv
inductive Prog.Sets {α:Type} (lo hi:Int):Prog α->Prop
 | ret (a:α):Sets lo hi (.ret a)
 | read (c:Int) {k:Int->Prog α}:(∀ x,Sets lo hi (k x))->Sets lo hi (.read c k)
 | write (c v:Int) {k:Unit->Prog α}:Sets lo hi (k ())->Sets lo hi (.write c v k)
 | get (i:Int) {k:Int->Prog α}:(∀ x,Sets lo hi (k x))->Sets lo hi (.get i k)
 | set (i v:Int) {k:Unit->Prog α}:lo<=i->i<hi->Sets lo hi (k ())->Sets lo hi (.set i v k)
 | note (m:Int) {k:Unit->Prog α}:Sets lo hi (k ())->Sets lo hi (.note m k)
theorem Prog.Sets.bind {α β:Type}{lo hi:Int}{p:Prog α}{f:α->Prog β}(h:p.Sets lo hi)(hf:∀ a,(f a).Sets lo hi):(p.bind f).Sets lo hi:=by
 induction h with
 | ret a=>exact hf a
 | read c _ ih=>exact .read c fun x=>ih x
 | write c v _ ih=>exact .write c v ih
 | get c _ ih=>exact .get c fun x=>ih x
 | set c v h1 h2 _ ih=>exact .set c v h1 h2 ih
 | note m _ ih=>exact .note m ih
theorem Prog.Sets.mono {α:Type}{lo hi lo' hi':Int}{p:Prog α}(h:p.Sets lo hi)(h1:lo'<=lo)(h2:hi<=hi'):p.Sets lo' hi':=by
 induction h with
 | ret a=>exact .ret a
 | read c _ ih=>exact .read c fun x=>ih x
 | write c v _ ih=>exact .write c v ih
 | get c _ ih=>exact .get c fun x=>ih x
 | set c v h3 h4 _ ih=>exact .set c v (by omega) (by omega) ih
 | note m _ ih=>exact .note m ih
theorem Prog.Sets.got {α:Type}{lo hi i:Int}{p:Prog α}(h:p.Sets lo hi)(hi2:i<lo∨hi<=i):∀ S:TS,(p.run S).2.got i=S.got i:=by
 induction h with
 | ret a=>intro S;rfl
 | read c _ ih =>
   intro S
   simp only [Prog.run]
   cases S.next with
   | none=>rfl
   | some v=>exact (ih v _).trans rfl
 | write c v _ ih =>
   intro S
   simp only [Prog.run]
   cases S.next with
   | none=>rfl
   | some _=>exact (ih _).trans rfl
 | get c _ ih=>intro S;exact ih _ _
 | set j v h1 h2 _ ih =>
   intro S
   refine (ih (S.upd j v)).trans ?_
   unfold TS.got TS.upd
   split
   · rfl
   · split
     · simp only
       rw [if_neg (by omega)]
     · rfl
 | note m _ ih=>intro S;exact (ih _).trans rfl
theorem ranks_mem {but:Int}:∀ (n:Nat) (i:Int) {a:Int},a∈ranksFrom but n i->i<=a/\a<i+n/\a≠but
 | 0,i,a,h=>by cases h
 | n+1,i,a,h=>by
   unfold ranksFrom at h
   split at h
   · have:=ranks_mem n (i+1) h
     omega
   · rcases List.mem_cons.1 h with rfl | h
     · omega
     · have:=ranks_mem n (i+1) h
       omega
theorem tells_bd {k a b:Int}(ha:0<=a)(ha2:a<k)(hb:0<=b)(hb2:b<k)(hab:a≠b):0<=tellsM k a b/\tellsM k a b<k*k:=by
 unfold tellsM
 have h1:a*(k-1)<=(k-1)*(k-1):=Int.mul_le_mul_of_nonneg_right (by omega) (by omega)
 have h0:0<=a*(k-1):=Int.mul_nonneg ha (by omega)
 have h2:(k-1)*(k-1)=k*k-2*k+1:=by
  rw [Int.sub_mul,Int.mul_sub,Int.mul_one,Int.one_mul];omega
 split
 · omega
 · rename_i h
   by_cases e:a=k-1
   · omega
   · have h3:a*(k-1)<=(k-2)*(k-1):=Int.mul_le_mul_of_nonneg_right (by omega) (by omega)
     have h4:(k-2)*(k-1)=k*k-3*k+2:=by
      rw [Int.sub_mul,Int.mul_sub,Int.mul_one];omega
     omega
theorem Prog.bind_some {α β:Type}{p:Prog α}{f:α->Prog β}{S S':TS}{b:β}(h:(p.bind f).run S=(some b,S')):∃ a S1,p.run S=(some a,S1)/\(f a).run S1=(some b,S'):=by
 rw [Prog.run_bind] at h
 rcases hr:p.run S with⟨o,S1⟩
 rw [hr] at h
 cases o with
 | none=>simp [thenR] at h
 | some a=>exact⟨a,S1,rfl,h⟩
end Kv
namespace Go.Proofs.Ytbphlkaihfbgeaa
open Kv
end Go.Proofs.Ytbphlkaihfbgeaa
namespace Kv
def sumC (l:List Reg):Int:=(l.map cellsM).sum
def sumL (l:List Reg):Int:=(l.map localsM).sum
theorem sumC_next {l:List Reg}{j:Nat}{r:Reg}(h:l[j]?=some r):sumC (l.take (j+1))=sumC (l.take j)+cellsM r:=by
 unfold sumC
 rw [List.take_add_one,h]
 simp [List.sum_append]
theorem sumL_next {l:List Reg}{j:Nat}{r:Reg}(h:l[j]?=some r):sumL (l.take (j+1))=sumL (l.take j)+localsM r:=by
 unfold sumL
 rw [List.take_add_one,h]
 simp [List.sum_append]
theorem sum_bd {l:List Reg}(h:∀ r∈l,r.ok):∀ j:Nat,j<=l.length->(0<=sumC (l.take j)/\sumC (l.take j)<=6272*j)/\(0<=sumL (l.take j)/\sumL (l.take j)<=7072*j)
 | 0,_=>by simp [sumC,sumL]
 | j+1,hj=>by
   obtain⟨r,hr⟩:∃ r,l[j]?=some r:=⟨_,List.getElem?_eq_getElem (by omega)⟩
   have h1:=sum_bd h j (by omega)
   have h2:=cells_nat r (h r (List.mem_of_getElem? hr)).n
   rw [sumC_next hr,sumL_next hr]
   omega
end Kv
namespace Go.Proofs.Ytbphlkaihfbgeaa
open Go.RowKit Kv
set_option maxRecDepth 100000 in
set_option maxHeartbeats 1000000 in
theorem size_p (b c:Nat)(rs:List Reg)(w:World)(hb:b<w.heap.size)(hc:∀ (i:Nat) u,(rs.flatMap regVals)[i]?=some u->w.cell? ⟨b,i,none⟩=some u)(hok:∀ r∈rs,r.ok)(hl:rs.length<=300) :
  Calls Try.prog 134 #[.slice (some ⟨b,0,none⟩) rs.length c] w fun e w'=>e=.returned (.tuple #[.int .i64 (sumC rs),.int .i64 (sumL rs)])/\Ext w w':=by
 have hokh:=Lib.hid hok
 have hbd:=Lib.hid (sum_bd hok)
 have hch:=Lib.hid hc
 clear hok hc
 go_enter Try.func134,Try.ntmps134
 go_wp2_with fail
 go_loopw [4,5,10] (fun u v i wr=>∃ j:Nat,i=.int .i64 j/\j<=rs.length/\u=.int .i64 (sumC (rs.take j))/\v=.int .i64 (sumL (rs.take j))/\Ext w wr) (fun _ _ i _=>rs.length-(intOf i).toNat)
 case atStart=>exact⟨0,rfl,by omega,rfl,rfl,Ext.refl w⟩
 case round =>
  obtain⟨j,rfl,hj,rfl,rfl,hX⟩:=hrel
  by_cases hlt:j<rs.length
  · have dl:decide ((j:Int)<(rs.length:Int))=true:=by rw [decide_eq_true_eq];omega
    obtain⟨r,hr⟩:∃ r,rs[j]?=some r:=⟨_,List.getElem?_eq_getElem hlt⟩
    have hrk:=hokh.out r (List.mem_of_getElem? hr)
    have h1:=hbd.out j (by omega)
    have h2:=cells_nat r hrk.n
    have n1:=sumC_next hr
    have n2:=sumL_next hr
    obtain⟨a0,a1,a2,a3,a4,a5,a6⟩:=reg_cells (w:=wr) (b:=b) (fun i u hu=>(hX.cell (p:=⟨b,i,none⟩) hb).trans (hch.out i u hu)) hr
    have hC:=fun w=>cells_all r w hrk.kind hrk.n
    have hL:=fun w=>locals_p r w hrk.kind hrk.n
    unfold encR at hC hL
    have w1:IntKind.i64.wrap (sumC (rs.take j)+cellsM r)=sumC (rs.take (j+1)):=by rw [IntWalk.i64_in _ (by omega),n1]
    have w2:IntKind.i64.wrap (sumL (rs.take j)+localsM r)=sumL (rs.take (j+1)):=by rw [IntWalk.i64_in _ (by omega),n2]
    have c_n:=fun i=>cell_of_heap (heap_alloc_new wr (.cells #[.int .i64 r.kind,.int .i64 r.base,.int .i64 r.loc,.int .i64 r.n,.int .i64 r.wr,.int .i64 r.rd,.int .i64 r.top] 56)) i
    have hX1:=hX.alloc (.cells #[.int .i64 r.kind,.int .i64 r.base,.int .i64 r.loc,.int .i64 r.n,.int .i64 r.wr,.int .i64 r.rd,.int .i64 r.top] 56)
    have g1:=Blk.new wr (.cells #[.int .i64 r.kind,.int .i64 r.base,.int .i64 r.loc,.int .i64 r.n,.int .i64 r.wr,.int .i64 r.rd,.int .i64 r.top] 56)
    clear hr h1 h2 n1 n2
    go_wp2_with fail
    refine (hC _).mono ?_
    rintro e w2 ⟨rfl,hx2⟩
    clear c_n
    have g2:=g1.ext hx2
    have c_g:=g2.cells
    replace hX1:=hX1.trans hx2
    clear hx2 a0 a1 a2 a3 a4 a5 a6 g1
    go_wp2_with fail
    refine (hL _).mono ?_
    rintro e w3 ⟨rfl,hx3⟩
    replace hX1:=hX1.trans hx3
    clear hx3 c_g g2
    go_wp2_with fail
    refine⟨⟨j+1,by go_num,by omega,rfl,rfl,hX1⟩,?_⟩
    simp [intOf];omega
  · obtain rfl:j=rs.length:=by omega
    have dl:decide ((rs.length:Int)<(rs.length:Int))=false:=by rw [decide_eq_false_iff_not];omega
    rw [List.take_length]
    go_wp2_with fail
    first | go_ret2 | go_ret
    exact⟨rfl,hX⟩
structure BelowX (X:Nat->Prop) (w w':World):Prop where
 os:w'.os=w.os
 tape:w'.tape=w.tape
 output:w'.output=w.output
 size:w.heap.size<=w'.heap.size
 blocks:∀ k,k<w.heap.size->¬ X k->w'.heap[k]?=w.heap[k]?
theorem BelowX.of {X:Nat->Prop}{w w':World}(h:Ext w w'):BelowX X w w':=⟨h.os,h.tape,h.output,h.size,fun k hk _=>h.block k hk⟩
theorem BelowX.refl (X:Nat->Prop)(w:World):BelowX X w w:=BelowX.of (Ext.refl w)
theorem BelowX.trans {X:Nat->Prop}{w w' w'':World}(h:BelowX X w w')(g:BelowX X w' w''):BelowX X w w'' :=
 ⟨g.os.trans h.os,g.tape.trans h.tape,g.output.trans h.output,Nat.le_trans h.size g.size,fun k hk hx=>(g.blocks k (Nat.lt_of_lt_of_le hk h.size) hx).trans (h.blocks k hk hx)⟩
theorem BelowX.set {X:Nat->Prop}{w w':World}(h:BelowX X w w'){b:Nat}(hb:X b)(i:Nat)(v:Value):BelowX X w (w'.setCell ⟨b,i,none⟩ v):=by
 have e:∀ k,k≠b->(w'.setCell ⟨b,i,none⟩ v).heap[k]?=w'.heap[k]?:=fun k hk=>heap_setCell_ne _ _ hk
 exact⟨h.os,h.tape,h.output,by simpa using h.size,fun k hk hx=>(e k (fun hkb=>hx (hkb▸hb))).trans (h.blocks k hk hx)⟩
theorem BelowX.mono {X Y:Nat->Prop}{w w':World}(h:BelowX X w w')(hxy:∀ k,X k->Y k):BelowX Y w w' :=
 ⟨h.os,h.tape,h.output,h.size,fun k hk hx=>h.blocks k hk fun q=>hx (hxy k q)⟩
theorem BelowX.blk {X:Nat->Prop}{w w':World}(h:BelowX X w w'){b:Nat}{o:Obj}(hb:Blk w b o)(hx:¬ X b):Blk w' b o:=(h.blocks b hb.lt hx).trans hb
theorem BelowX.ints {X:Nat->Prop}{w w':World}{v:Value}{l:List Int}(h:BelowX X w w')(hl:Ints w v l)(hx:∀ b,v.ownBlock=some b->¬ X b):Ints w' v l:=by
 obtain⟨A,c,rfl,h1,h2,h3⟩:=hl
 refine⟨A,c,rfl,h1,h2,fun hne=>?_⟩
 obtain⟨b,off,rfl,hb,hc⟩:=h3 hne
 refine⟨b,off,rfl,Nat.lt_of_lt_of_le hb h.size,fun i x hi=>?_⟩
 rw [<- hc i x hi]
 unfold World.cell?
 simp only
 rw [h.blocks b hb (hx b rfl)]
theorem BelowX.grown {X:Nat->Prop}{w w' wr:World}{o:Obj}{row:Option Nat}(h:BelowX X w wr)(hg:(wr.alloc o).grownBy w' row)(hr:∀ b,row=some b->w.heap.size<=b):BelowX X w w':=by
 have h1:=h.trans (BelowX.of ((Ext.refl wr).alloc o))
 exact⟨hg.os.trans h1.os,hg.tape.trans h1.tape,hg.output.trans h1.output,Nat.le_trans h1.size hg.size,fun k hk hx=>(hg.block k (Nat.lt_of_lt_of_le hk h1.size) (fun e=>by have:=hr k e.symm;omega)).trans (h1.blocks k hk hx)⟩
def rowOf (l:List Int):List Value:=l.map (Value.int .i64)
structure ARows (B:Nat) (bs:List Nat) (w:World) (vs:Array Value) (ans:Nat->List Int) (n:Nat):Prop where
 sz:vs.size=n
 ge:B<=w.heap.size
 row:∀ t,t<n->∃ v,vs[t]?=some v/\w.ownsRow B 3 1 v (ans t).length (rowOf (ans t))
 off:∀ (t:Nat) (v:Value) (b:Nat),vs[t]?=some v->v.ownBlock=some b->b ∉ bs
 apart:∀ (t s:Nat) (v u:Value) (b:Nat),t≠s->vs[t]?=some v->vs[s]?=some u->v.ownBlock=some b->u.ownBlock≠some b
section
variable {B n:Nat} {bs:List Nat} {w W:World} {vs:Array Value} {ans:Nat->List Int}
theorem own_ge {v:Value}{k:Nat}{xs:List Value}(h:w.ownsRow B 3 1 v k xs){b:Nat}(hb:v.ownBlock=some b):B<=b/\b<w.heap.size:=by
 rcases h.2 with⟨rfl,_⟩ | ⟨g,cap,cur,rfl,h1,h2,_⟩
 · simp [Value.ownBlock] at hb
 · simp only [Value.ownBlock,Option.some.injEq] at hb
   subst hb
   exact⟨h1,(Array.getElem?_eq_some_iff.1 h2).1⟩
theorem ARows.ints (h:ARows B bs w vs ans n){t:Nat}(ht:t<n):∃ A c,vs[t]?=some (.slice A (ans t).length c)/\Ints w (.slice A (ans t).length c) (ans t)/\w.ownsRow B 3 1 (.slice A (ans t).length c) (ans t).length (rowOf (ans t)):=by
 obtain⟨v,h1,h2⟩:=h.row t ht
 have h3:=IntRow.ints (show IntRow w B v (ans t) from h2)
 obtain⟨A,c,rfl,_⟩:=h3.slice
 exact⟨A,c,h1,h3,h2⟩
theorem ARows.ext (h:ARows B bs w vs ans n)(hx:Ext w W):ARows B bs W vs ans n :=
 { h with
  ge:=Nat.le_trans h.ge hx.size
  row:=fun t ht=>by
   obtain⟨v,h1,h2⟩:=h.row t ht
   exact⟨v,h1,row_ext h2 hx⟩ }
theorem ARows.set (h:ARows B bs w vs ans n){b:Nat}(hb:b∈bs)(i:Nat)(u:Value):ARows B bs (w.setCell ⟨b,i,none⟩ u) vs ans n :=
 { h with
  ge:=by simpa using h.ge
  row:=fun t ht=>by
   obtain⟨v,h1,h2⟩:=h.row t ht
   exact⟨v,h1,row_set h2 fun e=>h.off t v b h1 e hb⟩ }
theorem ARows.more (h:ARows B bs w vs ans n){b:Nat}(hb:w.heap.size<=b):ARows B (b :: bs) w vs ans n :=
 { h with
  off:=fun t v k h1 h2 hk=>by
   have ht:t<n:=by rw [<- h.sz];exact (Array.getElem?_eq_some_iff.1 h1).1
   obtain⟨v',q1,q2⟩:=h.row t ht
   rw [q1] at h1
   injection h1 with h1
   subst h1
   have:=own_ge q2 h2
   rcases List.mem_cons.1 hk with rfl | hk
   · omega
   · exact h.off t _ k q1 h2 hk }
theorem ARows.less {cs:List Nat}(h:ARows B bs w vs ans n)(hc:∀ b∈cs,b∈bs):ARows B cs w vs ans n :=
 { h with off:=fun t v k h1 h2 hk=>h.off t v k h1 h2 (hc k hk) }
theorem ARows.grow (h:ARows B bs w vs ans n){t:Nat}(ht:t<n){v:Value}(hv:vs[t]?=some v){g cap:Nat}{y:Int}
  (hown:W.ownsRow B 3 1 (.slice (some ⟨g,0,none⟩) ((ans t).length+1) cap) ((ans t).length+1) (rowOf (ans t)++[Value.int .i64 y]))(hg:w.grownBy W v.ownBlock)(hat:v.ownBlock=some g∨w.heap.size<=g)(hbs:∀ b∈bs,b<w.heap.size) :
  ARows B bs W (vs.setIfInBounds t (.slice (some ⟨g,0,none⟩) ((ans t).length+1) cap)) (fun s=>if s=t then ans t++[y] else ans s) n:=by
 have hsz:=h.sz
 have fresh:∀ (s:Nat) (u:Value) (b:Nat),vs[s]?=some u->u.ownBlock=some b->B<=b/\b<w.heap.size:=fun s u b h1 h2=>by
  have hs:s<n:=by rw [<- hsz];exact (Array.getElem?_eq_some_iff.1 h1).1
  obtain⟨u',q1,q2⟩:=h.row s hs
  rw [q1] at h1
  injection h1 with h1
  subst h1
  exact own_ge q2 h2
 have other:∀ (s:Nat) (u:Value),s≠t->vs[s]?=some u->u.ownBlock≠some g:=fun s u hs h1 h2=>by
  rcases hat with e | e
  · exact h.apart t s v u g (Ne.symm hs) hv h1 e h2
  · have:=(fresh s u g h1 h2).2
    omega
 have get:∀ s u,(vs.setIfInBounds t (.slice (some ⟨g,0,none⟩) ((ans t).length+1) cap))[s]?=some u->(s=t/\u=.slice (some ⟨g,0,none⟩) ((ans t).length+1) cap)∨(s≠t/\vs[s]?=some u):=fun s u h1=>by
  by_cases e:t=s
  · subst e
    rw [Array.getElem?_setIfInBounds_self_of_lt (by omega)] at h1
    injection h1 with h1
    exact .inl ⟨rfl,h1.symm⟩
  · rw [Array.getElem?_setIfInBounds_ne e] at h1
    exact .inr ⟨Ne.symm e,h1⟩
 refine⟨by simp [hsz],Nat.le_trans h.ge hg.size,fun s hs=>?_,fun s u b h1 h2 hb=>?_,fun s r u u' b hne h1 h1' h2 h2'=>?_⟩
 · by_cases e:s=t
   · subst e
     refine⟨_,Array.getElem?_setIfInBounds_self_of_lt (by omega),?_⟩
     rw [if_pos rfl]
     unfold rowOf at hown ⊢
     rw [List.length_append,List.map_append]
     exact hown
   · obtain⟨u,q1,q2⟩:=h.row s hs
     refine⟨u,by rw [Array.getElem?_setIfInBounds_ne (Ne.symm e)];exact q1,?_⟩
     rw [if_neg e]
     refine q2.kept hg ?_
     cases hu:u.ownBlock with
     | none=>exact .inl rfl
     | some b=>exact .inr fun e2=>h.apart s t u v b e q1 hv hu e2.symm
 · rcases get s u h1 with⟨rfl,rfl⟩ | ⟨hs,h1⟩
   · simp only [Value.ownBlock,Option.some.injEq] at h2
     subst h2
     rcases hat with e | e
     · exact h.off s v g hv e hb
     · have:=hbs g hb
       omega
   · exact h.off s u b h1 h2 hb
 · rcases get s u h1 with⟨rfl,rfl⟩ | ⟨hs,h1⟩
   · simp only [Value.ownBlock,Option.some.injEq] at h2
     subst h2
     rcases get r u' h1' with⟨rfl,_⟩ | ⟨hr,h1'⟩
     · exact hne rfl
     · exact other r u' hr h1' h2'
   · rcases get r u' h1' with⟨hr,rfl⟩ | ⟨hr,h1'⟩
     · simp only [Value.ownBlock,Option.some.injEq] at h2'
       subst h2'
       rename_i hvs
       first | exact other s u (by omega) hvs h2 | exact other s u (by omega) h1 h2
     · exact h.apart s r u u' b hne ‹vs[s]?=some u› h1' h2 h2'
theorem ARows.clear (h:ARows B bs w vs ans n)(t:Nat):ARows B bs w (vs.setIfInBounds t (.slice none 0 0)) (fun s=>if s=t then [] else ans s) n:=by
 have hsz:=h.sz
 have get:∀ s u b,(vs.setIfInBounds t (.slice none 0 0))[s]?=some u->u.ownBlock=some b->s≠t/\vs[s]?=some u:=fun s u b h1 h2=>by
  by_cases e:t=s
  · subst e
    have hl:t<vs.size:=by
     have:=(Array.getElem?_eq_some_iff.1 h1).1
     simpa using this
    rw [Array.getElem?_setIfInBounds_self_of_lt hl] at h1
    injection h1 with h1
    subst h1
    simp [Value.ownBlock] at h2
  · rw [Array.getElem?_setIfInBounds_ne e] at h1
    exact⟨Ne.symm e,h1⟩
 refine⟨by simp [hsz],h.ge,fun s hs=>?_,fun s u b h1 h2=>h.off s u b (get s u b h1 h2).2 h2,fun s r u u' b hne h1 h1' h2 h2'=>h.apart s r u u' b hne (get s u b h1 h2).2 (get r u' b h1' h2').2 h2 h2'⟩
 by_cases e:s=t
 · subst e
   refine⟨.slice none 0 0,Array.getElem?_setIfInBounds_self_of_lt (by omega),?_⟩
   rw [if_pos rfl]
   exact⟨rfl,.inl ⟨rfl,rfl⟩⟩
 · obtain⟨u,q1,q2⟩:=h.row s hs
   refine⟨u,by rw [Array.getElem?_setIfInBounds_ne (Ne.symm e)];exact q1,?_⟩
   rw [if_neg e]
   exact q2
theorem ARows.start (B:Nat)(bs:List Nat)(w:World)(hB:B<=w.heap.size)(n:Nat):ARows B bs w (Array.replicate n (.slice none 0 0)) (fun _=>[]) n:=by
 have get:∀ (s:Nat) u,(Array.replicate n (Value.slice none 0 0))[s]?=some u->u=.slice none 0 0:=fun s u h=>by
  have:=Array.mem_of_getElem? h
  simp at this
  exact this.2
 refine⟨by simp,hB,fun t ht=>⟨.slice none 0 0,by simp [ht],rfl,.inl ⟨rfl,rfl⟩⟩,fun t v b h1 h2=>?_,fun t s v u b _ h1 _ h2=>?_⟩
 · rw [get t v h1] at h2
   simp [Value.ownBlock] at h2
 · rw [get t v h1] at h2
   simp [Value.ownBlock] at h2
end
end Go.Proofs.Ytbphlkaihfbgeaa
namespace Kv
def zeros (n:Nat):List Int:=List.replicate n 0
end Kv
namespace Go.Proofs.Ytbphlkaihfbgeaa
open Go.RowKit Kv
theorem make_ints (l:Int)(k:Nat)(hl:l=k)(hk:k<=100000)(w:World) :
  (Instr.makeSlice 28 (.int .i64 l) (.int .i64 l)).run Try.prog w=.ok (.slice (some ⟨w.heap.size,0,none⟩) k k) (w.alloc (.cells ((zeros k).map (Value.int .i64)).toArray 3)):=by
 subst hl
 obtain⟨i0,hi,hz0,hz1,hz2⟩:=info_parts info_int
 have hr:=run_makeSlice (P:=Try.prog) w 28 3 i0 (.int .i64 0) Try.underlying28 hi hz0 .i64 .i64 k k (by omega) (by omega) (by rw [hz1];simp;omega) (by rw [hz2];omega) (by omega)
 rw [Int.toNat_natCast,hz1,Nat.mul_one] at hr
 have he:madeCells (Value.int .i64 0).cells k=((zeros k).map (Value.int .i64)).toArray:=by
  unfold zeros madeCells
  apply Array.ext'
  rw [List.map_replicate]
  apply List.ext_getElem?
  intro j
  by_cases hj:j<k
  · simp [hj,Nat.mod_one,Value.cells]
  · simp [hj]
 rw [hr,he]
theorem blk_ne {w:World}{b b' i:Nat}{o:Obj}(h:Blk w b o)(hne:b≠b')(u:Value):Blk (w.setCell ⟨b',i,none⟩ u) b o:=by
 show (w.setCell ⟨b',i,none⟩ u).heap[b]?=_
 rw [heap_setCell_ne _ _ hne]
 exact h
def fours (f:Nat->Int):List Value:=(List.range 4).map fun t=>Value.int .i64 (f t)
theorem fours_at {f:Nat->Int}{t:Nat}(h:t<4):(fours f).toArray[t]?=some (.int .i64 (f t)):=by simp [fours,h]
def putF (f:Nat->Int) (t:Nat) (x:Int):Nat->Int:=fun s=>if s=t then x else f s
theorem fours_put {f:Nat->Int}{t:Nat}{x:Int}(h:t<4):(fours f).toArray.setIfInBounds t (.int .i64 x)=(fours (putF f t x)).toArray:=by
 apply Array.ext_getElem?
 intro i
 by_cases hi:t=i
 · subst hi
   rw [Array.getElem?_setIfInBounds_self_of_lt (by simpa [fours] using h),fours_at h]
   simp [putF]
 · rw [Array.getElem?_setIfInBounds_ne hi]
   by_cases h4:i<4
   · rw [fours_at h4,fours_at h4]
     simp [putF,Ne.symm hi]
   · rw [Array.getElem?_eq_none (by simp [fours];omega),Array.getElem?_eq_none (by simp [fours];omega)]
theorem box_end {V0 wq:World}{bz:Nat}{T:TypeId}{v0 v:Value}(hz:Blk wq bz (.cells #[v0] T))(hx:Ext V0 wq)(hV:V0.heap.size<=bz):Ext V0 (wq.setCell ⟨bz,0,none⟩ v)/\Blk (wq.setCell ⟨bz,0,none⟩ v) bz (.cells #[v] T) :=
 ⟨hx.setCell (p:=⟨bz,0,none⟩) hV v,heap_setCell hz v⟩
structure QMem (w0:World) (bn bl bc ba bp:Nat) (on ol:Obj) (wr:World) (M:List Int) (ph:Nat->Int) (ans:Nat->List Int) (vs:Array Value):Prop where
 ext:Ext w0 wr
 kN:Blk wr bn on
 kL:Blk wr bl ol
 kC:Blk wr bc (.cells (M.map (Value.int .i64)).toArray 3)
 kA:Blk wr ba (.cells vs 58)
 kP:Blk wr bp (.cells (fours ph).toArray 50)
 rows:ARows w0.heap.size [bn,bl,bc,ba,bp] wr vs ans 4
 lo:bn<w0.heap.size/\bl<w0.heap.size
 ge:w0.heap.size<=bc/\w0.heap.size<=ba/\w0.heap.size<=bp
 ne:bn≠bl/\bn≠bc/\bn≠ba/\bn≠bp/\bl≠bc/\bl≠ba/\bl≠bp/\bc≠ba/\bc≠bp/\ba≠bp
section
variable {w0 wr W:World} {bn bl bc ba bp:Nat} {on ol:Obj} {M:List Int} {ph:Nat->Int} {ans:Nat->List Int} {vs:Array Value}
theorem QMem.keep (h:QMem w0 bn bl bc ba bp on ol wr M ph ans vs)(hx:Ext wr W):QMem w0 bn bl bc ba bp on ol W M ph ans vs :=
 { h with
  ext:=h.ext.trans hx,kN:=h.kN.ext hx,kL:=h.kL.ext hx,kC:=h.kC.ext hx,kA:=h.kA.ext hx,kP:=h.kP.ext hx,rows:=h.rows.ext hx }
theorem QMem.setC (h:QMem w0 bn bl bc ba bp on ol wr M ph ans vs)(i:Nat)(u:Int):QMem w0 bn bl bc ba bp on ol (wr.setCell ⟨bc,i,none⟩ (.int .i64 u)) (M.set i u) ph ans vs:=by
 obtain⟨n1,n2,n3,n4,n5,n6,n7,n8,n9,n10⟩:=h.ne
 exact { h with
  ext:=h.ext.setCell (p:=⟨bc,i,none⟩) h.ge.1 _,kN:=blk_ne h.kN n2 _,kL:=blk_ne h.kL n5 _,kA:=blk_ne h.kA (Ne.symm n8) _,kP:=blk_ne h.kP (Ne.symm n9) _
  kC:=by
   have q:=heap_setCell (i:=i) h.kC (.int .i64 u)
   rw [List.map_set,<- List.setIfInBounds_toArray]
   exact q
  rows:=h.rows.set (by simp) _ _ }
theorem QMem.setP (h:QMem w0 bn bl bc ba bp on ol wr M ph ans vs){t:Nat}(ht:t<4)(x:Int):QMem w0 bn bl bc ba bp on ol (wr.setCell ⟨bp,t,none⟩ (.int .i64 x)) M (putF ph t x) ans vs:=by
 obtain⟨n1,n2,n3,n4,n5,n6,n7,n8,n9,n10⟩:=h.ne
 exact { h with
  ext:=h.ext.setCell (p:=⟨bp,t,none⟩) h.ge.2.2 _,kN:=blk_ne h.kN n4 _,kL:=blk_ne h.kL n7 _,kC:=blk_ne h.kC n9 _,kA:=blk_ne h.kA n10 _
  kP:=by rw [<- fours_put ht];exact heap_setCell h.kP _
  rows:=h.rows.set (by simp) _ _ }
theorem QMem.same (h:QMem w0 bn bl bc ba bp on ol wr M ph ans vs){ph':Nat->Int}(he:∀ t,t<4->ph' t=ph t):QMem w0 bn bl bc ba bp on ol wr M ph' ans vs :=
 { h with
  kP:=by
   have:fours ph'=fours ph:=by
    unfold fours
    refine List.map_congr_left fun t ht=>?_
    rw [he t (by simpa using ht)]
   rw [this]
   exact h.kP }
theorem QMem.clear (h:QMem w0 bn bl bc ba bp on ol wr M ph ans vs)(t:Nat):QMem w0 bn bl bc ba bp on ol (wr.setCell ⟨ba,t,none⟩ (.slice none 0 0)) M ph (fun s=>if s=t then [] else ans s) (vs.setIfInBounds t (.slice none 0 0)):=by
 obtain⟨n1,n2,n3,n4,n5,n6,n7,n8,n9,n10⟩:=h.ne
 exact { h with
  ext:=h.ext.setCell (p:=⟨ba,t,none⟩) h.ge.2.1 _,kN:=blk_ne h.kN n3 _,kL:=blk_ne h.kL n6 _,kC:=blk_ne h.kC n8 _,kP:=blk_ne h.kP (Ne.symm n10) _
  kA:=heap_setCell h.kA _
  rows:=(h.rows.clear t).set (by simp) _ _ }
theorem row_type {w:World}{B k b:Nat}{v:Value}{xs:List Value}{cs:Array Value}{T:TypeId}(h:w.ownsRow B 3 1 v k xs)(hb:Blk w b (.cells cs T))(hT:T≠3):v.ownBlock≠some b:=by
 rcases h.2 with⟨rfl,_⟩ | ⟨g,cap,cur,rfl,h1,h2,_⟩
 · simp [Value.ownBlock]
 · intro e
   simp only [Value.ownBlock,Option.some.injEq] at e
   subst e
   unfold Blk at hb
   rw [h2] at hb
   injection hb with hb
   injection hb with _ hb
   exact hT hb.symm
theorem QMem.far (h:QMem w0 bn bl bc ba bp on ol wr M ph ans vs){bo:Nat}{cs:Array Value}{T:TypeId}(hb:Blk wr bo (.cells cs T))(hT:T≠3)(hg:bc<bo/\ba<bo/\bp<bo){W:World}(hk:∀ b,b≠bo->W.heap[b]?=wr.heap[b]?)(hx:Ext w0 W):QMem w0 bn bl bc ba bp on ol W M ph ans vs:=by
 have g:=h.ge
 have l:=h.lo
 have hl:=hb.lt
 have keep:∀ {b:Nat} {o:Obj},Blk wr b o->b≠bo->Blk W b o:=fun h1 h2=>(hk _ h2).trans h1
 refine { h with ext:=hx,kN:=keep h.kN (by omega),kL:=keep h.kL (by omega),kC:=keep h.kC (by omega),kA:=keep h.kA (by omega),kP:=keep h.kP (by omega),rows:={ h.rows with ge:=hx.size,row:=fun t ht=>?_ } }
 obtain⟨v,q1,q2⟩:=h.rows.row t ht
 have hne:=row_type q2 hb hT
 refine⟨v,q1,?_⟩
 rcases q2.2 with⟨rfl,q3⟩ | ⟨g,cap,cur,rfl,q3,q4,q5⟩
 · exact⟨q2.1,.inl ⟨rfl,q3⟩⟩
 · refine⟨q2.1,.inr ⟨g,cap,cur,rfl,q3,?_,q5⟩⟩
   rw [hk g (fun e=>hne (by simp [Value.ownBlock,e]))]
   exact q4
theorem QMem.grow (h:QMem w0 bn bl bc ba bp on ol wr M ph ans vs){t:Nat}(ht:t<4){v:Value}(hv:vs[t]?=some v){g cap:Nat}{y:Int}
  (hown:W.ownsRow w0.heap.size 3 1 (.slice (some ⟨g,0,none⟩) ((ans t).length+1) cap) ((ans t).length+1) (rowOf (ans t)++[Value.int .i64 y]))(hg:wr.grownBy W v.ownBlock)(hat:v.ownBlock=some g∨wr.heap.size<=g) :
  QMem w0 bn bl bc ba bp on ol (W.setCell ⟨ba,t,none⟩ (.slice (some ⟨g,0,none⟩) ((ans t).length+1) cap)) M ph (fun s=>if s=t then ans t++[y] else ans s) (vs.setIfInBounds t (.slice (some ⟨g,0,none⟩) ((ans t).length+1) cap)):=by
 obtain⟨n1,n2,n3,n4,n5,n6,n7,n8,n9,n10⟩:=h.ne
 have hoff:∀ b,b∈[bn,bl,bc,ba,bp]->v.ownBlock≠some b:=fun b hb e=>h.rows.off t v b hv e hb
 have kept:∀ {b:Nat} {o:Obj},Blk wr b o->b∈[bn,bl,bc,ba,bp]->Blk W b o:=fun hb hm=>grown_heap hb (hoff _ hm) hg
 have hrows:=h.rows.grow ht hv hown hg hat (fun b hb=>by
  simp only [List.mem_cons,List.not_mem_nil,or_false] at hb
  rcases hb with rfl | rfl | rfl | rfl | rfl
  · exact h.kN.lt
  · exact h.kL.lt
  · exact h.kC.lt
  · exact h.kA.lt
  · exact h.kP.lt)
 have hx:Ext w0 W:=by
  have he:=h.ext
  refine⟨hg.os.trans he.os,hg.tape.trans he.tape,hg.output.trans he.output,Nat.le_trans he.size hg.size,fun k hk=>?_⟩
  refine (hg.block k (Nat.lt_of_lt_of_le hk he.size) fun e=>?_).trans (he.block k hk)
  obtain⟨v',q1,q2⟩:=h.rows.row t ht
  rw [hv] at q1
  injection q1 with q1
  subst q1
  have:=(own_ge q2 e.symm).1
  omega
 exact⟨hx.setCell (p:=⟨ba,t,none⟩) h.ge.2.1 _,blk_ne (kept h.kN (by simp)) n3 _,blk_ne (kept h.kL (by simp)) n6 _,blk_ne (kept h.kC (by simp)) n8 _,heap_setCell (kept h.kA (by simp)) _,blk_ne (kept h.kP (by simp)) (Ne.symm n10) _,hrows.set (by simp) _ _,h.lo,h.ge,h.ne⟩
end
end Go.Proofs.Ytbphlkaihfbgeaa
namespace Kv
def gReg (N i:Nat):Reg:=⟨1,i,0,N,-1,-1,if i % 2=0 then N else 1⟩
def gRegs (N:Nat):List Reg:=(List.range (2*triN N)).map (gReg N)
theorem gRegs_lay (N:Nat)(h1:1<=N)(h8:N<=8):layM (renW (triN N) N) N 1 0 0=some (gRegs N):=by
 have hN:N=1∨N=2∨N=3∨N=4∨N=5∨N=6∨N=7∨N=8:=by omega
 rcases hN with rfl | rfl | rfl | rfl | rfl | rfl | rfl | rfl <;> rfl
theorem gRegs_len (N:Nat):(gRegs N).length=2*triN N:=by simp [gRegs]
theorem gRegs_ok (N:Nat)(h1:1<=N)(h8:N<=8):GRegs N (gRegs N)/\(∀ r∈gRegs N,r.ok/\r.n=N):=by
 have h36:triN N<=36:=by
  have:=triN_mono h8
  rw [show triN 8=36 from by decide] at this
  exact this
 refine⟨⟨gRegs_len N,fun i hi=>⟨gReg N i,by simp [gRegs,hi],rfl,rfl⟩⟩,fun r hr=>?_⟩
 unfold gRegs at hr
 obtain⟨i,hi,rfl⟩:=List.mem_map.1 hr
 have hi:=List.mem_range.1 hi
 refine⟨⟨.inl rfl,?_,?_,?_,fun h=>by cases h⟩,rfl⟩
 · show (0:Int)<=(i:Int)/\(i:Int)<=32768;omega
 · show (0:Int)<=0/\(0:Int)<=32768;omega
 · show (1:Int)<=(N:Int)/\(N:Int)<=8;omega
theorem gRegs_sum (N:Nat)(h1:1<=N)(h8:N<=8):sumL (gRegs N)=0:=by
 have hN:N=1∨N=2∨N=3∨N=4∨N=5∨N=6∨N=7∨N=8:=by omega
 rcases hN with rfl | rfl | rfl | rfl | rfl | rfl | rfl | rfl <;> rfl
end Kv
namespace Go.Proofs.Ytbphlkaihfbgeaa
open Go.RowKit Kv
theorem renregs_p (N:Nat)(w:World)(h1:1<=N)(h8:N<=8):Calls Try.prog 55 #[.int .i64 N,.int .i64 1,.int .i64 0,.int .i64 0] w fun e w'=>∃ b d,e=.returned (.tuple #[.slice (some ⟨b,0,none⟩) (2*triN N) (d+2*triN N),.int .i64 0,.int .i64 0])/\d<=9223372036854775807-2*triN N/\Ext w w'/\b<w'.heap.size/\(∀ (i:Nat) u,((gRegs N).flatMap regVals)[i]?=some u->w'.cell? ⟨b,i,none⟩=some u):=by
 have d1:decide ((N:Int)<1)=false:=by rw [decide_eq_false_iff_not];omega
 have d2:decide ((8:Int)<(N:Int))=false:=by rw [decide_eq_false_iff_not];omega
 have d3:decide (N<1)=false:=by rw [decide_eq_false_iff_not];omega
 have d4:decide (8<N)=false:=by rw [decide_eq_false_iff_not];omega
 have h36:triN N<=36:=by
  have:=triN_mono h8
  rw [show triN 8=36 from by decide] at this
  exact this
 go_enter Try.func55,Try.ntmps55
 go_wp2_with fail
 refine (renwants_p N w h1 h8).mono ?_
 rintro e w1 ⟨v1,rfl,hown,hX⟩
 have hW:=renwants_at hown
 have hL:=plan_p v1 _ N 1 0 0 w1 hW (by rw [renW_len];omega)
 rw [gRegs_lay N h1 h8] at hL
 obtain⟨Aw,cw,rfl,_,_,_⟩:=hW
 clear hown
 go_wp2_with fail
 refine hL.mono ?_
 rintro e w2 ⟨hx2,v2,rfl,hrow⟩
 clear hL
 obtain⟨Ar,cr,rfl,r1,r2,hV⟩:=Recs.of_row hrow
 obtain⟨b,rfl,hb,hc⟩:=hV (by
  obtain⟨k,hk⟩:∃ k,2*triN N=k+1:=⟨2*triN N-1,by have:=triN_mono h1;rw [show triN 1=1 from by decide] at this;omega⟩
  unfold gRegs
  rw [hk,List.range_succ]
  simp [regVals])
 have hlen:=gRegs_len N
 have hsz:=size_p b cr (gRegs N) w2 hb hc (fun r hr=>((gRegs_ok N h1 h8).2 r hr).1) (by rw [hlen];omega)
 rw [gRegs_sum N h1 h8] at hsz
 have hch:=Lib.hid hc
 have hXh:=Lib.hid (hX.trans hx2)
 clear hV hrow hc hX hx2
 rw [hlen] at r1 hsz ⊢
 go_wp2_with fail
 refine hsz.mono ?_
 rintro e w3 ⟨rfl,hx3⟩
 have hX3:=Lib.hid (hXh.out.trans hx3)
 have hc3:Hid (∀ (i:Nat) u,((gRegs N).flatMap regVals)[i]?=some u->w3.cell? ⟨b,i,none⟩=some u):=fun i u hu=>(hx3.cell (p:=⟨b,i,none⟩) hb).trans (hch.out i u hu)
 have hb3:=Nat.lt_of_lt_of_le hb hx3.size
 clear hx3 hch hXh hsz
 go_wp2_with fail
 obtain⟨d,hd⟩:∃ d,cr=d+2*triN N:=⟨cr-2*triN N,by omega⟩
 refine bodyPost_ret (v:=.tuple #[.slice (some ⟨b,0,none⟩) (2*triN N) cr,.int .i64 0,.int .i64 0]) (by simp [results,Try.results55,go_sem]) rfl ?_
 rw [hd]
 exact⟨b,d,rfl,by omega,hX3.out,hb3,hc3.out⟩
theorem renregs_0 (w:World):Calls Try.prog 55 #[.int .i64 0,.int .i64 1,.int .i64 0,.int .i64 0] w fun e w'=>e=.returned (.tuple #[.slice none 0 0,.int .i64 0,.int .i64 1])/\Ext w w':=by
 go_enter Try.func55,Try.ntmps55
 go_wp2_with fail
 refine bodyPost_ret (v:=.tuple #[.slice none 0 0,.int .i64 0,.int .i64 1]) (by simp [results,Try.results55,go_sem]) rfl ?_
 exact⟨rfl,Ext.refl w⟩
theorem rencl1 (B p:Nat)(S:TS)(b d bl bn bo bt:Nat)(N t:Nat)(h1:1<=N)(h8:N<=8)(ht:t<N)(w:World)(h:Plays B w p S)(hl:RegsAt [2,3,4] w p b (gRegs N))(hd:d<=9223372036854775807-2*triN N)(c_0:w.cell? ⟨bl,0,none⟩=some (.slice (some ⟨b,0,none⟩) (2*triN N) (d+2*triN N)))(c_1:w.cell? ⟨bn,0,none⟩=some (.int .i64 N))(c_2:w.cell? ⟨bo,0,none⟩=some (.int .i64 0))(c_3:w.cell? ⟨bt,0,none⟩=some (.int .i64 t)) :
  Calls Try.prog 56 #[.pointer (some ⟨p,0,none⟩),.pointer (some ⟨bl,0,none⟩),.pointer (some ⟨bn,0,none⟩),.pointer (some ⟨bo,0,none⟩),.pointer (some ⟨bt,0,none⟩)] w (Post encI B p w ((getM (gRegs N) N 0 t).run S)):=by
 have hq:=getname_p B p N S (gRegs N) 0 t b d w h hl (gRegs_len N) (gRegs_ok N (by first | decide | assumption) (by first | decide | assumption)).2 (by first | decide | assumption) (by first | decide | assumption) (by first | decide | assumption) hd
 rw [gRegs_len] at hq
 generalize hR:Post encI B p w ((getM (gRegs N) N 0 t).run S)=R
 have hO:Owes R encI B p w ((getM (gRegs N) N 0 t).run S):=hR▸owes _ _ _ _ _
 clear hR
 have hK:=Keep.refl [2,3,4] B p w
 have hqh:=Lib.hid hq
 clear hq
 generalize 2*triN N=k2 at *
 go_enter Try.func56,Try.ntmps56
 go_wp2_with fail
 clear c_0 c_1 c_2 c_3
 refine tlast hO hK hqh.out (fun _ h=>⟨rfl,h⟩) ?_
 intro v S1 w1 hr hP1 hk1 hK1 hO1
 have hf:=hO1.done hP1 hK1
 clear hO1 hP1 hK1 hr hk1 hO h hK hqh hl
 go_wp2_with fail
 first | exact hf | (go_ret;exact hf)
theorem rencl2 (B p:Nat)(S:TS)(b d bl bn bo bt:Nat)(N t:Nat)(h1:1<=N)(h8:N<=8)(ht:t<N)(w:World)(h:Plays B w p S)(hl:RegsAt [2,3,4] w p b (gRegs N))(hd:d<=9223372036854775807-2*triN N)(c_0:w.cell? ⟨bl,0,none⟩=some (.slice (some ⟨b,0,none⟩) (2*triN N) (d+2*triN N)))(c_1:w.cell? ⟨bn,0,none⟩=some (.int .i64 N))(c_2:w.cell? ⟨bo,0,none⟩=some (.int .i64 0))(c_3:w.cell? ⟨bt,0,none⟩=some (.int .i64 t)) :
  Calls Try.prog 58 #[.pointer (some ⟨p,0,none⟩),.pointer (some ⟨bl,0,none⟩),.pointer (some ⟨bn,0,none⟩),.pointer (some ⟨bo,0,none⟩),.pointer (some ⟨bt,0,none⟩)] w (Post encI B p w ((getM (gRegs N) N 0 t).run S)):=by
 have hq:=getname_p B p N S (gRegs N) 0 t b d w h hl (gRegs_len N) (gRegs_ok N (by first | decide | assumption) (by first | decide | assumption)).2 (by first | decide | assumption) (by first | decide | assumption) (by first | decide | assumption) hd
 rw [gRegs_len] at hq
 generalize hR:Post encI B p w ((getM (gRegs N) N 0 t).run S)=R
 have hO:Owes R encI B p w ((getM (gRegs N) N 0 t).run S):=hR▸owes _ _ _ _ _
 clear hR
 have hK:=Keep.refl [2,3,4] B p w
 have hqh:=Lib.hid hq
 clear hq
 generalize 2*triN N=k2 at *
 go_enter Try.func58,Try.ntmps58
 go_wp2_with fail
 clear c_0 c_1 c_2 c_3
 refine tlast hO hK hqh.out (fun _ h=>⟨rfl,h⟩) ?_
 intro v S1 w1 hr hP1 hk1 hK1 hO1
 have hf:=hO1.done hP1 hK1
 clear hO1 hP1 hK1 hr hk1 hO h hK hqh hl
 go_wp2_with fail
 first | exact hf | (go_ret;exact hf)
theorem renal2 (B p:Nat)(S:TS)(b d bl bo:Nat)(w:World)(h:Plays B w p S)(hl:RegsAt [2,3,4] w p b (gRegs 2))(hd:d<=9223372036854775807-2*triN 2)(c_0:w.cell? ⟨bl,0,none⟩=some (.slice (some ⟨b,0,none⟩) (2*triN 2) (d+2*triN 2)))(c_1:w.cell? ⟨bo,0,none⟩=some (.int .i64 0)) :
  Calls Try.prog 131 #[.pointer (some ⟨p,0,none⟩),.pointer (some ⟨bl,0,none⟩),.pointer (some ⟨bo,0,none⟩)] w (Post encI B p w ((getM (gRegs 2) 2 0 (0:Nat)).run S)):=by
 have hq:=getname_p B p 2 S (gRegs 2) 0 (0:Nat) b d w h hl (gRegs_len 2) (gRegs_ok 2 (by first | decide | assumption) (by first | decide | assumption)).2 (by first | decide | assumption) (by first | decide | assumption) (by first | decide | assumption) hd
 rw [gRegs_len] at hq
 generalize hR:Post encI B p w ((getM (gRegs 2) 2 0 (0:Nat)).run S)=R
 have hO:Owes R encI B p w ((getM (gRegs 2) 2 0 (0:Nat)).run S):=hR▸owes _ _ _ _ _
 clear hR
 have hK:=Keep.refl [2,3,4] B p w
 have hqh:=Lib.hid hq
 clear hq
 generalize 2*triN 2=k2 at *
 go_enter Try.func131,Try.ntmps131
 go_wp2_with fail
 clear c_0 c_1
 refine tlast hO hK hqh.out (fun _ h=>⟨rfl,h⟩) ?_
 intro v S1 w1 hr hP1 hk1 hK1 hO1
 have hf:=hO1.done hP1 hK1
 clear hO1 hP1 hK1 hr hk1 hO h hK hqh hl
 go_wp2_with fail
 first | exact hf | (go_ret;exact hf)
end Go.Proofs.Ytbphlkaihfbgeaa
namespace Kv
end Kv
namespace Go.Proofs.Ytbphlkaihfbgeaa
open Go.RowKit Kv
@[go_sem] theorem build_lock3 (a b c:Int) (w:World):(Instr.build 23 #[(0,.int .i64 a),(1,.int .i64 b),(2,.int .i64 c)]).run Try.prog w=.ok (.agg #[.int .i64 a,.int .i64 b,.int .i64 c,.int .i64 0,.int .i64 0,.int .i64 0]) w:=run_build w 23 _ _ (by kernel_rfl)
@[go_sem] theorem build_acc3 (a b c:Int) (w:World):(Instr.build 54 #[(0,.int .i64 a),(1,.int .i64 b),(2,.int .i64 c)]).run Try.prog w=.ok (.agg #[.int .i64 a,.int .i64 b,.int .i64 c]) w:=run_build w 54 _ _ (by kernel_rfl)
end Go.Proofs.Ytbphlkaihfbgeaa
namespace Kv
def TameA (S:TS):Prop:=∀ v∈S.ans,0<=v/\v<=1048576
theorem TameA.run {α:Type}{S S':TS}{p:Prog α}{a:Option α}(h:TameA S)(hr:p.run S=(a,S')):TameA S':=by
 have:=Prog.run_ans p S
 rw [hr] at this
 unfold TameA
 rw [this]
 exact h
theorem ret_run {α:Type}{a b:α}{S S':TS}(h:(Prog.ret a).run S=(some b,S')):a=b/\S=S':=by
 simpa [Prog.run] using h
end Kv
namespace Go.Proofs.Ytbphlkaihfbgeaa
open Go.RowKit Kv
theorem nameM_bd {l:List Reg}{N:Nat}{me:Int}(h8:N<=8)(h1:1<=N):∀ (f x y:Nat) (S S':TS) (v:Int),f+(x+y)=N->(nameM l N me f x y).run S=(some v,S')->0<=v/\v<36
 | 0,x,y,S,S',v,_,h=>by
   obtain⟨rfl,-⟩:=ret_run h
   have h36:=triN_mono h8
   rw [show triN 8=36 from by decide] at h36
   have h11:=triN_mono h1
   rw [show triN 1=1 from by decide] at h11
   omega
 | f+1,x,y,S,S',v,hf,h=>by
   unfold nameM at h
   obtain⟨told,S1,_,h2⟩:=Prog.bind_some h
   split at h2
   · obtain⟨rfl,-⟩:=ret_run h2
     have h36:=triN_mono h8
     rw [show triN 8=36 from by decide] at h36
     have:=triName_lt (show x+y<N by omega)
     omega
   · split at h2
     · exact nameM_bd h8 h1 f (x+1) y S1 S' v (by omega) h2
     · exact nameM_bd h8 h1 f x (y+1) S1 S' v (by omega) h2
theorem getM_twice {l:List Reg}{N:Nat}{me:Int}(h8:N<=8)(h1:1<=N){S S1 S2:TS}{a b:Int}(h0:S.got 0=0)(ha:(getM l N 0 me).run S=(some a,S1))(hb:(getM l N 0 me).run S1=(some b,S2)):(0<=a/\a<36)/\b=a:=by
 unfold getM at ha hb
 rw [run_gt] at ha hb
 rw [h0,if_neg (by decide)] at ha
 obtain⟨name,S3,hn,h3⟩:=Prog.bind_some ha
 have hbd:=nameM_bd h8 h1 N 0 0 S S3 name (by omega) hn
 have h4:((some name,S3.upd 0 (name+1)):Option Int × TS)=(some a,S1):=h3
 injection h4 with h4 h5
 injection h4 with h4
 subst h4
 have hg:S1.got 0=name+1:=by
  rw [<- h5]
  unfold TS.got TS.upd
  simp
 rw [hg,if_pos (by omega)] at hb
 obtain⟨rfl,-⟩:=ret_run hb
 refine⟨hbd,?_⟩
 unfold Go.RowKit.wrap64
 omega
set_option maxRecDepth 100000 in
set_option maxHeartbeats 2000000 in
theorem renal1 (B p:Nat)(S:TS)(b d bl bo:Nat)(w:World)(h:Plays B w p S)(hl:RegsAt [2,3,4] w p b (gRegs 2))(hd:d<=9223372036854775807-2*triN 2)(hx:S.got 0=0)
  (hbl:HeldP w p bl (.cells #[.slice (some ⟨b,0,none⟩) (2*triN 2) (d+2*triN 2)] 44))(hbo:HeldP w p bo (.cells #[.int .i64 0] 3)) :
  Calls Try.prog 130 #[.pointer (some ⟨p,0,none⟩),.pointer (some ⟨bl,0,none⟩),.pointer (some ⟨bo,0,none⟩)] w (Post encI B p w (((getM (gRegs 2) 2 0 1).bind fun x=>(getM (gRegs 2) 2 0 1).bind fun y=>.ret (10*x+y)).run S)):=by
 have hq:Hid (∀ W S',Plays B W p S'->RegsAt [2,3,4] W p b (gRegs 2)->Calls Try.prog 57 #[.pointer (some ⟨p,0,none⟩),.slice (some ⟨b,0,none⟩) (2*triN 2) (d+2*triN 2),.int .i64 2,.int .i64 0,.int .i64 1] W (Post encI B p W ((getM (gRegs 2) 2 0 1).run S'))):=Lib.hid fun W S' hP hl'=>by
  have h:=getname_p B p 2 S' (gRegs 2) 0 1 b d W hP hl' (gRegs_len 2) (gRegs_ok 2 (by decide) (by decide)).2 (by decide) (by decide) (by decide) hd
  rw [gRegs_len] at h
  exact h
 have hxh:=Lib.hid hx
 clear hd hx
 generalize 2*triN 2=k2 at *
 generalize hR:Post encI B p w (((getM (gRegs 2) 2 0 1).bind fun x=>(getM (gRegs 2) 2 0 1).bind fun y=>.ret (10*x+y)).run S)=R
 have hO:Owes R encI B p w (((getM (gRegs 2) 2 0 1).bind fun x=>(getM (gRegs 2) 2 0 1).bind fun y=>.ret (10*x+y)).run S):=hR▸owes _ _ _ _ _
 clear hR
 have hK:=(Keep.refl [2,3,4] B p w).drew
 have hP:=h.drew
 have hl2:=hl.extL (Ext.refl w).drew h.lt
 have b1:=hbl.drew
 have b2:=hbo.drew
 clear h hl hbl hbo
 go_enter Try.func130,Try.ntmps130
 go_upto_region 1 with fail
 have hS:∀ W,HeldP W p bl (.cells #[.slice (some ⟨b,0,none⟩) k2 (d+k2)] 44)->HeldP W p bo (.cells #[.int .i64 0] 3)->(W.cell? ⟨bl,0,none⟩=some (.slice (some ⟨b,0,none⟩) k2 (d+k2))/\W.cell? ⟨bo,0,none⟩=some (.int .i64 0)):=fun W h1 h2=>⟨h1.cells 0,h2.cells 0⟩
 refine wp_region_held_drew (S:=fun w'=>w'.cell? ⟨bl,0,none⟩=some (.slice (some ⟨b,0,none⟩) k2 (d+k2))/\w'.cell? ⟨bo,0,none⟩=some (.int .i64 0)) rfl (hS _ b1 b2) (fun hHeld=>?_)
 refine tkb 0 ?_
 iterate 3
  refine tkn (v:=?_) rfl (by kernel_rfl) (fun _ _ _ h=>h) (by assumption) ?_ ?_
  rotate_left
  · (intro w hSw;(try dsimp only at hSw);go_simp;try with_reducible rfl)
  try simp only [put_pack]
 refine tke ?_
 refine tkb 5 ?_
 iterate 3
  refine tkn (v:=?_) rfl (by kernel_rfl) (fun _ _ _ h=>h) (by assumption) ?_ ?_
  rotate_left
  · (intro w hSw;(try dsimp only at hSw);go_simp;try with_reducible rfl)
  try simp only [put_pack]
 refine tke ?_
 refine wpAnyH_ready (rs:=[3]) (by kernel_rfl) (by simp) ?_
 refine AllReadyH.cons rfl (fun K hKK=>?_) (AllReadyH.nil)
 go_simp
 refine tstep hO hK (hq.out _ _ hP hl2) (fun _ h=>⟨rfl,h⟩) ?_
 clear hO hK hP
 intro x S1 w1 hr1 hP hk hK hO
 replace hl2:=hl2.keep hk
 replace b1:=b1.keep hk
 replace b2:=b2.keep hk
 refine hKK.out _ _ (hS _ b1 b2) (fun hHeld=>?_)
 clear hKK K hk
 try dsimp only
 refine tk 4 (v:=?_) rfl (by kernel_rfl) (fun _ _ _ h=>h) (by assumption) ?_ ?_
 rotate_left
 · (intro w hSw;(try dsimp only at hSw);go_simp;try with_reducible rfl)
 try simp only [put_pack]
 refine wpAnyH_ready (rs:=[8]) (by kernel_rfl) (by simp) ?_
 refine AllReadyH.cons rfl (fun K hKK=>?_) (AllReadyH.nil)
 go_simp
 refine tstep hO hK (hq.out _ _ hP hl2) (fun _ h=>⟨rfl,h⟩) ?_
 clear hO hK hP
 intro y S2 w2 hr2 hP hk hK hO
 replace b1:=b1.keep hk
 replace b2:=b2.keep hk
 obtain⟨hxb,hyx⟩:=getM_twice (by decide) (by decide) hxh.out hr1 hr2
 have hw1:=IntWalk.i64_in (10*x) (by omega)
 have hw2:=IntWalk.i64_in (10*x+y) (by omega)
 refine hKK.out _ _ (hS _ b1 b2) (fun hHeld=>?_)
 clear hKK K hk hr1 hr2 hl2 hq hyx
 try dsimp only
 refine tk 9 (v:=?_) rfl (by kernel_rfl) (fun _ _ _ h=>h) (by assumption) ?_ ?_
 rotate_left
 · (intro w hSw;(try dsimp only at hSw);go_simp;try with_reducible rfl)
 try simp only [put_pack]
 refine tk 10 (v:=?_) rfl (by kernel_rfl) (fun _ _ _ h=>h) (by assumption) ?_ ?_
 rotate_left
 · (intro w hSw;(try dsimp only at hSw);go_simp;try with_reducible rfl)
 try simp only [put_pack]
 refine wpAnyH_done (by kernel_rfl) ?_ _
 go_simp
 have hf:=Owes.done (v:=10*x+y) hO hP hK
 clear hO hP hK b1 b2 hS hHeld
 go_wp2_with fail
 first | exact hf | (go_simp;exact hf) | (go_ret;exact hf)
theorem heldP_of {w0 W:World}{B p bb:Nat}{S:TS}{o:Obj}(hb:Blk w0 bb o)(hx:Ext w0 W)(hP:Plays B W p S)(hB:w0.heap.size<=B):HeldP W p bb o:=by
 refine⟨hb.ext hx,fun ho=>?_⟩
 obtain⟨_,_,_,_,_,_,h⟩:=hP
 have:=(h.own ho).1
 have:=hb.lt
 omega
set_option maxRecDepth 100000 in
set_option maxHeartbeats 2000000 in
theorem alive32 (w:World):Calls Try.prog 54 #[] w fun e w'=>e=.returned (.bool true)/\Ext w w':=by
 have hmf:∀ (fn:Fn) (first cap:Array Value) (w:World),(Instr.makeFunc fn first cap).run Try.prog w=.ok (.func fn first cap) w:=fun _ _ _ _=>rfl
 go_enter Try.func54,Try.ntmps54
 go_wp2_with fail
 refine (renregs_p 2 w (by decide) (by decide)).mono ?_
 rintro e w2 ⟨b,d,rfl,hd,hX,hb,hc⟩
 rw [show 2*triN 2=6 from by decide] at *
 go_upto_region 2 with fail
 have g1:=(Blk.new w2 (.cells #[.slice (some ⟨b,0,none⟩) 6 (d+6)] 44)).alloc (.cells #[.int .i64 0] 3)
 have g2:=Blk.new (w2.alloc (.cells #[.slice (some ⟨b,0,none⟩) 6 (d+6)] 44)) (.cells #[.int .i64 0] 3)
 have x1:=((Ext.refl w2).alloc (.cells #[.slice (some ⟨b,0,none⟩) 6 (d+6)] 44)).alloc (.cells #[.int .i64 0] 3)
 simp only [World.size_alloc] at g1 g2 x1
 generalize World.alloc (World.alloc w2 _) _=w3 at *
 have c_g1:=g1.cells
 go_upto_region 4 with fail
 have hA:=ints_new w3 [0,0,0,2] (by simp)
 have x3:=(Ext.refl w3).alloc (.cells (([0,0,0,2]:List Int).map (Value.int .i64)).toArray 3)
 replace g1:=g1.ext x3
 replace g2:=g2.ext x3
 replace x1:=x1.trans x3
 simp only [List.map_cons,List.map_nil,List.length_cons,List.length_nil] at hA g1 g2 x1 x3
 have hsz:w3.heap.size<(World.alloc w3 (.cells #[.int .i64 0,.int .i64 0,.int .i64 0,.int .i64 2] 3)).heap.size:=by simp
 clear x3 c_g1
 go_wp2_with fail
 generalize World.alloc w3 _=W1 at *
 refine (play_int 130 #[.pointer (some ⟨w2.heap.size,0,none⟩),.pointer (some ⟨w2.heap.size+1,0,none⟩)] ((getM (gRegs 2) 2 0 1).bind fun x=>(getM (gRegs 2) 2 0 1).bind fun y=>Prog.ret (10*x+y)) none 0 [] (some ⟨w3.heap.size,0,none⟩) 4 [0,0,0,2] W1 (Ints.nil _) (by simp) hA (by decide) (fun k hk=>by simp only [Value.ownBlock,Option.some.injEq] at hk;omega) (fun _ _=>rfl) (fun W p hxW hP=>renal1 _ p _ b d w2.heap.size (w2.heap.size+1) W hP (regsP hb hc (x1.trans hxW) hP x1.size) hd rfl (heldP_of g1 hxW hP (Nat.le_refl _)) (heldP_of g2 hxW hP (Nat.le_refl _)))).mono ?_
 rintro e y1 ⟨v1,rfl,hO,hx1⟩
 have e1:(((getM (gRegs 2) 2 0 1).bind fun x=>(getM (gRegs 2) 2 0 1).bind fun y=>Prog.ret (10*x+y)).run (TS0 [] [0,0,0,2])).1=some 0:=by kernel_rfl
 have e2:(((getM (gRegs 2) 2 0 1).bind fun x=>(getM (gRegs 2) 2 0 1).bind fun y=>Prog.ret (10*x+y)).run (TS0 [] [0,0,0,2])).2.acc.length=4:=by kernel_rfl
 rw [e1] at hO ⊢
 generalize (((getM (gRegs 2) 2 0 1).bind fun x=>(getM (gRegs 2) 2 0 1).bind fun y=>Prog.ret (10*x+y)).run (TS0 [] [0,0,0,2])).2=S1 at *
 obtain⟨A1,c1,A1',c1',As1,k1,n1,rfl⟩:=hO.parts
 rw [e2] at *
 simp only [Option.getD_some,Option.isSome_some]
 replace g1:=g1.ext hx1
 replace g2:=g2.ext hx1
 replace x1:=x1.trans hx1
 clear e1 e2 hO hA hsz hx1
 go_upto_region 5 with fail
 have g3:=Blk.new y1 (.cells #[.bool true,.slice A1 4 c1,.slice A1' S1.nts.length c1',.slice As1 n1 k1] 30)
 have x3:=(Ext.refl y1).alloc (.cells #[.bool true,.slice A1 4 c1,.slice A1' S1.nts.length c1',.slice As1 n1 k1] 30)
 have hA:=ints_new (y1.alloc (.cells #[.bool true,.slice A1 4 c1,.slice A1' S1.nts.length c1',.slice As1 n1 k1] 30)) [0,1,0,0,0,1] (by simp)
 replace g3:=g3.alloc (.cells (([0,1,0,0,0,1]:List Int).map (Value.int .i64)).toArray 3)
 replace x3:=x3.alloc (.cells (([0,1,0,0,0,1]:List Int).map (Value.int .i64)).toArray 3)
 replace g1:=g1.ext x3
 replace g2:=g2.ext x3
 replace x1:=x1.trans x3
 simp only [World.size_alloc,List.map_cons,List.map_nil,List.length_cons,List.length_nil] at hA g1 g2 g3 x1 x3
 have hsz:y1.heap.size+1<(World.alloc (World.alloc y1 (.cells #[.bool true,.slice A1 4 c1,.slice A1' S1.nts.length c1',.slice As1 n1 k1] 30)) (.cells #[.int .i64 0,.int .i64 1,.int .i64 0,.int .i64 0,.int .i64 0,.int .i64 1] 3)).heap.size:=by simp
 clear x3
 go_wp2_with fail
 generalize World.alloc (World.alloc y1 _) _=W2 at *
 refine (play_int 131 #[.pointer (some ⟨w2.heap.size,0,none⟩),.pointer (some ⟨w2.heap.size+1,0,none⟩)] (getM (gRegs 2) 2 0 ((0:Nat):Int)) none 0 [] (some ⟨y1.heap.size+1,0,none⟩) 6 [0,1,0,0,0,1] W2 (Ints.nil _) (by simp) hA (by decide) (fun k hk=>by simp only [Value.ownBlock,Option.some.injEq] at hk;omega) (fun _ _=>rfl) (fun W p hxW hP=>renal2 _ p _ b d w2.heap.size (w2.heap.size+1) W hP (regsP hb hc (x1.trans hxW) hP x1.size) hd ((g1.ext hxW).cells 0) ((g2.ext hxW).cells 0))).mono ?_
 rintro e y2 ⟨v2,rfl,hO,hx2⟩
 have e1:((getM (gRegs 2) 2 0 ((0:Nat):Int)).run (TS0 [] [0,1,0,0,0,1])).1=some 1:=by rfl
 rw [e1] at hO ⊢
 generalize ((getM (gRegs 2) 2 0 ((0:Nat):Int)).run (TS0 [] [0,1,0,0,0,1])).2=S2 at *
 obtain⟨A2,c2,A2',c2',As2,k2,n2,rfl⟩:=hO.parts
 simp only [Option.getD_some,Option.isSome_some]
 have m2:=Blk.new y2 (.cells #[.bool true,.slice A2 S2.acc.length c2,.slice A2' S2.nts.length c2',.slice As2 n2 k2] 30)
 have s2:=(Ext.refl y2).alloc (.cells #[.bool true,.slice A2 S2.acc.length c2,.slice A2' S2.nts.length c2',.slice As2 n2 k2] 30)
 replace g3:=(g3.ext hx2).ext s2
 replace hX:=hX.trans ((x1.trans hx2).trans s2)
 clear e1 hO hx2 hA hsz s2 g1 g2 x1
 go_upto_region 6 with fail
 generalize World.alloc y2 _=W3 at *
 go_wp2_with fail
 refine (renregs_0 _).mono ?_
 rintro e w5 ⟨rfl,hx⟩
 have c_g3:=(g3.ext hx).cells
 have c_n2:=(m2.ext hx).cells
 have hf:=Lib.hid (hX.trans hx)
 clear hx hmf g3 m2 hX
 go_wp2_with fail
 first | (go_ret;exact⟨rfl,hf.out⟩) | exact⟨rfl,hf.out⟩
def eights (f:Nat->Int):List Value:=(List.range 8).map fun t=>Value.int .i64 (f t)
theorem eights_at {f:Nat->Int}{t:Nat}(h:t<8):(eights f).toArray[t]?=some (.int .i64 (f t)):=by simp [eights,h]
def putG (f:Nat->Int) (t:Nat) (x:Int):Nat->Int:=fun s=>if s=t then x else f s
theorem eights_put {f:Nat->Int}{t:Nat}{x:Int}(h:t<8):(eights f).toArray.setIfInBounds t (.int .i64 x)=(eights (putG f t x)).toArray:=by
 apply Array.ext_getElem?
 intro i
 by_cases hi:t=i
 · subst hi
   rw [Array.getElem?_setIfInBounds_self_of_lt (by simpa [eights] using h),eights_at h]
   simp [putG]
 · rw [Array.getElem?_setIfInBounds_ne hi]
   by_cases h8:i<8
   · rw [eights_at h8,eights_at h8]
     simp [putG,Ne.symm hi]
   · rw [Array.getElem?_eq_none (by simp [eights];omega),Array.getElem?_eq_none (by simp [eights];omega)]
structure OMem (w0:World) (bn bl bc ba bp:Nat) (on ol:Obj) (wr:World) (M:List Int) (ph:Nat->Int) (ans:Nat->List Int) (vs:Array Value):Prop where
 ext:Ext w0 wr
 kN:Blk wr bn on
 kL:Blk wr bl ol
 kC:Blk wr bc (.cells (M.map (Value.int .i64)).toArray 3)
 kA:Blk wr ba (.cells vs 49)
 kP:Blk wr bp (.cells (eights ph).toArray 74)
 rows:ARows w0.heap.size [bn,bl,bc,ba,bp] wr vs ans 8
 lo:bn<w0.heap.size/\bl<w0.heap.size
 ge:w0.heap.size<=bc/\w0.heap.size<=ba/\w0.heap.size<=bp
 ne:bn≠bl/\bn≠bc/\bn≠ba/\bn≠bp/\bl≠bc/\bl≠ba/\bl≠bp/\bc≠ba/\bc≠bp/\ba≠bp
section
variable {w0 wr W:World} {bn bl bc ba bp:Nat} {on ol:Obj} {M:List Int} {ph:Nat->Int} {ans:Nat->List Int} {vs:Array Value}
theorem OMem.keep (h:OMem w0 bn bl bc ba bp on ol wr M ph ans vs)(hx:Ext wr W):OMem w0 bn bl bc ba bp on ol W M ph ans vs :=
 { h with
  ext:=h.ext.trans hx,kN:=h.kN.ext hx,kL:=h.kL.ext hx,kC:=h.kC.ext hx,kA:=h.kA.ext hx,kP:=h.kP.ext hx,rows:=h.rows.ext hx }
theorem OMem.setC (h:OMem w0 bn bl bc ba bp on ol wr M ph ans vs)(i:Nat)(u:Int):OMem w0 bn bl bc ba bp on ol (wr.setCell ⟨bc,i,none⟩ (.int .i64 u)) (M.set i u) ph ans vs:=by
 obtain⟨n1,n2,n3,n4,n5,n6,n7,n8,n9,n10⟩:=h.ne
 exact { h with
  ext:=h.ext.setCell (p:=⟨bc,i,none⟩) h.ge.1 _,kN:=blk_ne h.kN n2 _,kL:=blk_ne h.kL n5 _,kA:=blk_ne h.kA (Ne.symm n8) _,kP:=blk_ne h.kP (Ne.symm n9) _
  kC:=by
   have q:=heap_setCell (i:=i) h.kC (.int .i64 u)
   rw [List.map_set,<- List.setIfInBounds_toArray]
   exact q
  rows:=h.rows.set (by simp) _ _ }
theorem OMem.setP (h:OMem w0 bn bl bc ba bp on ol wr M ph ans vs){t:Nat}(ht:t<8)(x:Int):OMem w0 bn bl bc ba bp on ol (wr.setCell ⟨bp,t,none⟩ (.int .i64 x)) M (putG ph t x) ans vs:=by
 obtain⟨n1,n2,n3,n4,n5,n6,n7,n8,n9,n10⟩:=h.ne
 exact { h with
  ext:=h.ext.setCell (p:=⟨bp,t,none⟩) h.ge.2.2 _,kN:=blk_ne h.kN n4 _,kL:=blk_ne h.kL n7 _,kC:=blk_ne h.kC n9 _,kA:=blk_ne h.kA n10 _
  kP:=by rw [<- eights_put ht];exact heap_setCell h.kP _
  rows:=h.rows.set (by simp) _ _ }
theorem OMem.same (h:OMem w0 bn bl bc ba bp on ol wr M ph ans vs){ph':Nat->Int}(he:∀ t,t<8->ph' t=ph t):OMem w0 bn bl bc ba bp on ol wr M ph' ans vs :=
 { h with
  kP:=by
   have:eights ph'=eights ph:=by
    unfold eights
    refine List.map_congr_left fun t ht=>?_
    rw [he t (by simpa using ht)]
   rw [this]
   exact h.kP }
theorem OMem.clear (h:OMem w0 bn bl bc ba bp on ol wr M ph ans vs)(t:Nat):OMem w0 bn bl bc ba bp on ol (wr.setCell ⟨ba,t,none⟩ (.slice none 0 0)) M ph (fun s=>if s=t then [] else ans s) (vs.setIfInBounds t (.slice none 0 0)):=by
 obtain⟨n1,n2,n3,n4,n5,n6,n7,n8,n9,n10⟩:=h.ne
 exact { h with
  ext:=h.ext.setCell (p:=⟨ba,t,none⟩) h.ge.2.1 _,kN:=blk_ne h.kN n3 _,kL:=blk_ne h.kL n6 _,kC:=blk_ne h.kC n8 _,kP:=blk_ne h.kP (Ne.symm n10) _
  kA:=heap_setCell h.kA _
  rows:=(h.rows.clear t).set (by simp) _ _ }
theorem OMem.far (h:OMem w0 bn bl bc ba bp on ol wr M ph ans vs){bo:Nat}{cs:Array Value}{T:TypeId}(hb:Blk wr bo (.cells cs T))(hT:T≠3)(hg:bc<bo/\ba<bo/\bp<bo){W:World}(hk:∀ b,b≠bo->W.heap[b]?=wr.heap[b]?)(hx:Ext w0 W):OMem w0 bn bl bc ba bp on ol W M ph ans vs:=by
 have g:=h.ge
 have l:=h.lo
 have hl:=hb.lt
 have keep:∀ {b:Nat} {o:Obj},Blk wr b o->b≠bo->Blk W b o:=fun h1 h2=>(hk _ h2).trans h1
 refine { h with ext:=hx,kN:=keep h.kN (by omega),kL:=keep h.kL (by omega),kC:=keep h.kC (by omega),kA:=keep h.kA (by omega),kP:=keep h.kP (by omega),rows:={ h.rows with ge:=hx.size,row:=fun t ht=>?_ } }
 obtain⟨v,q1,q2⟩:=h.rows.row t ht
 have hne:=row_type q2 hb hT
 refine⟨v,q1,?_⟩
 rcases q2.2 with⟨rfl,q3⟩ | ⟨g,cap,cur,rfl,q3,q4,q5⟩
 · exact⟨q2.1,.inl ⟨rfl,q3⟩⟩
 · refine⟨q2.1,.inr ⟨g,cap,cur,rfl,q3,?_,q5⟩⟩
   rw [hk g (fun e=>hne (by simp [Value.ownBlock,e]))]
   exact q4
theorem OMem.grow (h:OMem w0 bn bl bc ba bp on ol wr M ph ans vs){t:Nat}(ht:t<8){v:Value}(hv:vs[t]?=some v){g cap:Nat}{y:Int}
  (hown:W.ownsRow w0.heap.size 3 1 (.slice (some ⟨g,0,none⟩) ((ans t).length+1) cap) ((ans t).length+1) (rowOf (ans t)++[Value.int .i64 y]))(hg:wr.grownBy W v.ownBlock)(hat:v.ownBlock=some g∨wr.heap.size<=g) :
  OMem w0 bn bl bc ba bp on ol (W.setCell ⟨ba,t,none⟩ (.slice (some ⟨g,0,none⟩) ((ans t).length+1) cap)) M ph (fun s=>if s=t then ans t++[y] else ans s) (vs.setIfInBounds t (.slice (some ⟨g,0,none⟩) ((ans t).length+1) cap)):=by
 obtain⟨n1,n2,n3,n4,n5,n6,n7,n8,n9,n10⟩:=h.ne
 have hoff:∀ b,b∈[bn,bl,bc,ba,bp]->v.ownBlock≠some b:=fun b hb e=>h.rows.off t v b hv e hb
 have kept:∀ {b:Nat} {o:Obj},Blk wr b o->b∈[bn,bl,bc,ba,bp]->Blk W b o:=fun hb hm=>grown_heap hb (hoff _ hm) hg
 have hrows:=h.rows.grow ht hv hown hg hat (fun b hb=>by
  simp only [List.mem_cons,List.not_mem_nil,or_false] at hb
  rcases hb with rfl | rfl | rfl | rfl | rfl
  · exact h.kN.lt
  · exact h.kL.lt
  · exact h.kC.lt
  · exact h.kA.lt
  · exact h.kP.lt)
 have hx:Ext w0 W:=by
  have he:=h.ext
  refine⟨hg.os.trans he.os,hg.tape.trans he.tape,hg.output.trans he.output,Nat.le_trans he.size hg.size,fun k hk=>?_⟩
  refine (hg.block k (Nat.lt_of_lt_of_le hk he.size) fun e=>?_).trans (he.block k hk)
  obtain⟨v',q1,q2⟩:=h.rows.row t ht
  rw [hv] at q1
  injection q1 with q1
  subst q1
  have:=(own_ge q2 e.symm).1
  omega
 exact⟨hx.setCell (p:=⟨ba,t,none⟩) h.ge.2.1 _,blk_ne (kept h.kN (by simp)) n3 _,blk_ne (kept h.kL (by simp)) n6 _,blk_ne (kept h.kC (by simp)) n8 _,heap_setCell (kept h.kA (by simp)) _,blk_ne (kept h.kP (by simp)) (Ne.symm n10) _,hrows.set (by simp) _ _,h.lo,h.ge,h.ne⟩
end
end Go.Proofs.Ytbphlkaihfbgeaa
namespace Go.Proofs.Ytbphlkaihfbgeaa
open Go.ChangeShapes Go.WideShapes Go.ChangeAt Go.RowKit Kv
def U8s (w:World) (v:Value) (l:List Int):Prop :=
 ∃ A c,v=.slice A l.length c/\l.length<=c/\c<=9223372036854775807/\(l≠[]->∃ b off,A=some ⟨b,off,none⟩/\b<w.heap.size/\∀ i x,l[i]?=some x->w.cell? ⟨b,off+i,none⟩=some (.int .u8 x))
theorem U8s.ext {w w':World}{v:Value}{l:List Int}(h:U8s w v l)(hx:Ext w w'):U8s w' v l:=by
 obtain⟨A,c,rfl,h1,h2,h3⟩:=h
 refine⟨A,c,rfl,h1,h2,fun hl=>?_⟩
 obtain⟨b,off,rfl,hb,hc⟩:=h3 hl
 exact⟨b,off,rfl,Nat.lt_of_lt_of_le hb (Ext.size hx),fun i x hi=>(Ext.cell hx (p:=⟨b,off+i,none⟩) hb).trans (hc i x hi)⟩
theorem U8s.at_ {w:World}{A:Option Addr}{n c:Nat}{l:List Int}(h:U8s w (.slice A n c) l){i:Nat}{x:Int}(hi:l[i]?=some x) :
  ∃ b off,A=some ⟨b,off,none⟩/\b<w.heap.size/\w.cell? ⟨b,off+i,none⟩=some (.int .u8 x):=by
 obtain⟨A',c',he,h1,h2,h3⟩:=h
 injection he with e1 e2 e3
 subst e1 e2 e3
 have hl:l≠[]:=by rintro rfl;simp at hi
 obtain⟨b,off,rfl,hb,hc⟩:=h3 hl
 exact⟨b,off,rfl,hb,hc i x hi⟩
theorem cellsByte:Try.prog.cellsOf 5=1:=by kernel_rfl
set_option maxRecDepth 100000 in
theorem bytes_arg {H:Type}{enc:TypeId × Value->H}{W:World}{b0:Nat}{r:Reach}{v:Value}{d:DataW H}{p:List MemPlace}
  (hv:Value.okWide Try.prog W r b0 43 v)(h:DataW.Trod enc Try.prog W 0 (fun _=>true) true 43 v d p) :
  ∃ l,U8s W v l/\∀ x∈l,0<=x/\x<256:=by
 obtain⟨a0,len,cap,rfl⟩:=okWide_slice Try.underlying43 hv
 obtain⟨fuel,hf⟩:=h
 rcases open_ints Try.underlying43 Try.underlying5 cellsByte hf with⟨hcs,hx⟩ | ⟨a,len',cap',zs,hcs,_,hl,hm,hz,hx,hcell,hwz⟩
 · simp [Value.cells] at hcs
   obtain⟨rfl,rfl,rfl⟩:=hcs
   exact⟨[],⟨none,0,rfl,by simp,by omega,fun h=>absurd rfl h⟩,by simp⟩
 · simp [Value.cells] at hcs
   obtain⟨rfl,rfl,rfl⟩:=hcs
   simp only [if_true] at hz
   refine⟨zs.take len,?_,fun x hx=>by have:=bounds_u8 (hwz x (List.mem_of_mem_take hx));omega⟩
   have hlen:(zs.take len).length=len:=by rw [List.length_take];omega
   refine⟨some a,cap,by rw [hlen],by omega,by unfold maxLen at hm;exact hm,fun hne=>?_⟩
   have hpos:0<zs.length:=by
    rcases Nat.eq_zero_or_pos zs.length with h0 | h0
    · have:zs=[]:=List.eq_nil_of_length_eq_zero h0
      subst this
      simp at hne
    · exact h0
   obtain⟨b,off,rfl,hc⟩:=ints_at hcell hpos
   refine⟨b,off,rfl,cell_lt (hc 0 hpos),fun i x hi=>?_⟩
   have hi2:i<zs.length:=by
    have:=(List.getElem?_eq_some_iff.1 hi).1
    rw [List.length_take] at this
    omega
   rw [hc i hi2]
   have hi3:i<len:=by
    have:=(List.getElem?_eq_some_iff.1 hi).1
    omega
   rw [List.getElem?_take,if_pos hi3] at hi
   rw [List.getD_eq_getElem?_getD,hi]
   rfl
end Go.Proofs.Ytbphlkaihfbgeaa
