/-
  RwPlaysSaid: part 7 of its proof.
-/
import Derived.Test.YtbaajjkopdjbgaaGreatJRwPlaysSaid6
import Derived.Laws.AppendOwnNone
open Go.Value renaming int -> V
open Go.IntKind renaming i64 -> Z
namespace Go.Proofs.YtbaajjkopdjbgaaGreat
open Go.RowKit Kv
@[go_sem] theorem build_regw (a b c d e:Int) (w:World):(Instr.build 67 #[(0,V Z a),(3,V Z b),(4,V Z c),(5,V Z d),(6,V Z e)]).run Tryz.prog w=.ok (.agg #[V Z a,V Z 0,V Z 0,V Z b,V Z c,V Z d,V Z e]) w:=run_build w 67 _ _ (by kernel_rfl)
theorem topM_max (t:Int):max 1 (min t 255)=topM t:=by
 unfold topM clamp within
 split <;> omega
theorem want_p (q:Want)(n mode:Int)(w:World)(hm:mode=1∨mode=2)(hq:-1<=q.wr):Calls Tryz.prog 223 #[.agg #[V Z q.wr,V Z q.top],V Z n,V Z mode] w fun e w'=>e=.returned (encR (regOf n mode 0 0 q))/\Ext w w':=by
 obtain⟨wr,top⟩:=q
 unfold encR regOf
 simp only at hq ⊢
 have ht:=topM_max top
 rcases hm with rfl | rfl
 · rw [show kindM 1 wr=1 from by unfold kindM;rw [if_neg (by omega)]]
   clear hq
   go_enter Tryz.func223,Tryz.ntmps223
   go_wp2_with fail
   refine bodyPost_ret (v:=.agg #[V Z 1,V Z 0,V Z 0,V Z n,V Z wr,V Z (-1),V Z (topM top)]) (by simp [results,Tryz.results223,go_sem]) rfl ⟨rfl,?_⟩
   exact (((Ext.refl _).alloc _).alloc _).alloc _
 · by_cases h:wr=-1
   · rw [show kindM 2 wr=7 from by unfold kindM;rw [if_pos rfl,if_neg (by omega)]]
     have d:(wr==-1)=true:=by rw [beq_iff_eq];exact h
     clear hq h
     go_enter Tryz.func223,Tryz.ntmps223
     go_wp2_with fail
     refine bodyPost_ret (v:=.agg #[V Z 7,V Z 0,V Z 0,V Z n,V Z wr,V Z (-1),V Z (topM top)]) (by simp [results,Tryz.results223,go_sem]) rfl ⟨rfl,?_⟩
     exact (((Ext.refl _).alloc _).alloc _).alloc _
   · rw [show kindM 2 wr=6 from by unfold kindM;rw [if_pos rfl,if_pos (by omega)]]
     have d:(wr==-1)=false:=by rw [beq_eq_false_iff_ne];exact h
     clear hq h
     go_enter Tryz.func223,Tryz.ntmps223
     go_wp2_with fail
     refine bodyPost_ret (v:=.agg #[V Z 6,V Z 0,V Z 0,V Z n,V Z wr,V Z (-1),V Z (topM top)]) (by simp [results,Tryz.results223,go_sem]) rfl ⟨rfl,?_⟩
     exact (((Ext.refl _).alloc _).alloc _).alloc _
set_option maxRecDepth 100000 in
set_option maxHeartbeats 2000000 in
theorem lay_p (va:Value)(l:List Want)(n mode base loc:Int)(w:World)(h:WantsAt w va l)(hlen:l.length<=1000)(hC:∀ (r:Reg) w,Drawn r->r.n=n->Calls Tryz.prog 225 #[encR r] w fun e w'=>e=.returned (V Z (cellsM r))/\Ext w w') :
  Calls Tryz.prog 163 #[va,V Z n,V Z mode,V Z base,V Z loc] w (LayPost w.heap.size w (layM l n mode base loc)):=by
 obtain⟨A,c,rfl,q1,q2,hv⟩:=h
 by_cases h0:1<=mode/\mode<=2/\1<=n/\n<=8/\0<=base/\0<=loc
 · have hmd:mode=1∨mode=2:=by omega
   rcases hmd with rfl | rfl
   · have hgood:=Hd (fun hq=>argsM_good (l:=l) h0 hq)
     have hbad:=Hd (fun (i:Nat) q hq hx=>argsM_bad (l:=l) (n:=n) (mode:=1) (b:=base) (c:=loc) (i:=i) (q:=q) hq hx)
     obtain⟨-,-,n1,n2,b1,l1⟩:=h0
     have d3:decide (n<1)=false:=by rw [decide_eq_false_iff_not];omega
     have d4:decide (8<n)=false:=by rw [decide_eq_false_iff_not];omega
     have d5:decide (base<0)=false:=by rw [decide_eq_false_iff_not];omega
     have d6:decide (loc<0)=false:=by rw [decide_eq_false_iff_not];omega
     go_enter Tryz.func163,Tryz.ntmps163
     go_wp2_with fail
     go_loopw [40] (fun i wr=>∃ j:Nat,i=V Z j/\j<=l.length/\Hid (∀ (k:Nat) q,k<j->l[k]?=some q->-1<=q.wr/\q.wr<n)/\Ext w wr) (fun i _=>l.length-(intOf i).toNat)
     case atStart=>exact⟨0,rfl,by omega,fun k q hk=>by omega,Ext.refl _⟩
     case round =>
      obtain⟨j,rfl,hj,hs,hE⟩:=hrel
      by_cases hl:j<l.length
      · obtain⟨q,hq⟩:∃ q,l[j]?=some q:=⟨_,List.getElem?_eq_getElem hl⟩
        obtain⟨b,rfl,hb,e1,e2⟩:=want_at (hv.ext hE) hq
        have hE2:=hE.alloc (.cells #[V Z q.wr,V Z q.top] 179)
        by_cases f1:q.wr < -1
        · have d7:decide (q.wr < -1)=true:=by simpa using f1
          have hf:=Hd (hbad.out j q hq (by omega))
          clear hq hgood hbad hs;go_wp2_with fail
          rw [hf.out]
          refine bodyPost_ret (v:=.tuple #[.slice none 0 0,V Z 1]) (by simp [results,Tryz.results163,go_sem]) rfl ?_
          exact⟨hE2,1,by decide,rfl⟩
        · have d7:decide (q.wr < -1)=false:=by rw [decide_eq_false_iff_not];omega
          by_cases f2:n<=q.wr
          · have d8:decide (n<=q.wr)=true:=by simpa using f2
            have hf:=Hd (hbad.out j q hq (by omega))
            clear hq hgood hbad hs;go_wp2_with fail
            rw [hf.out]
            refine bodyPost_ret (v:=.tuple #[.slice none 0 0,V Z 1]) (by simp [results,Tryz.results163,go_sem]) rfl ?_
            exact⟨hE2,1,by decide,rfl⟩
          · have d8:decide (n<=q.wr)=false:=by rw [decide_eq_false_iff_not];omega
            have hs2:Hid (∀ (k:Nat) q,k<j+1->l[k]?=some q->-1<=q.wr/\q.wr<n):=Hd fun k q' hk hq'=>by
             by_cases e:k=j
             · subst e
               rw [hq] at hq'
               obtain rfl:q=q':=by simpa using hq'
               omega
             · exact hs.out k q' (by omega) hq'
            have hE3:=Hd hE2
            clear hq hs hgood hbad hE2;go_wp2_with fail
            refine⟨⟨j+1,by go_num,by omega,hs2,hE3.out⟩,?_⟩
            simp [intOf];omega
      · have hlay:=Hd (hgood.out fun k q hq=>hs.out k q (by have:=(List.getElem?_eq_some_iff.1 hq).1;omega) hq)
        have hwr:=Hd (fun (k:Nat) (q:Want) (hq:l[k]?=some q)=>hs.out k q (by have:=(List.getElem?_eq_some_iff.1 hq).1;omega) hq)
        clear hgood hbad hs;go_wp2_with fail
        have hE0:=Hd hE
        clear hE
        go_loopw [3,4,14,56] (fun b' c' v i wr=>∃ (j:Nat) (bi ci:Int) (pre:List Reg),b'=V Z bi/\c'=V Z ci/\i=V Z j/\j<=l.length/\pre.length=j/\0<=bi/\0<=ci/\Hid (layFrom n 1 l base loc=(layFrom n 1 (l.drop j) bi ci).map (pre++·))/\wr.ownsRow w.heap.size 67 7 v j (pre.flatMap regVals)/\Ext w wr) (fun _ _ _ i _=>l.length-(intOf i).toNat)
        case atStart=>exact⟨0,base,loc,[],rfl,rfl,rfl,by omega,rfl,b1,l1,by unfold Hid;simp,World.ownsRow_nil _ _ _ _,hE0.out⟩
        case round =>
         clear hE0
         obtain⟨j,bi,ci,pre,rfl,rfl,rfl,hj,hpl,hbi,hci,hM,hown,hE⟩:=hrel
         by_cases hl:j<l.length
         · obtain⟨q,hq⟩:∃ q,l[j]?=some q:=⟨_,List.getElem?_eq_getElem hl⟩
           obtain⟨b,rfl,hb,e1,e2⟩:=want_at (hv.ext hE) hq
           obtain⟨w1,w2⟩:=hwr.out j q hq
           have hdr:l.drop j=q :: l.drop (j+1):=by
            rw [List.drop_eq_getElem_cons hl]
            congr 1
            rw [List.getElem?_eq_getElem hl] at hq
            simpa using hq
           have hMh:=Hd hM
           have hownh:=Hd hown
           clear hM hown hq
           have hrk:regOf n 1 bi ci q=⟨kindM 1 q.wr,bi,ci,n,q.wr,-1,topM q.top⟩:=rfl
           have hWW:=fun W=>want_p q n 1 W (by omega) w1
           have hK:kindM 1 q.wr=1∨kindM 1 q.wr=6∨kindM 1 q.wr=7:=by unfold kindM;split <;> (try split) <;> simp
           have hK6:kindM 1 q.wr=6->0<=q.wr:=by unfold kindM;split <;> (try split) <;> omega
           have htm:=topM_bd q.top
           have hdn:Drawn ⟨kindM 1 q.wr,bi,ci,n,q.wr,-1,topM q.top⟩:=⟨hK,hbi,hci,⟨n1,n2⟩,⟨w1,w2⟩,hK6,rfl,htm⟩
           have hlf:=Hd (show layFrom n 1 (l.drop j) bi ci=if fineM ⟨kindM 1 q.wr,bi,ci,n,q.wr,-1,topM q.top⟩ then (layFrom n 1 (l.drop (j+1)) (bi+cellsM ⟨kindM 1 q.wr,bi,ci,n,q.wr,-1,topM q.top⟩) (ci+localsM ⟨kindM 1 q.wr,bi,ci,n,q.wr,-1,topM q.top⟩)).map (⟨kindM 1 q.wr,bi,ci,n,q.wr,-1,topM q.top⟩ :: ·) else none from by rw [hdr,layFrom_cons,hrk])
           have hCC:=fun W=>hC ⟨kindM 1 q.wr,bi,ci,n,q.wr,-1,topM q.top⟩ W hdn rfl
           have hFF:=fun W=>fine_p ⟨kindM 1 q.wr,bi,ci,n,q.wr,-1,topM q.top⟩ W hdn hCC
           have hLL:=fun W=>locals_p ⟨kindM 1 q.wr,bi,ci,n,q.wr,-1,topM q.top⟩ W hK ⟨n1,n2⟩
           have hcn:=cells_nat ⟨kindM 1 q.wr,bi,ci,n,q.wr,-1,topM q.top⟩ ⟨n1,n2⟩
           have hfb:fineM ⟨kindM 1 q.wr,bi,ci,n,q.wr,-1,topM q.top⟩=true->bi<=32768/\ci<=32768:=by
            unfold fineM
            simp only [Bool.and_eq_true,decide_eq_true_eq]
            omega
           clear hdn hrk htm hdr hK hK6
           unfold encR regOf at hWW
           unfold encR at hFF hCC hLL
           simp only at hWW hFF hCC hLL
           generalize kindM 1 q.wr=kk at *
           generalize topM q.top=tp at *
           generalize cellsM _=C at *
           generalize localsM _=D at *
           generalize hfm:fineM _=F at *
           clear hfm;go_wp2_with fail
           refine (hWW _).mono ?_
           rintro e w3 ⟨rfl,hx⟩
           clear hWW
           have g3:=Blk.new w3 (.cells #[V Z kk,V Z bi,V Z ci,V Z n,V Z q.wr,V Z (-1),V Z tp] 67)
           have x3:Ext wr (w3.alloc (.cells #[V Z kk,V Z bi,V Z ci,V Z n,V Z q.wr,V Z (-1),V Z tp] 67)):=(((Ext.refl wr).alloc _).trans hx).alloc _
           have hz3:wr.heap.size<w3.heap.size:=by have:=hx.size;simp at this;omega
           clear hx;go_wp2_with fail
           generalize w3.alloc _=W at *
           have c_3:=g3.cells
           refine (hFF _).mono ?_
           rintro e w4 ⟨rfl,hx⟩
           clear hFF c_3;replace g3:=g3.ext hx;replace x3:=x3.trans hx;clear hx;have c_3:=g3.cells
           cases F with
           | false =>
             have hres:=Hd (show layM l n 1 base loc=none from by rw [hlay.out,hMh.out,hlf.out];rfl)
             go_wp2_with fail
             rw [hres.out]
             exact bodyPost_ret (v:=.tuple #[.slice none 0 0,V Z 6]) (by simp [results,Tryz.results163,go_sem]) rfl ⟨hE.trans x3,6,by decide,rfl⟩
           | true =>
             obtain⟨hb1,hb2⟩:=hfb rfl
             have s1:=IntWalk.i64_in (bi+C) (by omega)
             have s2:=IntWalk.i64_in (ci+D) (by omega)
             have hown3:=row_ext hownh.out x3
             have hRn:Hid (u14.ownBlock≠some w3.heap.size):=Hd fun e=>by have:=(hownh.out.lt _ e).2;omega
             have hE3:=hE.trans x3
             have hM2:=Hd (show layFrom n 1 l base loc=(layFrom n 1 (l.drop (j+1)) (bi+C) (ci+D)).map ((pre++[⟨kk,bi,ci,n,q.wr,-1,tp⟩])++·) from by
              rw [hMh.out,hlf.out]
              simp only [if_true,Option.map_map]
              congr 1
              funext x
              simp)
             clear hfb hlf hMh hownh hb1 hb2
             go_wp2_with (at_builtin;refine append_rec info_reg Tryz.underlying94 rfl (by decide) (by decide) rfl _ _ rfl _ j (pre.flatMap regVals) [V Z kk,V Z bi,V Z ci,V Z n,V Z q.wr,V Z (-1),V Z tp] hE3 hown3 rfl rfl rfl (by simp [Value.oneCell']) (by omega) ?_)
             intro v' w5 ho4 hx4 hbk
             have g4:Blk w5 w3.heap.size _:=(hbk _ g3.lt hRn.out).trans g3
             have c_4:=g4.cells;clear hbk hown3 hE3 c_3 hRn g3 x3;go_wp2_with fail
             refine (hCC _).mono ?_
             rintro e w6 ⟨rfl,hx⟩
             replace g4:=g4.ext hx;replace ho4:=row_ext ho4 hx;replace hx4:=hx4.trans hx;clear c_4 hx hCC;have c_4:=g4.cells;go_wp2_with fail
             refine (hLL _).mono ?_
             rintro e w7 ⟨rfl,hx⟩
             replace ho4:=row_ext ho4 hx;replace hx4:=hx4.trans hx;clear c_4 g4 hx hLL
             have ho5:=Hd ho4
             clear ho4;go_wp2_with fail
             refine⟨⟨j+1,bi+C,ci+D,pre++[⟨kk,bi,ci,n,q.wr,-1,tp⟩],rfl,rfl,by go_num,by omega,by simp [hpl],by omega,by omega,hM2,by rw [List.flatMap_append];exact ho5.out,hx4⟩,?_⟩
             simp [intOf];omega
         · have hf:layFrom n 1 l base loc=some pre:=by
            rw [hM.out,List.drop_eq_nil_of_le (by omega)]
            simp [layFrom]
           have hres:=Hd (hlay.out.trans hf)
           clear hM hf hlay hwr
           have hownh:=Hd hown
           clear hown;go_wp2_with fail
           rw [hres.out]
           refine bodyPost_ret (v:=.tuple #[u14,V Z 0]) (by simp [results,Tryz.results163,go_sem]) rfl ?_
           exact⟨hE,u14,rfl,by rw [hpl];exact hownh.out⟩
   · have hgood:=Hd (fun hq=>argsM_good (l:=l) h0 hq)
     have hbad:=Hd (fun (i:Nat) q hq hx=>argsM_bad (l:=l) (n:=n) (mode:=2) (b:=base) (c:=loc) (i:=i) (q:=q) hq hx)
     obtain⟨-,-,n1,n2,b1,l1⟩:=h0
     have d3:decide (n<1)=false:=by rw [decide_eq_false_iff_not];omega
     have d4:decide (8<n)=false:=by rw [decide_eq_false_iff_not];omega
     have d5:decide (base<0)=false:=by rw [decide_eq_false_iff_not];omega
     have d6:decide (loc<0)=false:=by rw [decide_eq_false_iff_not];omega
     go_enter Tryz.func163,Tryz.ntmps163
     go_wp2_with fail
     go_loopw [40] (fun i wr=>∃ j:Nat,i=V Z j/\j<=l.length/\Hid (∀ (k:Nat) q,k<j->l[k]?=some q->-1<=q.wr/\q.wr<n)/\Ext w wr) (fun i _=>l.length-(intOf i).toNat)
     case atStart=>exact⟨0,rfl,by omega,fun k q hk=>by omega,Ext.refl _⟩
     case round =>
      obtain⟨j,rfl,hj,hs,hE⟩:=hrel
      by_cases hl:j<l.length
      · obtain⟨q,hq⟩:∃ q,l[j]?=some q:=⟨_,List.getElem?_eq_getElem hl⟩
        obtain⟨b,rfl,hb,e1,e2⟩:=want_at (hv.ext hE) hq
        have hE2:=hE.alloc (.cells #[V Z q.wr,V Z q.top] 179)
        by_cases f1:q.wr < -1
        · have d7:decide (q.wr < -1)=true:=by simpa using f1
          have hf:=Hd (hbad.out j q hq (by omega))
          clear hq hgood hbad hs;go_wp2_with fail
          rw [hf.out]
          refine bodyPost_ret (v:=.tuple #[.slice none 0 0,V Z 1]) (by simp [results,Tryz.results163,go_sem]) rfl ?_
          exact⟨hE2,1,by decide,rfl⟩
        · have d7:decide (q.wr < -1)=false:=by rw [decide_eq_false_iff_not];omega
          by_cases f2:n<=q.wr
          · have d8:decide (n<=q.wr)=true:=by simpa using f2
            have hf:=Hd (hbad.out j q hq (by omega))
            clear hq hgood hbad hs;go_wp2_with fail
            rw [hf.out]
            refine bodyPost_ret (v:=.tuple #[.slice none 0 0,V Z 1]) (by simp [results,Tryz.results163,go_sem]) rfl ?_
            exact⟨hE2,1,by decide,rfl⟩
          · have d8:decide (n<=q.wr)=false:=by rw [decide_eq_false_iff_not];omega
            have hs2:Hid (∀ (k:Nat) q,k<j+1->l[k]?=some q->-1<=q.wr/\q.wr<n):=Hd fun k q' hk hq'=>by
             by_cases e:k=j
             · subst e
               rw [hq] at hq'
               obtain rfl:q=q':=by simpa using hq'
               omega
             · exact hs.out k q' (by omega) hq'
            have hE3:=Hd hE2
            clear hq hs hgood hbad hE2;go_wp2_with fail
            refine⟨⟨j+1,by go_num,by omega,hs2,hE3.out⟩,?_⟩
            simp [intOf];omega
      · have hlay:=Hd (hgood.out fun k q hq=>hs.out k q (by have:=(List.getElem?_eq_some_iff.1 hq).1;omega) hq)
        have hwr:=Hd (fun (k:Nat) (q:Want) (hq:l[k]?=some q)=>hs.out k q (by have:=(List.getElem?_eq_some_iff.1 hq).1;omega) hq)
        clear hgood hbad hs;go_wp2_with fail
        have hE0:=Hd hE
        clear hE
        go_loopw [3,4,14,56] (fun b' c' v i wr=>∃ (j:Nat) (bi ci:Int) (pre:List Reg),b'=V Z bi/\c'=V Z ci/\i=V Z j/\j<=l.length/\pre.length=j/\0<=bi/\0<=ci/\Hid (layFrom n 2 l base loc=(layFrom n 2 (l.drop j) bi ci).map (pre++·))/\wr.ownsRow w.heap.size 67 7 v j (pre.flatMap regVals)/\Ext w wr) (fun _ _ _ i _=>l.length-(intOf i).toNat)
        case atStart=>exact⟨0,base,loc,[],rfl,rfl,rfl,by omega,rfl,b1,l1,by unfold Hid;simp,World.ownsRow_nil _ _ _ _,hE0.out⟩
        case round =>
         clear hE0
         obtain⟨j,bi,ci,pre,rfl,rfl,rfl,hj,hpl,hbi,hci,hM,hown,hE⟩:=hrel
         by_cases hl:j<l.length
         · obtain⟨q,hq⟩:∃ q,l[j]?=some q:=⟨_,List.getElem?_eq_getElem hl⟩
           obtain⟨b,rfl,hb,e1,e2⟩:=want_at (hv.ext hE) hq
           obtain⟨w1,w2⟩:=hwr.out j q hq
           have hdr:l.drop j=q :: l.drop (j+1):=by
            rw [List.drop_eq_getElem_cons hl]
            congr 1
            rw [List.getElem?_eq_getElem hl] at hq
            simpa using hq
           have hMh:=Hd hM
           have hownh:=Hd hown
           clear hM hown hq
           have hrk:regOf n 2 bi ci q=⟨kindM 2 q.wr,bi,ci,n,q.wr,-1,topM q.top⟩:=rfl
           have hWW:=fun W=>want_p q n 2 W (by omega) w1
           have hK:kindM 2 q.wr=1∨kindM 2 q.wr=6∨kindM 2 q.wr=7:=by unfold kindM;split <;> (try split) <;> simp
           have hK6:kindM 2 q.wr=6->0<=q.wr:=by unfold kindM;split <;> (try split) <;> omega
           have htm:=topM_bd q.top
           have hdn:Drawn ⟨kindM 2 q.wr,bi,ci,n,q.wr,-1,topM q.top⟩:=⟨hK,hbi,hci,⟨n1,n2⟩,⟨w1,w2⟩,hK6,rfl,htm⟩
           have hlf:=Hd (show layFrom n 2 (l.drop j) bi ci=if fineM ⟨kindM 2 q.wr,bi,ci,n,q.wr,-1,topM q.top⟩ then (layFrom n 2 (l.drop (j+1)) (bi+cellsM ⟨kindM 2 q.wr,bi,ci,n,q.wr,-1,topM q.top⟩) (ci+localsM ⟨kindM 2 q.wr,bi,ci,n,q.wr,-1,topM q.top⟩)).map (⟨kindM 2 q.wr,bi,ci,n,q.wr,-1,topM q.top⟩ :: ·) else none from by rw [hdr,layFrom_cons,hrk])
           have hCC:=fun W=>hC ⟨kindM 2 q.wr,bi,ci,n,q.wr,-1,topM q.top⟩ W hdn rfl
           have hFF:=fun W=>fine_p ⟨kindM 2 q.wr,bi,ci,n,q.wr,-1,topM q.top⟩ W hdn hCC
           have hLL:=fun W=>locals_p ⟨kindM 2 q.wr,bi,ci,n,q.wr,-1,topM q.top⟩ W hK ⟨n1,n2⟩
           have hcn:=cells_nat ⟨kindM 2 q.wr,bi,ci,n,q.wr,-1,topM q.top⟩ ⟨n1,n2⟩
           have hfb:fineM ⟨kindM 2 q.wr,bi,ci,n,q.wr,-1,topM q.top⟩=true->bi<=32768/\ci<=32768:=by
            unfold fineM
            simp only [Bool.and_eq_true,decide_eq_true_eq]
            omega
           clear hdn hrk htm hdr hK hK6
           unfold encR regOf at hWW
           unfold encR at hFF hCC hLL
           simp only at hWW hFF hCC hLL
           generalize kindM 2 q.wr=kk at *
           generalize topM q.top=tp at *
           generalize cellsM _=C at *
           generalize localsM _=D at *
           generalize hfm:fineM _=F at *
           clear hfm;go_wp2_with fail
           refine (hWW _).mono ?_
           rintro e w3 ⟨rfl,hx⟩
           clear hWW
           have g3:=Blk.new w3 (.cells #[V Z kk,V Z bi,V Z ci,V Z n,V Z q.wr,V Z (-1),V Z tp] 67)
           have x3:Ext wr (w3.alloc (.cells #[V Z kk,V Z bi,V Z ci,V Z n,V Z q.wr,V Z (-1),V Z tp] 67)):=(((Ext.refl wr).alloc _).trans hx).alloc _
           have hz3:wr.heap.size<w3.heap.size:=by have:=hx.size;simp at this;omega
           clear hx;go_wp2_with fail
           generalize w3.alloc _=W at *
           have c_3:=g3.cells
           refine (hFF _).mono ?_
           rintro e w4 ⟨rfl,hx⟩
           clear hFF c_3;replace g3:=g3.ext hx;replace x3:=x3.trans hx;clear hx;have c_3:=g3.cells
           cases F with
           | false =>
             have hres:=Hd (show layM l n 2 base loc=none from by rw [hlay.out,hMh.out,hlf.out];rfl)
             go_wp2_with fail
             rw [hres.out]
             exact bodyPost_ret (v:=.tuple #[.slice none 0 0,V Z 6]) (by simp [results,Tryz.results163,go_sem]) rfl ⟨hE.trans x3,6,by decide,rfl⟩
           | true =>
             obtain⟨hb1,hb2⟩:=hfb rfl
             have s1:=IntWalk.i64_in (bi+C) (by omega)
             have s2:=IntWalk.i64_in (ci+D) (by omega)
             have hown3:=row_ext hownh.out x3
             have hRn:Hid (u14.ownBlock≠some w3.heap.size):=Hd fun e=>by have:=(hownh.out.lt _ e).2;omega
             have hE3:=hE.trans x3
             have hM2:=Hd (show layFrom n 2 l base loc=(layFrom n 2 (l.drop (j+1)) (bi+C) (ci+D)).map ((pre++[⟨kk,bi,ci,n,q.wr,-1,tp⟩])++·) from by
              rw [hMh.out,hlf.out]
              simp only [if_true,Option.map_map]
              congr 1
              funext x
              simp)
             clear hfb hlf hMh hownh hb1 hb2
             go_wp2_with (at_builtin;refine append_rec info_reg Tryz.underlying94 rfl (by decide) (by decide) rfl _ _ rfl _ j (pre.flatMap regVals) [V Z kk,V Z bi,V Z ci,V Z n,V Z q.wr,V Z (-1),V Z tp] hE3 hown3 rfl rfl rfl (by simp [Value.oneCell']) (by omega) ?_)
             intro v' w5 ho4 hx4 hbk
             have g4:Blk w5 w3.heap.size _:=(hbk _ g3.lt hRn.out).trans g3
             have c_4:=g4.cells;clear hbk hown3 hE3 c_3 hRn g3 x3;go_wp2_with fail
             refine (hCC _).mono ?_
             rintro e w6 ⟨rfl,hx⟩
             replace g4:=g4.ext hx;replace ho4:=row_ext ho4 hx;replace hx4:=hx4.trans hx;clear c_4 hx hCC;have c_4:=g4.cells;go_wp2_with fail
             refine (hLL _).mono ?_
             rintro e w7 ⟨rfl,hx⟩
             replace ho4:=row_ext ho4 hx;replace hx4:=hx4.trans hx;clear c_4 g4 hx hLL
             have ho5:=Hd ho4
             clear ho4;go_wp2_with fail
             refine⟨⟨j+1,bi+C,ci+D,pre++[⟨kk,bi,ci,n,q.wr,-1,tp⟩],rfl,rfl,by go_num,by omega,by simp [hpl],by omega,by omega,hM2,by rw [List.flatMap_append];exact ho5.out,hx4⟩,?_⟩
             simp [intOf];omega
         · have hf:layFrom n 2 l base loc=some pre:=by
            rw [hM.out,List.drop_eq_nil_of_le (by omega)]
            simp [layFrom]
           have hres:=Hd (hlay.out.trans hf)
           clear hM hf hlay hwr
           have hownh:=Hd hown
           clear hown;go_wp2_with fail
           rw [hres.out]
           refine bodyPost_ret (v:=.tuple #[u14,V Z 0]) (by simp [results,Tryz.results163,go_sem]) rfl ?_
           exact⟨hE,u14,rfl,by rw [hpl];exact hownh.out⟩
 · rw [argsM_false h0]
   go_enter Tryz.func163,Tryz.ntmps163
   have hfin:LayPost w.heap.size w none (.returned (.tuple #[.slice none 0 0,V Z 1])) w:=⟨Ext.refl _,1,by decide,rfl⟩
   by_cases m1:mode=1∨mode=2
   · by_cases m3:n<1
     · have d3:decide (n<1)=true:=by simpa using m3
       rcases m1 with rfl | rfl
       all_goals
        go_wp2_with fail
        exact bodyPost_ret (v:=.tuple #[.slice none 0 0,V Z 1]) (by simp [results,Tryz.results163,go_sem]) rfl hfin
     · have d3:decide (n<1)=false:=by simpa using m3
       by_cases m4:8<n
       · have d4:decide (8<n)=true:=by simpa using m4
         rcases m1 with rfl | rfl
         all_goals
          go_wp2_with fail
          exact bodyPost_ret (v:=.tuple #[.slice none 0 0,V Z 1]) (by simp [results,Tryz.results163,go_sem]) rfl hfin
       · have d4:decide (8<n)=false:=by simpa using m4
         by_cases m5:base<0
         · have d5:decide (base<0)=true:=by simpa using m5
           rcases m1 with rfl | rfl
           all_goals
            go_wp2_with fail
            exact bodyPost_ret (v:=.tuple #[.slice none 0 0,V Z 1]) (by simp [results,Tryz.results163,go_sem]) rfl hfin
         · have d5:decide (base<0)=false:=by simpa using m5
           have d6:decide (loc<0)=true:=by rw [decide_eq_true_eq];omega
           rcases m1 with rfl | rfl
           all_goals
            go_wp2_with fail
            exact bodyPost_ret (v:=.tuple #[.slice none 0 0,V Z 1]) (by simp [results,Tryz.results163,go_sem]) rfl hfin
   · have d1:(mode != 1)=true:=by rw [bne_iff_ne];omega
     have d2:(mode != 2)=true:=by rw [bne_iff_ne];omega
     go_wp2_with fail
     exact bodyPost_ret (v:=.tuple #[.slice none 0 0,V Z 1]) (by simp [results,Tryz.results163,go_sem]) rfl hfin
theorem append_none {w:World}{ops:Array Oper}{rest:List Oper}{o:Oper}{a:Act}{Q:Exit->Act->World->Prop}{z:Value}{e t:TypeId}{size bytes:Nat}
  (hinfo:(Tryz.prog.info? e).map (fun i=>(i.zero,i.size,i.bytes))=some (some z,size,bytes))(hund:Tryz.prog.underlying t=some (.slice e))(hgd:o.guard=none)(s x:Operand)
  (ho:o.op=.call { callee:=.builtin .append,args:=#[s,x],argTypes:=#[t,t] })(base:Nat)(v:Value)(n:Nat)(xs:List Value)(hown:w.ownsRow base e size v n xs)(hs:a.eval s=v)(hx:a.eval x=.slice none 0 0)
  (h:wpList Tryz.prog ops Q rest (a.put o.dst v) w):wpList Tryz.prog ops Q (o :: rest) a w:=by
 obtain⟨i0,hi,hz0,hz1,hz2⟩:=info_parts hinfo
 exact wpList_append_own_none hgd s x t ho base e i0 size hund hi v n xs hs hown hx h
set_option maxRecDepth 100000 in
theorem mstrips1_p (w:World):Calls Tryz.prog 317 #[V Z 1] w fun e w'=>∃ A c,e=.returned (.slice A 0 c)/\Ext w w':=by
 go_enter Tryz.func317,Tryz.ntmps317
 go_wp2_with fail
 refine (mthreads_p 1 _ (by omega) (by omega)).mono ?_
 rintro e w' ⟨rfl,rfl⟩;go_wp2_with fail
 go_loopw [3,6] (fun v i wr=>∃ j:Nat,i=V Z j/\j<=1/\wr.ownsRow w.heap.size 176 3 v 0 []/\Ext w wr) (fun _ i _=>1-(intOf i).toNat)
 case atStart=>exact⟨0,rfl,by omega,World.ownsRow_nil _ _ _ _,Ext.refl _⟩
 case round =>
  obtain⟨j,rfl,hj,hown,hX⟩:=hrel
  by_cases hl:j<1
  · obtain rfl:j=0:=by omega
    go_wp2_with fail
    refine (tstrips_p 1 _ (by omega) (by omega)).mono ?_
    rintro e w2 ⟨v2,rfl,hr2,hx2⟩
    rw [show 2*((1-1:Int).toNat*(1-1:Int).toNat)=0 from rfl,show pairVals ((1-1:Int).toNat*(1-1:Int).toNat)=[] from rfl] at hr2
    replace hown:=row_ext hown hx2;replace hX:=hX.trans hx2;clear hx2
    rcases hr2.2 with⟨rfl,-⟩ | ⟨g,cap,cur,rfl,q1,q2,q3,q4,-⟩
    · clear hr2
      go_wp2_with (at_builtin;refine append_none info_strip Tryz.underlying120 rfl _ _ rfl w.heap.size _ 0 [] hown rfl rfl ?_)
      have hoh:=Hd hown
      clear hown;go_wp2_with fail
      refine⟨⟨1,by go_num,by omega,hoh.out,hX⟩,?_⟩
      simp [intOf]
    · clear hr2
      go_wp2_with (at_builtin;refine append_recs info_strip Tryz.underlying120 rfl (by decide) (by decide) rfl _ _ rfl _ 0 [] [] ⟨g,0,none⟩ 0 cap hX hown rfl rfl rfl (fun i u hu=>by simp at hu) (fun u hu=>by simp at hu) (by omega) (by omega) ?_)
      intro v' w' ho hx'
      have hoh:=Hd ho
      clear hown ho q1 q2 q3 q4;go_wp2_with fail
      refine⟨⟨1,by go_num,by omega,hoh.out,hx'⟩,?_⟩
      simp [intOf]
  · obtain rfl:j=1:=by omega
    obtain⟨A,c,rfl,-⟩:=Recs.of_row hown
    clear hown;go_wp2_with fail
    go_ret
    exact⟨_,_,rfl,hX⟩
set_option maxRecDepth 100000 in
theorem cells71_p (base loc wr rd top:Int)(w:World):Calls Tryz.prog 225 #[.agg #[V Z 7,V Z base,V Z loc,V Z 1,V Z wr,V Z rd,V Z top]] w fun e w'=>e=.returned (V Z 0)/\Ext w w':=by
 have hS:∀ w,Calls Tryz.prog 274 #[.agg #[V Z 7,V Z base,V Z loc,V Z 1,V Z wr,V Z rd,V Z top]] w fun e w'=>∃ A c,e=.returned (.slice A 0 c)/\Ext w w':=by
  intro w
  have hX:=Ext.refl w
  have b1:=Blk.new w (.cells #[V Z 7,V Z base,V Z loc,V Z 1,V Z wr,V Z rd,V Z top] 67)
  replace hX:=hX.alloc (.cells #[V Z 7,V Z base,V Z loc,V Z 1,V Z wr,V Z rd,V Z top] 67)
  have c_b1:=b1.cells
  go_enter Tryz.func274,Tryz.ntmps274
  go_wp2_with fail
  refine (mstrips1_p _).mono ?_
  rintro e w2 ⟨A,c,rfl,hx⟩
  have hf:=Hd (hX.trans hx)
  clear hx;go_wp2_with fail
  go_ret
  exact⟨_,_,rfl,hf.out⟩
 have hX:=Ext.refl w
 have b1:=Blk.new w (.cells #[V Z 7,V Z base,V Z loc,V Z 1,V Z wr,V Z rd,V Z top] 67)
 replace hX:=hX.alloc (.cells #[V Z 7,V Z base,V Z loc,V Z 1,V Z wr,V Z rd,V Z top] 67)
 have c_b1:=b1.cells
 go_enter Tryz.func225,Tryz.ntmps225
 go_wp2_with fail
 refine (hS _).mono ?_
 rintro e w2 ⟨A,c,rfl,hx⟩
 have hf:=Hd (hX.trans hx)
 clear hx hS c_b1 b1 hX;go_wp2_with fail
 go_loopw [3,9] (fun s i wr=>i=V Z 0/\s=V Z 0/\w2=wr) (fun _ _ _=>0)
 case atStart=>exact⟨rfl,rfl,rfl⟩
 case round =>
  obtain⟨rfl,rfl,rfl⟩:=hrel
  go_wp2_with fail
  go_ret
  exact⟨rfl,hf.out⟩
theorem cells_all (r:Reg)(w:World)(hk:r.kind=1∨r.kind=6∨r.kind=7)(hn:1<=r.n/\r.n<=8):Calls Tryz.prog 225 #[encR r] w fun e w'=>e=.returned (V Z (cellsM r))/\Ext w w':=by
 by_cases h:r.kind=7/\r.n=1
 · obtain⟨kind,base,loc,n,wr,rd,top⟩:=r
   obtain⟨rfl,rfl⟩:=h
   exact cells71_p base loc wr rd top w
 · exact cells_p r w (by omega) hn (fun w=>mthreads_p r.n w hn.1 hn.2)
theorem plan_p (va:Value)(l:List Want)(n mode base loc:Int)(w:World)(h:WantsAt w va l)(hlen:l.length<=1000) :
  Calls Tryz.prog 163 #[va,V Z n,V Z mode,V Z base,V Z loc] w (LayPost w.heap.size w (layM l n mode base loc)) :=
 lay_p va l n mode base loc w h hlen fun r w hd _=>cells_all r w hd.kind hd.n
end Go.Proofs.YtbaajjkopdjbgaaGreat
namespace Kv
theorem filWants_len (N:Nat):(filWants N).length=2*N-1:=by simp [filWants]
theorem fastWants_len (N:Nat):(fastWants N).length=N+2:=by simp [fastWants]
theorem bwWants_len (N:Nat):(bwWants N).length=2*N+1:=by simp [bwWants]
end Kv
namespace Go.Proofs.YtbaajjkopdjbgaaGreat
open Go.RowKit Kv
theorem layr_some {va:Value}{l:List Want}{n mode base loc:Int}{rs:List Reg}(hl:layM l n mode base loc=some rs)(w:World)(h:WantsAt w va l)(hlen:l.length<=1000) :
  Calls Tryz.prog 176 #[va,V Z n,V Z mode,V Z base,V Z loc] w fun e w'=>∃ v,e=.returned (.tuple #[v,V Z 0])/\(RegsV w' v rs/\∀ k,v.ownBlock=some k->w.heap.size<=k)/\Ext w w':=by
 have:=lay_r va l n mode base loc w h hlen
 rw [hl] at this
 exact this.mono fun e w' ⟨hx,v,he,hr⟩=>⟨v,he,⟨Recs.of_row hr,fun k hk=>(hr.lt k hk).1⟩,hx⟩
theorem layp_some {va:Value}{l:List Want}{n mode base loc:Int}{rs:List Reg}(hl:layM l n mode base loc=some rs)(w:World)(h:WantsAt w va l)(hlen:l.length<=1000) :
  Calls Tryz.prog 163 #[va,V Z n,V Z mode,V Z base,V Z loc] w fun e w'=>∃ v,e=.returned (.tuple #[v,V Z 0])/\(RegsV w' v rs/\∀ k,v.ownBlock=some k->w.heap.size<=k)/\Ext w w':=by
 have:=plan_p va l n mode base loc w h hlen
 rw [hl] at this
 exact this.mono fun e w' ⟨hx,v,he,hr⟩=>⟨v,he,⟨Recs.of_row hr,fun k hk=>(hr.lt k hk).1⟩,hx⟩
set_option maxRecDepth 100000 in
theorem filregs_r (alg mode base loc room:Int)(N:Nat)(rs:List Reg)(w:World)(h1:1<=N)(h2:N<=8)(hl:layM (filWants N) N mode base loc=some rs) :
  Calls Tryz.prog 206 #[.agg #[V Z alg,V Z N,V Z mode,V Z base,V Z loc,V Z room]] w fun e w'=>∃ b c,e=.returned (.slice (some ⟨b,0,none⟩) rs.length c)/\w.heap.size<=b/\b<w'.heap.size/\(∀ (i:Nat) u,(rs.flatMap regVals)[i]?=some u->w'.cell? ⟨b,i,none⟩=some u)/\rs.length<=c/\c<=9223372036854775807/\Ext w w':=by
 have hlen:=layM_len hl
 rw [filWants_len] at hlen;replace hl:=Hd hl
 have hlenh:=Hd hlen
 clear hlen
 have hX:=Ext.refl w
 have b1:=Blk.new w (.cells #[V Z alg,V Z N,V Z mode,V Z base,V Z loc,V Z room] 23)
 replace hX:=hX.alloc (.cells #[V Z alg,V Z N,V Z mode,V Z base,V Z loc,V Z room] 23)
 have c_b1:=b1.cells
 go_enter Tryz.func206,Tryz.ntmps206
 go_wp2_with fail
 generalize w.alloc _=W at *
 have hXW:=hX;clear hX c_b1
 have hX:=(Ext.refl W).drew
 have hS:∀ w',Ext W w'->(∀ i,w'.cell? ⟨w.heap.size,i,none⟩=(#[V Z alg,V Z N,V Z mode,V Z base,V Z loc,V Z room]:Array Value)[i]?):=fun w' hx=>(b1.ext hx).cells
 go_region_held2 (fun w'=>∀ i,w'.cell? ⟨w.heap.size,i,none⟩=(#[V Z alg,V Z N,V Z mode,V Z base,V Z loc,V Z room]:Array Value)[i]?) (exact hS _ hX)
  (first
    | (go_at_call 178
       refine (filwants_r N _ h1 h2).mono ?_
       rintro e w2 ⟨v2,rfl,hw2,hx⟩
       replace hX:=hX.trans hx;have hz2:=hX.size
       clear hx)
    | (go_at_call 176
       refine (layr_some hl.out _ (hw2.ext (Ext.refl _)) (by simp [filWants_len];omega)).mono ?_
       rintro e w3 ⟨v3,rfl,hr3,hx⟩
       replace hX:=hX.trans hx
       clear hx))
 rename_i hh
 clear hh
 obtain⟨⟨A,c,rfl,q1,q2,hV⟩,hown⟩:=hr3
 obtain⟨b,rfl,hb,hcells⟩:=hV (by cases rs with | nil=>have:=hlenh.out;simp only [List.length_nil] at this;omega | cons r l=>simp [regVals])
 have hge:w.heap.size<=b:=Nat.le_trans (Nat.le_trans hXW.size hz2) (hown b rfl)
 have hfh:=Hd (And.intro hge (And.intro hb (And.intro hcells (hXW.trans hX))))
 clear hcells hV hb hown hge hz2;go_wp2_with fail
 go_ret
 exact⟨_,_,rfl,hfh.out.1,hfh.out.2.1,hfh.out.2.2.1,q1,q2,hfh.out.2.2.2⟩
set_option maxRecDepth 100000 in
theorem fastregs_r (alg mode base loc room:Int)(N:Nat)(rs:List Reg)(w:World)(h1:1<=N)(h2:N<=8)(hl:layM (fastWants N) N mode base loc=some rs) :
  Calls Tryz.prog 208 #[.agg #[V Z alg,V Z N,V Z mode,V Z base,V Z loc,V Z room]] w fun e w'=>∃ b c,e=.returned (.slice (some ⟨b,0,none⟩) rs.length c)/\w.heap.size<=b/\b<w'.heap.size/\(∀ (i:Nat) u,(rs.flatMap regVals)[i]?=some u->w'.cell? ⟨b,i,none⟩=some u)/\rs.length<=c/\c<=9223372036854775807/\Ext w w':=by
 have hlen:=layM_len hl
 rw [fastWants_len] at hlen;replace hl:=Hd hl
 have hlenh:=Hd hlen
 clear hlen
 have hX:=Ext.refl w
 have b1:=Blk.new w (.cells #[V Z alg,V Z N,V Z mode,V Z base,V Z loc,V Z room] 23)
 replace hX:=hX.alloc (.cells #[V Z alg,V Z N,V Z mode,V Z base,V Z loc,V Z room] 23)
 have c_b1:=b1.cells
 go_enter Tryz.func208,Tryz.ntmps208
 go_wp2_with fail
 generalize w.alloc _=W at *
 have hXW:=hX;clear hX c_b1
 have hX:=(Ext.refl W).drew
 have hS:∀ w',Ext W w'->(∀ i,w'.cell? ⟨w.heap.size,i,none⟩=(#[V Z alg,V Z N,V Z mode,V Z base,V Z loc,V Z room]:Array Value)[i]?):=fun w' hx=>(b1.ext hx).cells
 go_region_held2 (fun w'=>∀ i,w'.cell? ⟨w.heap.size,i,none⟩=(#[V Z alg,V Z N,V Z mode,V Z base,V Z loc,V Z room]:Array Value)[i]?) (exact hS _ hX)
  (first
    | (go_at_call 179
       refine (fastwants_r N _ h1 h2).mono ?_
       rintro e w2 ⟨v2,rfl,hw2,hx⟩
       replace hX:=hX.trans hx;have hz2:=hX.size
       clear hx)
    | (go_at_call 176
       refine (layr_some hl.out _ (hw2.ext (Ext.refl _)) (by simp [fastWants_len];omega)).mono ?_
       rintro e w3 ⟨v3,rfl,hr3,hx⟩
       replace hX:=hX.trans hx
       clear hx))
 rename_i hh
 clear hh
 obtain⟨⟨A,c,rfl,q1,q2,hV⟩,hown⟩:=hr3
 obtain⟨b,rfl,hb,hcells⟩:=hV (by cases rs with | nil=>have:=hlenh.out;simp only [List.length_nil] at this;omega | cons r l=>simp [regVals])
 have hge:w.heap.size<=b:=Nat.le_trans (Nat.le_trans hXW.size hz2) (hown b rfl)
 have hfh:=Hd (And.intro hge (And.intro hb (And.intro hcells (hXW.trans hX))))
 clear hcells hV hb hown hge hz2;go_wp2_with fail
 go_ret
 exact⟨_,_,rfl,hfh.out.1,hfh.out.2.1,hfh.out.2.2.1,q1,q2,hfh.out.2.2.2⟩
set_option maxRecDepth 100000 in
theorem fillay_p (alg mode base loc room me:Int)(N:Nat)(rs:List Reg)(w:World)(h1:1<=N)(h2:N<=8)(hl:layM (filWants N) N mode base loc=some rs)(hm0:0<=me)(hm1:me<N) :
  Calls Tryz.prog 247 #[.agg #[V Z alg,V Z N,V Z mode,V Z base,V Z loc,V Z room],V Z me] w fun e w'=>∃ b c A2 c2,e=.returned (.tuple #[.slice (some ⟨b,0,none⟩) N c,.slice A2 (N-1) c2,V Z 0])/\(2<=N->A2=some ⟨b,N*7,none⟩)/\w.heap.size<=b/\b<w'.heap.size/\(∀ (i:Nat) u,(rs.flatMap regVals)[i]?=some u->w'.cell? ⟨b,i,none⟩=some u)/\N<=c/\c<=9223372036854775807/\Ext w w':=by
 have hlen:=layM_len hl
 rw [filWants_len] at hlen;replace hl:=Hd hl
 have hlenh:=Hd hlen
 clear hlen
 have d1:decide (me<0)=false:=by rw [decide_eq_false_iff_not];omega
 have d2:decide ((N:Int)<=me)=false:=by rw [decide_eq_false_iff_not];omega
 have hX:=Ext.refl w
 have b1:=Blk.new w (.cells #[V Z alg,V Z N,V Z mode,V Z base,V Z loc,V Z room] 23)
 replace hX:=hX.alloc (.cells #[V Z alg,V Z N,V Z mode,V Z base,V Z loc,V Z room] 23)
 have c_b1:=b1.cells
 go_enter Tryz.func247,Tryz.ntmps247
 go_wp2_with fail
 generalize w.alloc _=W at *
 have hXW:=hX;clear hX c_b1
 have hX:=(Ext.refl W).drew
 have hS:∀ w',Ext W w'->(∀ i,w'.cell? ⟨w.heap.size,i,none⟩=(#[V Z alg,V Z N,V Z mode,V Z base,V Z loc,V Z room]:Array Value)[i]?):=fun w' hx=>(b1.ext hx).cells
 go_region_held2 (fun w'=>∀ i,w'.cell? ⟨w.heap.size,i,none⟩=(#[V Z alg,V Z N,V Z mode,V Z base,V Z loc,V Z room]:Array Value)[i]?) (exact hS _ hX)
  (first
    | (go_at_call 188
       refine (filwants_p N _ h1 h2).mono ?_
       rintro e w2 ⟨v2,rfl,hw2,hx⟩
       replace hX:=hX.trans hx;have hz2:=hX.size
       clear hx)
    | (go_at_call 163
       refine (layp_some hl.out _ (hw2.ext (Ext.refl _)) (by simp [filWants_len];omega)).mono ?_
       rintro e w3 ⟨v3,rfl,hr3,hx⟩
       replace hX:=hX.trans hx
       clear hx))
 rename_i hh
 clear hh
 obtain⟨⟨A,c,rfl,q1,q2,hV⟩,hown⟩:=hr3
 obtain⟨b,rfl,hb,hcells⟩:=hV (by cases rs with | nil=>have:=hlenh.out;simp only [List.length_nil] at this;omega | cons r l=>simp [regVals])
 have hge:w.heap.size<=b:=Nat.le_trans (Nat.le_trans hXW.size hz2) (hown b rfl)
 have hfh:=Hd (And.intro hge (And.intro hb (And.intro hcells (hXW.trans hX))))
 clear hcells hV hb hown hge hz2
 have c_b1:=hS _ hX
 clear hS;have hz3:=hlenh.out;go_wp2_with fail
 go_quiet (fail)
 have hx9:=(Ext.refl w3).drewN nq
 have hg9:=hfh.out.1
 have hb9:=Nat.lt_of_lt_of_le hfh.out.2.1 hx9.size
 have hc9:Hid (∀ (i:Nat) u,(rs.flatMap regVals)[i]?=some u->(w3.drewN nq).cell? ⟨b,i,none⟩=some u):=Hd fun i u hu=>(hx9.cell (p:=⟨b,i,none⟩) hfh.out.2.1).trans (hfh.out.2.2.1 i u hu)
 have hX9:=Hd (hfh.out.2.2.2.trans hx9)
 clear hx9 c_b1 hfh
 generalize w3.drewN nq=W9 at *
 generalize hA2:(if c=N then some (⟨b,0,none⟩:Addr) else some ⟨b,N*7,none⟩)=A2
 have hA3:Hid (2<=N->A2=some ⟨b,N*7,none⟩):=Hd fun h=>by rw [<- hA2];exact if_neg (by omega)
 clear hA2
 rw [show 2*N-1-N=N-1 from by omega]
 go_wp2_with fail
 refine bodyPost_ret (v:=.tuple #[.slice (some ⟨b,0,none⟩) N c,.slice A2 (N-1) (c-N),V Z 0]) (by simp [results,Tryz.results247,go_sem]) rfl ?_
 exact⟨b,c,_,c-N,rfl,hA3.out,hg9,hb9,hc9.out,by omega,q2,hX9.out⟩
set_option maxRecDepth 100000 in
theorem fastlay_p (alg mode base loc room me:Int)(N:Nat)(rs:List Reg)(w:World)(h1:1<=N)(h2:N<=8)(hl:layM (fastWants N) N mode base loc=some rs)(hm0:0<=me)(hm1:me<N) :
  Calls Tryz.prog 248 #[.agg #[V Z alg,V Z N,V Z mode,V Z base,V Z loc,V Z room],V Z me] w fun e w'=>∃ b c,e=.returned (.tuple #[.slice (some ⟨b,0,none⟩) rs.length c,V Z 0])/\w.heap.size<=b/\b<w'.heap.size/\(∀ (i:Nat) u,(rs.flatMap regVals)[i]?=some u->w'.cell? ⟨b,i,none⟩=some u)/\rs.length<=c/\c<=9223372036854775807/\Ext w w':=by
 have hlen:=layM_len hl
 rw [fastWants_len] at hlen;replace hl:=Hd hl
 have hlenh:=Hd hlen
 clear hlen
 have d1:decide (me<0)=false:=by rw [decide_eq_false_iff_not];omega
 have d2:decide ((N:Int)<=me)=false:=by rw [decide_eq_false_iff_not];omega
 have hX:=Ext.refl w
 have b1:=Blk.new w (.cells #[V Z alg,V Z N,V Z mode,V Z base,V Z loc,V Z room] 23)
 replace hX:=hX.alloc (.cells #[V Z alg,V Z N,V Z mode,V Z base,V Z loc,V Z room] 23)
 have c_b1:=b1.cells
 go_enter Tryz.func248,Tryz.ntmps248
 go_wp2_with fail
 generalize w.alloc _=W at *
 have hXW:=hX;clear hX c_b1
 have hX:=(Ext.refl W).drew
 have hS:∀ w',Ext W w'->(∀ i,w'.cell? ⟨w.heap.size,i,none⟩=(#[V Z alg,V Z N,V Z mode,V Z base,V Z loc,V Z room]:Array Value)[i]?):=fun w' hx=>(b1.ext hx).cells
 go_region_held2 (fun w'=>∀ i,w'.cell? ⟨w.heap.size,i,none⟩=(#[V Z alg,V Z N,V Z mode,V Z base,V Z loc,V Z room]:Array Value)[i]?) (exact hS _ hX)
  (first
    | (go_at_call 191
       refine (fastwants_p N _ h1 h2).mono ?_
       rintro e w2 ⟨v2,rfl,hw2,hx⟩
       replace hX:=hX.trans hx;have hz2:=hX.size
       clear hx)
    | (go_at_call 163
       refine (layp_some hl.out _ (hw2.ext (Ext.refl _)) (by simp [fastWants_len];omega)).mono ?_
       rintro e w3 ⟨v3,rfl,hr3,hx⟩
       replace hX:=hX.trans hx
       clear hx))
 rename_i hh
 clear hh
 obtain⟨⟨A,c,rfl,q1,q2,hV⟩,hown⟩:=hr3
 obtain⟨b,rfl,hb,hcells⟩:=hV (by cases rs with | nil=>have:=hlenh.out;simp only [List.length_nil] at this;omega | cons r l=>simp [regVals])
 have hge:w.heap.size<=b:=Nat.le_trans (Nat.le_trans hXW.size hz2) (hown b rfl)
 have hfh:=Hd (And.intro hge (And.intro hb (And.intro hcells (hXW.trans hX))))
 clear hcells hV hb hown hge hz2;go_wp2_with fail
 first | go_ret2 | go_ret
 exact⟨_,_,rfl,hfh.out.1,hfh.out.2.1,hfh.out.2.2.1,q1,q2,hfh.out.2.2.2⟩
end Go.Proofs.YtbaajjkopdjbgaaGreat
namespace Kv
def treeWants (E N:Nat):List Want:=List.replicate (E*(2 ^ levels N-1)) ⟨-1,1⟩
def treeA (E D:Nat) (rs:List Reg) (N m:Nat):Prog Int:=(nt 1).bind fun _=>(forP (fun x _=>nodeE E D rs m x) (pathL N m) ()).bind fun _=>(nt 3).bind fun _=>.ret 0
def treeR (E:Nat) (rs:List Reg) (N m:Nat):Prog Unit:=(nt 5).bind fun _=>forP (fun x _=>nodeL E rs m x) (pathL N m).reverse ()
theorem notes_arbSpin (qo rt:Reg)(s me:Int):∀ n:Nat,(arbSpin qo rt s me n).Notes 0
 | 0=>.ret _ _
 | n+1=>by
   rw [arbSpin_succ]
   refine (notes_regR _ _).bind0 fun x=>?_
   split
   · exact .ret _ _
   · refine (notes_regR _ _).bind0 fun y=>?_
     split
     · exact notes_arbSpin qo rt s me n
     · exact .ret _ _
theorem notes_arbM (n:Nat)(q0 q1 rt:Reg)(side me:Int):(arbM n q0 q1 rt side me).Notes 0:=by
 unfold arbM
 split <;> exact (notes_regW _ _ _).bind0 fun _=>(notes_regW _ _ _).bind0 fun _=>notes_arbSpin _ _ _ _ _
theorem notes_kesSpin (qo ro:Reg)(s t me:Int):∀ n:Nat,(kesSpin qo ro s t me n).Notes 0
 | 0=>.ret _ _
 | n+1=>by
   unfold kesSpin
   refine (notes_regR _ _).bind0 fun x=>?_
   split
   · exact .ret _ _
   · refine (notes_regR _ _).bind0 fun y=>?_
     split
     · exact .ret _ _
     · exact notes_kesSpin qo ro s t me n
theorem notes_kesM (n:Nat)(q0 q1 r0 r1:Reg)(side me:Int):(kesM n q0 q1 r0 r1 side me).Notes 0:=by
 unfold kesM
 split <;> exact (notes_regW _ _ _).bind0 fun _=>(notes_regR _ _).bind0 fun _=>(notes_regW _ _ _).bind0 fun _=>notes_kesSpin _ _ _ _ _ _
theorem notes_nodeE (E D:Nat)(rs:List Reg)(me x:Int):(nodeE E D rs me x).Notes 0:=by
 unfold nodeE
 split
 · exact notes_kesM _ _ _ _ _ _ _
 · exact notes_arbM _ _ _ _ _ _
theorem notes_nodeL (E:Nat)(rs:List Reg)(me x:Int):(nodeL E rs me x).Notes 0:=notes_regW _ _ _
end Kv
namespace Go.Proofs.YtbaajjkopdjbgaaGreat
open Go.RowKit Kv
theorem each_le (kind:Int):3<=eachK kind/\eachK kind<=4:=by unfold eachK;split <;> omega
set_option maxRecDepth 100000 in
theorem treelay_p (alg mode base loc room me:Int)(N:Nat)(rs:List Reg)(w:World)(h1:1<=N)(h2:N<=64)(hl:layM (treeWants (eachK alg) N) N mode base loc=some rs)(hm0:0<=me)(hm1:me<N) :
  Calls Tryz.prog 250 #[.agg #[V Z alg,V Z N,V Z mode,V Z base,V Z loc,V Z room],V Z me] w fun e w'=>∃ A c,e=.returned (.tuple #[.slice A rs.length c,V Z 0])/\(rs≠[]->∃ b,A=some ⟨b,0,none⟩/\w.heap.size<=b/\b<w'.heap.size/\(∀ (i:Nat) u,(rs.flatMap regVals)[i]?=some u->w'.cell? ⟨b,i,none⟩=some u))/\rs.length<=c/\c<=9223372036854775807/\Ext w w':=by
 have hW:=fun w=>twants_p alg N w h1 h2
 have hle:=(pow_le (lev_le h2)).2
 have hE:=each_le alg
 have hwl:(treeWants (eachK alg) N).length<=1000:=by
  unfold treeWants
  rw [List.length_replicate]
  have:=Nat.mul_le_mul hE.2 (show 2 ^ levels (N:Int)-1<=63 by omega)
  omega
 rw [show List.replicate (eachK alg*(2 ^ levels (N:Int)-1)) (⟨-1,1⟩:Want)=treeWants (eachK alg) N from rfl] at hW
 generalize treeWants (eachK alg) N=lw at *
 replace hl:=Hd hl;clear hle hE
 have d1:decide (me<0)=false:=by rw [decide_eq_false_iff_not];omega
 have d2:decide ((N:Int)<=me)=false:=by rw [decide_eq_false_iff_not];omega
 have hX:=Ext.refl w
 have b1:=Blk.new w (.cells #[V Z alg,V Z N,V Z mode,V Z base,V Z loc,V Z room] 23)
 replace hX:=hX.alloc (.cells #[V Z alg,V Z N,V Z mode,V Z base,V Z loc,V Z room] 23)
 have c_b1:=b1.cells
 go_enter Tryz.func250,Tryz.ntmps250
 go_wp2_with fail
 generalize w.alloc _=W at *
 have hXW:=hX;clear hX c_b1
 have hX:=(Ext.refl W).drew
 have hS:∀ w',Ext W w'->(∀ i,w'.cell? ⟨w.heap.size,i,none⟩=(#[V Z alg,V Z N,V Z mode,V Z base,V Z loc,V Z room]:Array Value)[i]?):=fun w' hx=>(b1.ext hx).cells
 go_region_held2 (fun w'=>∀ i,w'.cell? ⟨w.heap.size,i,none⟩=(#[V Z alg,V Z N,V Z mode,V Z base,V Z loc,V Z room]:Array Value)[i]?) (exact hS _ hX)
  (first
    | (go_at_call 175
       refine (hW _).mono ?_
       rintro e w2 ⟨v2,rfl,hw2,hx⟩
       replace hX:=hX.trans hx;have hz2:=hX.size
       clear hx)
    | (go_at_call 163
       refine (layp_some hl.out _ (hw2.ext (Ext.refl _)) hwl).mono ?_
       rintro e w3 ⟨v3,rfl,hr3,hx⟩
       replace hX:=hX.trans hx
       clear hx))
 rename_i hh
 clear hh
 obtain⟨⟨A,c,rfl,q1,q2,hV⟩,hown⟩:=hr3
 have hR:Hid (rs≠[]->∃ b,A=some ⟨b,0,none⟩/\w.heap.size<=b/\b<w3.heap.size/\(∀ (i:Nat) u,(rs.flatMap regVals)[i]?=some u->w3.cell? ⟨b,i,none⟩=some u)):=Hd fun hne=>by
  obtain⟨b,rfl,hb,hcells⟩:=hV (by cases rs with | nil=>exact absurd rfl hne | cons r l=>simp [regVals])
  exact⟨b,rfl,Nat.le_trans (Nat.le_trans hXW.size hz2) (hown b rfl),hb,hcells⟩
 have hfh:=Hd (hXW.trans hX)
 clear hV hown hz2;go_wp2_with fail
 first | go_ret2 | go_ret
 exact⟨_,_,rfl,hR.out,q1,q2,hfh.out⟩
theorem climb_p (B p D:Nat)(S:TS)(kind:Int)(m place:Nat)(me:Int)(rs:List Reg)(A:Option Addr)(c:Nat)(w:World)(h:Plays B w p S)(h1:1<=m)(h2:m<=64)(h3:place<m)(hlen:rs.length=eachK kind*(2 ^ levels m-1))(hc1:rs.length<=c)(hc2:c<=9223372036854775807)
  (hreg:rs≠[]->∃ b,A=some ⟨b,0,none⟩/\RegsAt [2,3,4] w p b rs)(hall:∀ r∈rs,r.ok/\me<r.n/\r.told me)(hm0:0<=me)(hD:S.left<D) :
  Calls Tryz.prog 91 #[.pointer (some ⟨p,0,none⟩),.slice A rs.length c,V Z kind,V Z m,V Z place,V Z me] w (Post encU B p w ((forP (fun x _=>nodeE (eachK kind) D rs me x) (pathL m place) ()).run S)):=by
 unfold eachK at *
 by_cases hk:kind=7
 · rw [if_pos hk] at *
   exact climb_p7 B p D S kind m place me rs A c w h hk h1 h2 h3 hlen hc1 hc2 hreg hall hm0 hD
 · rw [if_neg hk] at *
   exact climb_o3 B p D S kind m place me rs rs 0 rfl A c w h hk h1 h2 h3 hlen hc1 hc2 hreg hall hm0 hD
theorem down_p (B p:Nat)(S:TS)(kind:Int)(m place:Nat)(me:Int)(rs:List Reg)(A:Option Addr)(c:Nat)(w:World)(h:Plays B w p S)(h1:1<=m)(h2:m<=64)(h3:place<m)(hlen:rs.length=eachK kind*(2 ^ levels m-1))(hc1:rs.length<=c)(hc2:c<=9223372036854775807)
  (hreg:rs≠[]->∃ b,A=some ⟨b,0,none⟩/\RegsAt [2,3,4] w p b rs)(hall:∀ r∈rs,r.ok/\me<r.n/\r.told me)(hm0:0<=me) :
  Calls Tryz.prog 94 #[.pointer (some ⟨p,0,none⟩),.slice A rs.length c,V Z kind,V Z m,V Z place,V Z me] w (Post encU B p w ((forP (fun x _=>nodeL (eachK kind) rs me x) (pathL m place).reverse ()).run S)):=by
 unfold eachK at *
 by_cases hk:kind=7
 · rw [if_pos hk] at *
   exact down_p7 B p S kind m place me rs A c w h hk h1 h2 h3 hlen hc1 hc2 hreg hall hm0
 · rw [if_neg hk] at *
   exact down_o3 B p S kind m place me rs rs 0 rfl A c w h hk h1 h2 h3 hlen hc1 hc2 hreg hall hm0
set_option maxRecDepth 100000 in
set_option maxHeartbeats 1000000 in
theorem treeacq_p (B p N D:Nat)(S:TS)(alg mode base loc room:Int)(m:Nat)(rs:List Reg)(w:World)(h:Plays B w p S)(h1:1<=N)(h2:N<=64)(hm1:m<N)(hl:layM (treeWants (eachK alg) N) N mode base loc=some rs)
  (hall:∀ r∈rs,r.ok/\(m:Int)<r.n/\r.told m)(hD:S.left<D)(hn0:S.nts.length<=100000) :
  Calls Tryz.prog 195 #[.pointer (some ⟨p,0,none⟩),.agg #[V Z alg,V Z N,V Z mode,V Z base,V Z loc,V Z room],V Z m] w (Post encI B p w ((treeA (eachK alg) D rs N m).run S)):=by
 have hlen:=layM_len hl
 unfold treeWants at hlen;rw [List.length_replicate] at hlen
 generalize hR:Post encI B p w ((treeA (eachK alg) D rs N m).run S)=R
 have hO:Owes R encI B p w ((treeA (eachK alg) D rs N m).run S):=hR▸owes _ _ _ _ _
 clear hR
 obtain⟨b1,hK,hP⟩:=h.entry (.cells #[V Z alg,V Z N,V Z mode,V Z base,V Z loc,V Z room] 23)
 have c_b1:=b1.cells;clear h;unfold treeA at hO
 have hlh:=Hd hl
 have hlenh:=Hd hlen
 have hallh:=Hd hall
 clear hl hlen hall
 go_enter Tryz.func195,Tryz.ntmps195
 go_wp2_with fail
 refine (treelay_p alg mode base loc room m N rs _ h1 h2 hlh.out (by omega) (by omega)).mono ?_
 rintro e w1 ⟨A,c,rfl,hR,q1,q2,hx⟩
 have hreg:rs≠[]->∃ b,A=some ⟨b,0,none⟩/\RegsAt [2,3,4] w1 p b rs:=fun hne=>by
  obtain⟨b,e1,hge,hb,hcells⟩:=hR hne
  exact⟨b,e1,hb,hP.fresh hx hge,hcells⟩
 replace hK:=hK.trans (Keep.of_ext hx hP.lt hP.le);replace b1:=b1.ext hx hP.lt;replace hP:=hP.ext hx;clear hx hR c_b1
 generalize w.heap.size=z at *
 go_wp2_with fail
 refine tstepN (notes_nt 1) hO hK (noteO hP (by unfold maxAns;omega)) (fun _ h=>⟨rfl,h⟩) ?_
 clear hO hK hP;intro u S1 w2 hlf _ hnn hP hk hK hO;replace hD:=Nat.lt_of_le_of_lt hlf hD
 replace hn0:S1.nts.length<=100001:=by omega
 have hreg2:rs≠[]->∃ b,A=some ⟨b,0,none⟩/\RegsAt [2,3,4] w2 p b rs:=fun hne=>by
  obtain⟨b,e1,e2⟩:=hreg hne
  exact⟨b,e1,e2.keep hk⟩
 replace b1:=b1.keep hk;clear hk hlf hreg;have c_b1:=b1.cells;have hOh:=Hd hO;clear hO;go_wp2_with fail
 refine tstepN (notes_forP (fun _ _=>notes_nodeE _ _ _ _ _) _ _) hOh.out hK (climb_p B p D S1 alg N m m rs A c w2 hP h1 h2 hm1 hlenh.out q1 q2 hreg2 hallh.out (by omega) hD) (fun _ h=>⟨rfl,h⟩) ?_
 clear hOh hK hP;intro u S2 w3 _ _ hnn hP hk hK hO
 replace hn0:S2.nts.length<=100001:=by omega
 clear hk hreg2 c_b1;go_wp2_with fail
 refine tstepN (notes_nt 3) hO hK (noteO hP (by unfold maxAns;omega)) (fun _ h=>⟨rfl,h⟩) ?_
 clear hO hK hP;intro u S3 w4 _ _ _ hP _ hK hO
 have hf:=hO.done (v:=(0:Int)) hP hK
 clear hO hP hK;go_wp2_with fail
 first | exact hf | (go_ret;exact hf)
set_option maxRecDepth 100000 in
set_option maxHeartbeats 1000000 in
theorem treerel_p (B p N:Nat)(S:TS)(alg mode base loc room:Int)(m:Nat)(rs:List Reg)(w:World)(h:Plays B w p S)(h1:1<=N)(h2:N<=64)(hm1:m<N)(hl:layM (treeWants (eachK alg) N) N mode base loc=some rs)
  (hall:∀ r∈rs,r.ok/\(m:Int)<r.n/\r.told m)(hn0:S.nts.length<=100000) :
  Calls Tryz.prog 196 #[.pointer (some ⟨p,0,none⟩),.agg #[V Z alg,V Z N,V Z mode,V Z base,V Z loc,V Z room],V Z m] w (Post encU B p w ((treeR (eachK alg) rs N m).run S)):=by
 have hlen:=layM_len hl
 unfold treeWants at hlen;rw [List.length_replicate] at hlen
 generalize hR:Post encU B p w ((treeR (eachK alg) rs N m).run S)=R
 have hO:Owes R encU B p w ((treeR (eachK alg) rs N m).run S):=hR▸owes _ _ _ _ _
 clear hR
 obtain⟨b1,hK,hP⟩:=h.entry (.cells #[V Z alg,V Z N,V Z mode,V Z base,V Z loc,V Z room] 23)
 have c_b1:=b1.cells;clear h;unfold treeR at hO
 have hlh:=Hd hl
 have hlenh:=Hd hlen
 have hallh:=Hd hall
 clear hl hlen hall
 go_enter Tryz.func196,Tryz.ntmps196
 go_wp2_with fail
 refine (treelay_p alg mode base loc room m N rs _ h1 h2 hlh.out (by omega) (by omega)).mono ?_
 rintro e w1 ⟨A,c,rfl,hR,q1,q2,hx⟩
 have hreg:rs≠[]->∃ b,A=some ⟨b,0,none⟩/\RegsAt [2,3,4] w1 p b rs:=fun hne=>by
  obtain⟨b,e1,hge,hb,hcells⟩:=hR hne
  exact⟨b,e1,hb,hP.fresh hx hge,hcells⟩
 replace hK:=hK.trans (Keep.of_ext hx hP.lt hP.le);replace b1:=b1.ext hx hP.lt;replace hP:=hP.ext hx;clear hx hR c_b1
 generalize w.heap.size=z at *
 go_wp2_with fail
 refine tstepN (notes_nt 5) hO hK (noteO hP (by unfold maxAns;omega)) (fun _ h=>⟨rfl,h⟩) ?_
 clear hO hK hP;intro u S1 w2 _ _ _ hP hk hK hO
 have hreg2:rs≠[]->∃ b,A=some ⟨b,0,none⟩/\RegsAt [2,3,4] w2 p b rs:=fun hne=>by
  obtain⟨b,e1,e2⟩:=hreg hne
  exact⟨b,e1,e2.keep hk⟩
 replace b1:=b1.keep hk;clear hk hreg;have c_b1:=b1.cells;have hOh:=Hd hO;clear hO;go_wp2_with fail
 refine tlast hOh.out hK (down_p B p S1 alg N m m rs A c w2 hP h1 h2 hm1 hlenh.out q1 q2 hreg2 hallh.out (by omega)) (fun _ h=>⟨rfl,h⟩) ?_
 clear hOh hK hP;intro u S2 w3 hr hP hk hK hO
 have hf:=hO.done hP hK
 clear hO hP hK hr hk hreg2 c_b1;go_wp2_with fail
 first | exact hf | (refine bodyPost_ret (results_none rfl _ _ _) rfl ?_;exact hf)
end Go.Proofs.YtbaajjkopdjbgaaGreat
namespace Kv
open Go Go.RowKit
def renW:Nat->Nat->List Want
 | 0,_=>[]
 | k+1,N=>renW k N++[⟨-1,(N:Int)⟩,⟨-1,1⟩]
theorem renW_len (N:Nat):∀ k:Nat,(renW k N).length=2*k
 | 0=>rfl
 | k+1=>by
   rw [renW,List.length_append,renW_len N k]
   rfl
def adWants (N:Nat):List Want:=renW (triN N) N++treeWants 3 (triN N)
theorem triN_le {N:Nat}(h1:1<=N)(h2:N<=8):1<=triN N/\triN N<=36:=by
 have a:=triN_mono h1
 have b:=triN_mono h2
 rw [show triN 1=1 from by decide] at a
 rw [show triN 8=36 from by decide] at b
 exact⟨a,b⟩
theorem adWants_len {N:Nat}:(adWants N).length=2*triN N+3*(2 ^ levels (triN N)-1):=by
 rw [adWants,List.length_append,renW_len,treeWants,List.length_replicate]
theorem adTree_le {N:Nat}(h1:1<=N)(h2:N<=8):3*(2 ^ levels (triN N:Nat)-1)<=189:=by
 obtain⟨_,q2⟩:=triN_le h1 h2
 obtain⟨p1,p2⟩:=pow_le (lev_le (m:=triN N) (by omega))
 omega
def adClimb (D:Nat) (T:List Reg) (M:Nat) (me name:Int):Prog Unit:=if 0<=name/\name<M then forP (fun x _=>nodeE 3 D T me x) (pathL M name.toNat) () else .ret ()
def adDown (T:List Reg) (M:Nat) (me name:Int):Prog Unit:=if 0<=name/\name<M then forP (fun x _=>nodeL 3 T me x) (pathL M name.toNat).reverse () else .ret ()
def adA (D:Nat) (rs:List Reg) (own:Int) (N:Nat) (me:Int):Prog Int :=
 (nt 1).bind fun _=>(getM (rs.take (2*triN N)) N own me).bind fun name=>(adClimb D (rs.drop (2*triN N)) (triN N) me name).bind fun _=>(nt 3).bind fun _=>.ret 0
def adR (rs:List Reg) (own:Int) (N:Nat) (me:Int):Prog Unit :=
 (nt 5).bind fun _=>(gt own).bind fun had=>adDown (rs.drop (2*triN N)) (triN N) me (wrap64 (had-1))
theorem notes_passM (x y:Reg)(me:Int):(passM x y me).Notes 0:=by
 unfold passM
 refine (notes_regW _ _ _).bind0 fun _=>(notes_regR _ _).bind0 fun v=>?_
 split
 · first | exact .ret _ _ | skip
 · refine (notes_regW _ _ _).bind0 fun _=>(notes_regR _ _).bind0 fun z=>?_
   split <;> exact .ret _ _
theorem notes_nameM (l:List Reg)(N:Nat)(me:Int):∀ f x y:Nat,(nameM l N me f x y).Notes 0
 | 0,_,_=>.ret _ _
 | f+1,x,y=>by
   rw [show nameM l N me (f+1) x y=((passM (regAt l (2*(triName x y:Int))) (regAt l (2*(triName x y:Int)+1)) me).bind fun told =>
    if told=0 then .ret (triName x y:Int) else if told=1 then nameM l N me f (x+1) y else nameM l N me f x (y+1)) from rfl]
   refine (notes_passM _ _ _).bind0 fun told=>?_
   split
   · exact .ret _ _
   · split
     · exact notes_nameM l N me f (x+1) y
     · exact notes_nameM l N me f x (y+1)
theorem notes_getM (l:List Reg)(N:Nat)(own me:Int):(getM l N own me).Notes 0:=by
 unfold getM
 refine (notes_gt _).bind0 fun had=>?_
 split
 · exact .ret _ _
 · exact (notes_nameM _ _ _ _ _ _).bind0 fun name=>(notes_st _ _).bind0 fun _=>.ret _ _
theorem notes_adClimb (D:Nat)(T:List Reg)(M:Nat)(me name:Int):(adClimb D T M me name).Notes 0:=by
 unfold adClimb
 split
 · exact notes_forP (fun _ _=>notes_nodeE _ _ _ _ _) _ _
 · exact .ret _ _
end Kv
namespace Go.Proofs.YtbaajjkopdjbgaaGreat
open Go.RowKit Kv
theorem each6:eachK 6=3:=by unfold eachK;rw [if_neg (by decide)]
set_option maxRecDepth 100000 in
set_option maxHeartbeats 1000000 in
theorem renwants_p (N:Nat)(w:World)(h1:1<=N)(h2:N<=8) :
  Calls Tryz.prog 165 #[V Z N] w fun e w'=>∃ v,e=.returned v/\w'.ownsRow w.heap.size 179 2 v (2*triN N) ((renW (triN N) N).flatMap wantVals)/\Ext w w':=by
 have e1:min (max (N:Int) 1) 8=N:=by omega
 have hS:=fun w=>gsize_p N (by omega) w
 have hW:=fun w=>swants_p N w
 rw [show nM (N:Int)=N from nM_id (by omega) (by omega)] at hW
 obtain⟨q1,q2⟩:=triN_le h1 h2
 generalize triN N=M at *
 go_enter Tryz.func165,Tryz.ntmps165
 go_wp2_with fail
 refine (hS _).mono ?_
 rintro e w' ⟨rfl,rfl⟩;go_wp2_with fail
 go_loopw [3,9] (fun v i wr=>∃ j:Nat,i=V Z j/\j<=M/\wr.ownsRow w.heap.size 179 2 v (2*j) ((renW j N).flatMap wantVals)/\Ext w wr) (fun _ i _=>M-(intOf i).toNat)
 case atStart=>exact⟨0,rfl,by omega,World.ownsRow_nil _ _ _ _,Ext.refl _⟩
 case round =>
  obtain⟨j,rfl,hj,hown,hX⟩:=hrel
  by_cases hl:j<M
  · go_wp2_with fail
    refine (hW _).mono ?_
    rintro e w3 ⟨v2,rfl,hr2,hx3⟩
    replace hown:=row_ext hown hx3;replace hX:=hX.trans hx3
    obtain⟨A,c,rfl,r1,r2,hV⟩:=hr2
    obtain⟨b,rfl,hb,hc⟩:=hV (by simp [wantVals])
    clear hV hx3
    go_wp2_with (at_builtin;refine append_recs info_want Tryz.underlying102 rfl (by decide) (by decide) rfl _ _ rfl _ (2*j) _ (([⟨-1,(N:Int)⟩,⟨-1,1⟩]:List Want).flatMap wantVals) ⟨b,0,none⟩ 2 c hX hown rfl rfl rfl (fun i u hu=>by rw [Addr.add_lit,Nat.zero_add];exact hc i u hu) (fun u hu=>by simp [wantVals] at hu;rcases hu with rfl | rfl | rfl | rfl <;> rfl) (by omega) (by omega) ?_)
    intro v' w' ho hx'
    have hoh:Hid (w'.ownsRow w.heap.size 179 2 v' (2*(j+1)) ((renW (j+1) N).flatMap wantVals)):=Hd (by
     rw [renW,List.flatMap_append];exact ho)
    clear hown ho hc;go_wp2_with fail
    refine⟨⟨j+1,by go_num,by omega,hoh.out,hx'⟩,?_⟩
    simp [intOf];omega
  · obtain rfl:j=M:=by omega
    have hownh:=Hd hown
    clear hown;go_wp2_with fail
    go_ret
    exact⟨_,rfl,hownh.out,hX⟩
theorem tree_pos {m:Nat}(h1:2<=m)(h2:m<=36):3*(2 ^ levels (m:Nat)-1)≠0:=by
 have:∀ m:Nat,m<37->2<=m->3*(2 ^ levels (m:Nat)-1)≠0:=by decide +kernel
 exact this m (by omega) h1
set_option maxRecDepth 100000 in
theorem twants1_p (w:World):Calls Tryz.prog 175 #[V Z 6,V Z 1] w fun e w'=>e=.returned (.slice none 0 0)/\Ext w w':=by
 have hlv:=fun w=>levels_p (1:Nat) (by omega) w
 rw [show levels ((1:Nat):Int)=0 from by decide] at hlv
 have hsh:Op.shift .shl .i64 1 .i64 0=pure (V Z 1):=by
  rw [Go.shift_shl_i64 (x:=1) (y:=0) (yk:=.i64) (by omega) (by omega)]
  rfl
 go_enter Tryz.func175,Tryz.ntmps175
 go_wp2_with fail
 refine (hlv _).mono ?_
 rintro e w' ⟨rfl,rfl⟩;clear hlv;go_wp2_with fail
 go_loopw [5,16] (fun v i wr=>i=V Z 0/\v=.slice none 0 0/\Ext w wr) (fun _ _ _=>0)
 case atStart=>exact⟨rfl,rfl,Ext.refl _⟩
 case round =>
  obtain⟨rfl,rfl,hX⟩:=hrel
  go_wp2_with fail
  go_ret
  exact⟨rfl,hX⟩
set_option maxRecDepth 100000 in
set_option maxHeartbeats 1000000 in
theorem adwants_p (N:Nat)(w:World)(h1:1<=N)(h2:N<=8) :
  Calls Tryz.prog 98 #[V Z N] w fun e w'=>∃ v,e=.returned v/\WantsAt w' v (adWants N)/\Ext w w':=by
 have e1:min (max (N:Int) 1) 8=N:=by omega
 have hS:=fun w=>gsize_p N (by omega) w
 obtain⟨q1,q2⟩:=triN_le h1 h2
 have ht:=adTree_le h1 h2
 have hW:=fun w=>twants_p 6 (triN N) w q1 (by omega)
 rw [each6] at hW
 have hR:=fun w=>renwants_p N w h1 h2
 have hlen:=adWants_len (N:=N)
 have had:adWants N=renW (triN N) N++List.replicate (3*(2 ^ levels (triN N:Nat)-1)) (⟨-1,1⟩:Want):=rfl
 have hLh:=Hd (show triN N≠1->3*(2 ^ levels (triN N:Nat)-1)≠0 from fun h=>tree_pos (by omega) q2)
 have hL1:=Hd (show triN N=1->3*(2 ^ levels (triN N:Nat)-1)=0 from fun h=>by rw [h];decide)
 generalize 3*(2 ^ levels (triN N:Nat)-1)=L at *
 generalize hl1:renW (triN N) N=l1 at *
 generalize triN N=M at *
 have hlenh:=Hd hlen
 have hadh:=Hd had
 clear hlen had
 go_enter Tryz.func98,Tryz.ntmps98
 go_wp2_with fail
 refine (hR _).mono ?_
 rintro e w2 ⟨v,rfl,hown,hX⟩
 go_wp2_with fail
 refine (hS _).mono ?_
 rintro e w' ⟨rfl,rfl⟩;go_wp2_with fail
 by_cases hM1:M=1
 · subst hM1
   obtain rfl:L=0:=hL1.out rfl
   clear hW
   refine (twants1_p _).mono ?_
   rintro e w3 ⟨rfl,hx3⟩
   replace hown:=row_ext hown hx3;replace hX:=hX.trans hx3;clear hx3
   go_wp2_with (at_builtin;refine append_none info_want Tryz.underlying102 rfl _ _ rfl w.heap.size _ (2*1) _ hown rfl rfl ?_)
   have hf:Hid (WantsAt w3 v (adWants N)):=Hd (by
    have:=Recs.of_row hown
    unfold WantsAt
    rw [hlenh.out,hadh.out]
    simpa using this)
   clear hown;go_wp2_with fail
   go_ret
   exact⟨_,rfl,hf.out,hX⟩
 · refine (hW _).mono ?_
   rintro e w3 ⟨v2,rfl,hr2,hx3⟩
   replace hown:=row_ext hown hx3;replace hX:=hX.trans hx3;clear hx3
   obtain⟨A,c,rfl,r1,r2,hV⟩:=hr2
   rw [List.length_replicate] at *
   have hfl:((List.replicate L (⟨-1,1⟩:Want)).flatMap wantVals).length=L*2:=by
    rw [List.length_flatMap]
    simp [wantVals]
   obtain⟨b,rfl,hb,hc⟩:=hV (by
    have hL0:=hLh.out hM1
    cases L with
    | zero=>exact absurd rfl hL0
    | succ L=>simp [wantVals,List.replicate])
   clear hV
   go_wp2_with (at_builtin;refine append_recs info_want Tryz.underlying102 rfl (by decide) (by decide) rfl _ _ rfl _ (2*M) _ ((List.replicate L (⟨-1,1⟩:Want)).flatMap wantVals) ⟨b,0,none⟩ L c hX hown rfl rfl hfl (fun i u hu=>by rw [Addr.add_lit,Nat.zero_add];exact hc i u hu) (fun u hu=>by
    obtain⟨q,_,hq⟩:=List.mem_flatMap.1 hu
    simp [wantVals] at hq;rcases hq with rfl | rfl <;> rfl) (by omega) (by omega) ?_)
   intro v' w' ho hx'
   have hf:Hid (WantsAt w' v' (adWants N)):=Hd (by
    have:=Recs.of_row ho
    unfold WantsAt
    rw [hlenh.out,hadh.out,List.flatMap_append]
    exact this)
   clear hown ho hc;go_wp2_with fail
   go_ret
   exact⟨_,rfl,hf.out,hx'⟩
end Go.Proofs.YtbaajjkopdjbgaaGreat
namespace Kv
inductive Prog.Sets {α:Type} (lo hi:Int):Prog α->Prop
 | ret (a:α):Sets lo hi (.ret a)
 | read (c:Int) {k:Int->Prog α}:(∀ x,Sets lo hi (k x))->Sets lo hi (.read c k)
 | write (c v:Int) {k:Unit->Prog α}:Sets lo hi (k ())->Sets lo hi (.write c v k)
 | get (i:Int) {k:Int->Prog α}:(∀ x,Sets lo hi (k x))->Sets lo hi (.get i k)
 | set (i v:Int) {k:Unit->Prog α}:lo<=i->i<hi->Sets lo hi (k ())->Sets lo hi (.set i v k)
 | note (m:Int) {k:Unit->Prog α}:Sets lo hi (k ())->Sets lo hi (.note m k)
theorem Prog.Sets.bind {α β:Type}{lo hi:Int}{p:Prog α}{f:α->Prog β}(h:p.Sets lo hi)(hf:∀ a,(f a).Sets lo hi):(p.bind f).Sets lo hi:=by
 induction h with
 | ret a=>exact hf a
 | read c _ ih=>exact .read c fun x=>ih x
 | write c v _ ih=>exact .write c v ih
 | get c _ ih=>exact .get c fun x=>ih x
 | set c v h1 h2 _ ih=>exact .set c v h1 h2 ih
 | note m _ ih=>exact .note m ih
theorem Prog.Sets.mono {α:Type}{lo hi lo' hi':Int}{p:Prog α}(h:p.Sets lo hi)(h1:lo'<=lo)(h2:hi<=hi'):p.Sets lo' hi':=by
 induction h with
 | ret a=>exact .ret a
 | read c _ ih=>exact .read c fun x=>ih x
 | write c v _ ih=>exact .write c v ih
 | get c _ ih=>exact .get c fun x=>ih x
 | set c v h3 h4 _ ih=>exact .set c v (by omega) (by omega) ih
 | note m _ ih=>exact .note m ih
theorem Prog.Sets.got {α:Type}{lo hi i:Int}{p:Prog α}(h:p.Sets lo hi)(hi2:i<lo∨hi<=i):∀ S:TS,(p.run S).2.got i=S.got i:=by
 induction h with
 | ret a=>intro S;rfl
 | read c _ ih =>
   intro S
   simp only [Prog.run]
   cases S.next with
   | none=>rfl
   | some v=>exact (ih v _).trans rfl
 | write c v _ ih =>
   intro S
   simp only [Prog.run]
   cases S.next with
   | none=>rfl
   | some _=>exact (ih _).trans rfl
 | get c _ ih=>intro S;exact ih _ _
 | set j v h1 h2 _ ih =>
   intro S
   refine (ih (S.upd j v)).trans ?_
   unfold TS.got TS.upd
   split
   · rfl
   · split
     · simp only
       rw [if_neg (by omega)]
     · rfl
 | note m _ ih=>intro S;exact (ih _).trans rfl
theorem sets_rd (lo hi c:Int):(rd c).Sets lo hi:=.read c fun x=>.ret x
theorem sets_wr (lo hi c v:Int):(wr c v).Sets lo hi:=.write c v (.ret ())
theorem sets_gt (lo hi c:Int):(gt c).Sets lo hi:=.get c fun x=>.ret x
theorem sets_st {lo hi c:Int}(v:Int)(h1:lo<=c)(h2:c<hi):(st c v).Sets lo hi:=.set c v h1 h2 (.ret ())
theorem sets_forP {σ:Type}{lo hi:Int}{T:Int->σ->Prog σ}:∀ (l:List Int),(∀ a∈l,∀ x,(T a x).Sets lo hi)->∀ x:σ,(forP T l x).Sets lo hi
 | [],_,x=>.ret x
 | a :: l,h,x=>(h a (List.mem_cons_self ..) x).bind fun y=>sets_forP l (fun b hb=>h b (List.mem_cons_of_mem _ hb)) y
theorem ranks_mem {but:Int}:∀ (n:Nat) (i:Int) {a:Int},a∈ranksFrom but n i->i<=a/\a<i+n/\a≠but
 | 0,i,a,h=>by cases h
 | n+1,i,a,h=>by
   unfold ranksFrom at h
   split at h
   · have:=ranks_mem n (i+1) h
     omega
   · rcases List.mem_cons.1 h with rfl | h
     · omega
     · have:=ranks_mem n (i+1) h
       omega
theorem otherM_bd (v:Int):0<=otherM v/\otherM v<=1:=by unfold otherM;split <;> omega
theorem bitM_bd (v:Int):0<=bitM v/\bitM v<=1:=by unfold bitM;split <;> omega
theorem sets_trompW (b l v:Int):(trompW b l v).Sets l (l+4):=by
 refine (sets_gt _ _ _).bind fun x=>?_
 split
 · exact .ret _
 · refine (sets_wr _ _ _ _).bind fun _=>(sets_st _ (by omega) (by omega)).bind fun _=>(sets_gt _ _ _).bind fun _=>(sets_rd _ _ _).bind fun _=>?_
   split
   · exact (sets_wr _ _ _ _).bind fun _=>sets_st _ (by omega) (by omega)
   · exact .ret _
theorem sets_trompR3 (b l x:Int):(trompR3 b l x).Sets l (l+4):=by
 refine (sets_rd _ _ _).bind fun _=>(sets_st _ (by omega) (by omega)).bind fun _=>(sets_rd _ _ _).bind fun _=>(sets_gt _ _ _).bind fun _=>?_
 split
 · exact sets_gt _ _ _
 · exact (sets_rd _ _ _).bind fun _=>(sets_st _ (by omega) (by omega)).bind fun _=>.ret _
theorem sets_trompR2 (b l x:Int):(trompR2 b l x).Sets l (l+4):=by
 refine (sets_rd _ _ _).bind fun _=>(sets_gt _ _ _).bind fun _=>?_
 split
 · exact sets_trompR3 _ _ _
 · exact (sets_gt _ _ _).bind fun _=>(sets_wr _ _ _ _).bind fun _=>(sets_st _ (by omega) (by omega)).bind fun _=>sets_trompR3 _ _ _
theorem sets_trompR (b l:Int):(trompR b l).Sets l (l+4):=by
 refine (sets_rd _ _ _).bind fun _=>(sets_gt _ _ _).bind fun _=>?_
 split
 · exact sets_gt _ _ _
 · exact (sets_rd _ _ _).bind fun _=>sets_trompR2 _ _ _
theorem sets_slotsW (b l v:Int):(slotsW b l v).Sets l (l+18):=by
 refine ((sets_trompR _ _).mono (by omega) (by omega)).bind fun y=>(sets_gt _ _ _).bind fun z=>(sets_wr _ _ _ _).bind fun _=>?_
 have:=otherM_bd y
 refine (sets_st _ (by omega) (by omega)).bind fun _=>((sets_trompW _ _ _).mono (by omega) (by omega)).bind fun _=>(sets_trompW _ _ _).mono (by omega) (by omega)
theorem sets_slotsR (b l:Int):(slotsR b l).Sets l (l+18):=by
 refine ((sets_trompR _ _).mono (by omega) (by omega)).bind fun y=>((sets_trompW _ _ _).mono (by omega) (by omega)).bind fun _=>?_
 have:=bitM_bd y
 exact ((sets_trompR _ _).mono (by omega) (by omega)).bind fun _=>sets_rd _ _ _
theorem tells_bd {k a b:Int}(ha:0<=a)(ha2:a<k)(hb:0<=b)(hb2:b<k)(hab:a≠b):0<=tellsM k a b/\tellsM k a b<k*k:=by
 unfold tellsM
 have h1:a*(k-1)<=(k-1)*(k-1):=Int.mul_le_mul_of_nonneg_right (by omega) (by omega)
 have h0:0<=a*(k-1):=Int.mul_nonneg ha (by omega)
 have h2:(k-1)*(k-1)=k*k-2*k+1:=by
  rw [Int.sub_mul,Int.mul_sub,Int.mul_one,Int.one_mul];omega
 split
 · omega
 · rename_i h
   by_cases e:a=k-1
   · omega
   · have h3:a*(k-1)<=(k-2)*(k-1):=Int.mul_le_mul_of_nonneg_right (by omega) (by omega)
     have h4:(k-2)*(k-1)=k*k-3*k+2:=by
      rw [Int.sub_mul,Int.mul_sub,Int.mul_one];omega
     omega
theorem rankM_bd {n w me:Int}(hw:0<=w)(hw2:w<n)(hm:0<=me)(hm2:me<n)(h:me≠w):0<=rankM w me/\rankM w me<n-1:=by
 unfold rankM
 split <;> omega
theorem sets_tableR {b l n w top me:Int}(hw:0<=w)(hw2:w<n)(hm:0<=me)(hm2:me<n):(tableR b l n w top me).Sets l (l+(2+18*((n-1)*(n-1)))):=by
 unfold tableR
 split
 · exact sets_gt _ _ _
 · rename_i h
   obtain⟨r1,r2⟩:=rankM_bd hw hw2 hm hm2 h
   have hk:n-1<=(n-1)*(n-1):=by
    have:=Int.mul_le_mul_of_nonneg_right (show 1<=n-1 by omega) (show 0<=n-1 by omega)
    omega
   refine ((sets_slotsR _ _).mono (by omega) (by omega)).bind fun x=>(sets_forP _ (fun i hi y=>?_) _).bind fun x=>(sets_forP _ (fun i hi y=>?_) _).bind fun _=>.ret _
   · obtain⟨i1,i2,i3⟩:=ranks_mem _ _ hi
     obtain⟨t1,t2⟩:=tells_bd (k:=n-1) (a:=i) (b:=rankM w me) i1 (by omega) r1 r2 i3
     exact ((sets_slotsR _ _).mono (by omega) (by omega)).bind fun _=>.ret _
   · obtain⟨i1,i2,i3⟩:=ranks_mem _ _ hi
     obtain⟨t1,t2⟩:=tells_bd (k:=n-1) (a:=rankM w me) (b:=i) r1 r2 i1 (by omega) (fun e=>i3 e.symm)
     exact (sets_slotsW _ _ _).mono (by omega) (by omega)
end Kv
namespace Go.Proofs.YtbaajjkopdjbgaaGreat
open Go.RowKit Kv
def EndAtE (B:Nat) (w w':World) (bg bo:Nat) (v:Value) (d:Bool) (S:TS):Prop :=
 w'.heap[bg]?=some (.cells #[v] 26 (0,0))/\(∃ vC vN vs,w'.heap[bo]?=some (.cells #[.bool d,vC,vN,vs] 30 (0,0))/\Outs w' (.agg #[.bool d,vC,vN,vs]) d S/\(∀ b,vs.ownBlock=some b->B<=b))/\Below B w w'
set_option maxRecDepth 100000 in
set_option maxHeartbeats 1000000 in
theorem end_okE (B p:Nat)(S:TS)(bm bg bo:Nat)(v:Value)(w:World)(h:Plays B w p S)(hm:HeldP w p bm (.cells #[.pointer (some ⟨p,0,none⟩)] 33 (0,0)))(hg:HeldP w p bg (.cells #[v] 26 (0,0)))
  (ho:HeldP w p bo (.cells #[.bool false,.slice none 0 0,.slice none 0 0,.slice none 0 0] 30 (0,0)))(hB2:B<=bo) :
  CallsD Tryz.prog 86 #[.pointer (some ⟨bm,0,none⟩),.pointer (some ⟨bg,0,none⟩),.pointer (some ⟨bo,0,none⟩)] .returning w fun e u' w'=>e=.returned (.tuple #[])/\u'=.returning/\EndAtE B w w' bg bo v true S:=by
 obtain⟨h1,vA,vL,vC,vN,L,h⟩:=h
 have hc:=cell_of_heap h.heap
 have hfz:=frozen_of_heap h.heap
 have cm:=hm.cells
 refine callsD_of_wpS Tryz.func86 rfl fun c₀ cs hu=>?_
 simp only [Tryz.ntmps86,List.size_toArray,List.length_cons,List.length_nil,Nat.reduceAdd,Nat.reduceSub,Array.replicate_succ,Array.replicate_zero,List.push_toArray,List.append_toArray,List.nil_append,List.cons_append]
 apply wpS_seq
 refine wpS_of_wp ?_
 go_wp2_with fail
 simp only [Exit.thenS]
 apply wpS_seq
 refine wpS_of_wp ?_
 go_wp2_with fail
 simp only [Exit.thenS]
 obtain⟨HM,HK⟩:=h.state 0
 have hmh:=Hd (hm.keep HK)
 have hgh:=Hd (hg.keep HK).1
 have hoh:=Hd (ho.keep HK)
 have hq:=cell_of_heap HM.heap
 have cm2:=hmh.out.cells
 have HMh:=Hd HM
 have hbel:=Hd HK.below
 clear HM HK hc hfz cm hm hg ho h
 generalize w.setCell ⟨p,0,none⟩ (V Z 0)=W at *
 apply wpS_seq
 apply wpS_seq
 apply wpS_region
 simp [wpOpsS,go_sem,recoverD,hu,Exit.thenS]
 refine wpS_of_wp ?_
 go_wp2_with fail
 simp only [Exit.thenS]
 refine wpS_of_wp ?_
 go_wp2_with fail
 have hI:Ints W vL L:=IntRow.ints HMh.out.rowL
 obtain⟨Al,cl,rfl,q1,q2⟩:=hI.slice
 have hIh:=Hd hI
 obtain⟨Ac,cc,rfl,-,-,-⟩:=vals_row HMh.out.rowC
 obtain⟨An,cn,rfl,-,-,-⟩:=vals_row HMh.out.rowN
 have hlen:=HMh.out.locN;have hplt:=HMh.out.lt;have hmlt:=hmh.out.lt;clear hI
 have hpo:p≠bo:=fun e=>hoh.out.2 (.inl e.symm)
 have hmo:bm≠bo:=fun e=>by
  have h1:=hmh.out.1;rw [e,hoh.out.1] at h1
  injection h1 with h1
  injection h1 with _ h2
  cases h2
 have hlo:(Value.slice Al L.length cl).ownBlock≠some bo:=row_not HMh.out.rowL hoh.out.1 (by decide)
 have hS:∀ w',Near W bo 4 30 w'->((∀ i,w'.cell? ⟨p,i,none⟩=(#[V Z 0,vA,.slice Al L.length cl,.slice Ac S.acc.length cc,.slice An S.nts.length cn]:Array Value)[i]?)/\(∀ i,w'.cell? ⟨bm,i,none⟩=(#[.pointer (some ⟨p,0,none⟩)]:Array Value)[i]?)/\(∀ i,w'.cell? ⟨bo,i,none⟩=(#[cellD w' bo 0,cellD w' bo 1,cellD w' bo 2,cellD w' bo 3]:Array Value)[i]?)/\(∀ i,w'.frozen? ⟨bo,i,none⟩=false)/\Near W bo 4 30 w'):=fun w' hx =>
  ⟨fun i=>(hx.cell hplt hpo).trans (hq i),fun i=>(hx.cell hmlt hmo).trans (cm2 i),hx.four,hx.frozen,hx⟩
 have hN:Near W bo 4 30 W:=Near.new hoh.out.1 rfl
 go_region_held2 (fun w'=>(∀ i,w'.cell? ⟨p,i,none⟩=(#[V Z 0,vA,.slice Al L.length cl,.slice Ac S.acc.length cc,.slice An S.nts.length cn]:Array Value)[i]?)/\(∀ i,w'.cell? ⟨bm,i,none⟩=(#[.pointer (some ⟨p,0,none⟩)]:Array Value)[i]?)/\(∀ i,w'.cell? ⟨bo,i,none⟩=(#[cellD w' bo 0,cellD w' bo 1,cellD w' bo 2,cellD w' bo 3]:Array Value)[i]?)/\(∀ i,w'.frozen? ⟨bo,i,none⟩=false)/\Near W bo 4 30 w') (first | exact hS _ hN.drew | (refine hS _ ?_;(repeat refine Near.set ?_ _ _);exact hN.drew.ext h2))
  (first
    | (go_at_call 87
       refine (tshort_p Al cl L _ (hIh.out.ext (Ext.refl W).drew) q1 q2 (by omega)).mono ?_
       rintro e w' ⟨v',rfl,h1,h2⟩
       obtain⟨As,cs,rfl,hs1,hs2⟩:=h1.ints.slice))
 have f3:∀ b,(Value.slice As (shortL L).length cs).ownBlock=some b->B<=b:=fun b hb=>by
  have q1:=(h1.lt b hb).1
  have q2:=HMh.out.ge;have q3:=HMh.out.lt
  rw [World.size_drew] at q1
  omega
 obtain⟨f1,f2⟩:=end_out (d:=true) HMh.out hoh.out.1 ((Ext.refl W).drew.trans h2) h1
 have fg:bg≠bo:=fun e=>by
  have h1:=hgh.out;rw [e,hoh.out.1] at h1
  injection h1 with h1
  injection h1 with _ h2
  cases h2
 refine⟨rfl,FrameMode.returning,(by cases c₀;simp only at hu;subst hu;rfl),.tuple #[],(by simp [results,Tryz.results86,go_sem]),rfl,rfl,?_,⟨_,_,_,f1,f2,f3⟩,?_⟩
 · rw [heap_setCell_ne _ _ fg,heap_setCell_ne _ _ fg,heap_setCell_ne _ _ fg,heap_setCell_ne _ _ fg]
   exact (Below.block ((Ext.refl W).drew.trans h2) bg (Array.getElem?_eq_some_iff.1 hgh.out).1).trans hgh.out
 · exact ((((hN.drew.ext h2).set _ _).set _ _).set _ _ |>.set _ _).below hbel.out hB2 (by have:=HMh.out.ge;omega)
set_option maxRecDepth 100000 in
set_option maxHeartbeats 1000000 in
theorem end_stopE (B p:Nat)(S:TS)(bm bg bo:Nat)(v:Value)(older:List PanicEntry)(w:World)(h:Stops B w p S)(hm:HeldP w p bm (.cells #[.pointer (some ⟨p,0,none⟩)] 33 (0,0)))(hg:HeldP w p bg (.cells #[v] 26 (0,0)))
  (ho:HeldP w p bo (.cells #[.bool false,.slice none 0 0,.slice none 0 0,.slice none 0 0] 30 (0,0)))(hB1:B<=bg)(hB2:B<=bo) :
  CallsD Tryz.prog 86 #[.pointer (some ⟨bm,0,none⟩),.pointer (some ⟨bg,0,none⟩),.pointer (some ⟨bo,0,none⟩)] (.panicking ({ v:=.iface 92 (.agg #[.pointer (some ⟨p,0,none⟩)]),recovered:=false } :: older)) w fun e u' w' =>
   e=.returned (.tuple #[])/\u'=.panicking ({ v:=.iface 92 (.agg #[.pointer (some ⟨p,0,none⟩)]),recovered:=true } :: older)/\EndAtE B w w' bg bo (V Z 0) false S:=by
 obtain⟨vA,vL,vC,vN,L,h⟩:=h
 have hc:=cell_of_heap h.heap
 have hfz:=frozen_of_heap h.heap
 have cm:=hm.cells
 refine callsD_of_wpS Tryz.func86 rfl fun c₀ cs hu=>?_
 simp only [Tryz.ntmps86,List.size_toArray,List.length_cons,List.length_nil,Nat.reduceAdd,Nat.reduceSub,Array.replicate_succ,Array.replicate_zero,List.push_toArray,List.append_toArray,List.nil_append,List.cons_append]
 apply wpS_seq
 refine wpS_of_wp ?_
 go_wp2_with fail
 simp only [Exit.thenS]
 apply wpS_seq
 refine wpS_of_wp ?_
 go_wp2_with fail
 simp only [Exit.thenS]
 obtain⟨HM,HK⟩:=h.state 0
 have hm2:=hm.keep HK
 have hg2:=hg.keep HK
 have ho2:=ho.keep HK
 clear hc hfz cm hm hg ho h
 generalize w.setCell ⟨p,0,none⟩ (V Z 0)=W0 at *
 have hX:=(Ext.refl W0).alloc (.cells #[.agg #[.pointer (some ⟨p,0,none⟩)]] 92)
 have hq0:=cell_of_heap HM.heap
 have cm0:=hm2.cells
 have hqa:Hid (∀ O,∀ i,(W0.alloc O).cell? ⟨bm,i,none⟩=(#[.pointer (some ⟨p,0,none⟩)]:Array Value)[i]?):=Hd fun O i=>(((Ext.refl W0).alloc O).cell (p:=⟨bm,i,none⟩) hm2.lt).trans (hm2.cells i)
 have cma:=hqa.out
 have fga:=frozen_of_heap hg2.1
 have cg0:=hg2.cells
 have W0lt:=hg2.lt
 have fgb:Hid (∀ O i,(W0.alloc O).frozen? ⟨bg,i,none⟩=false):=Hd fun O i=>frozen_of_heap ((Below.block ((Ext.refl W0).alloc O) bg hg2.lt).trans hg2.1) i
 have cgb:Hid (∀ O i,(W0.alloc O).cell? ⟨bg,i,none⟩=(#[v]:Array Value)[i]?):=Hd fun O i=>(((Ext.refl W0).alloc O).cell (p:=⟨bg,i,none⟩) hg2.lt).trans (hg2.cells i)
 have fgb':=fgb.out;have cgb':=cgb.out
 have HMh0:=Hd HM
 have HKh:=Hd HK
 have hmh0:=Hd hm2
 have hgh0:=Hd hg2
 have hoh0:=Hd ho2
 clear HM HK hm2 hg2 ho2
 apply wpS_seq
 apply wpS_seq
 apply wpS_region
 simp [wpOpsS,go_sem,recoverD,hu,Exit.thenS]
 refine wpS_of_wp ?_
 go_wp2_with fail
 simp only [Exit.thenS]
 refine wpS_of_wp ?_
 go_wp2_with fail
 have hgp:=hgh0.out.2
 have hmg:bm≠bg:=fun e=>by
  have h1:=hmh0.out.1;rw [e,hgh0.out.1] at h1
  injection h1 with h1
  injection h1 with _ h2
  cases h2
 have hog:bo≠bg:=fun e=>by
  have h1:=hoh0.out.1;rw [e,hgh0.out.1] at h1
  injection h1 with h1
  injection h1 with _ h2
  cases h2
 have HM1:=HMh0.out.setO hgp hB1 0 (V Z 0)
 have hm1:=hmh0.out.setO hmg hgp 0 (V Z 0)
 have ho1:=hoh0.out.setO hog hgp 0 (V Z 0)
 have hg1:=heap_setCell (i:=0) hgh0.out.1 (V Z 0)
 have hb1:Below B w (W0.setCell ⟨bg,0,none⟩ (V Z 0)):=Below.setCell HKh.out.below (by show B<=bg;exact hB1) _
 have HMh:=Hd (HM1.ext ((Ext.refl _).alloc (.cells #[.pointer (some ⟨p,0,none⟩)] 92)))
 have hmh:=Hd (hm1.alloc (.cells #[.pointer (some ⟨p,0,none⟩)] 92) HM1.lt)
 have hoh:=Hd (ho1.alloc (.cells #[.pointer (some ⟨p,0,none⟩)] 92) HM1.lt)
 have hgh:=Hd ((Below.block ((Ext.refl _).alloc (.cells #[.pointer (some ⟨p,0,none⟩)] 92)) bg (Array.getElem?_eq_some_iff.1 hg1).1).trans hg1)
 have hbel:=Hd (Below.alloc hb1 (by have:=HM1.ge;have:=HM1.lt;omega) (.cells #[.pointer (some ⟨p,0,none⟩)] 92))
 clear hX hq0 cm0 hqa cma fga cg0 fgb cgb fgb' cgb' HMh0 hmh0 hgh0 hoh0 HKh HM1 hm1 ho1 hg1 hb1 hgp W0lt
 generalize (World.alloc (W0.setCell ⟨bg,0,none⟩ (V Z 0)) (.cells #[.pointer (some ⟨p,0,none⟩)] 92))=W at *
 have hq:=cell_of_heap HMh.out.heap
 have cm2:=hmh.out.cells
 have hI:Ints W vL L:=IntRow.ints HMh.out.rowL
 obtain⟨Al,cl,rfl,q1,q2⟩:=hI.slice
 have hIh:=Hd hI
 obtain⟨Ac,cc,rfl,-,-,-⟩:=vals_row HMh.out.rowC
 obtain⟨An,cn,rfl,-,-,-⟩:=vals_row HMh.out.rowN
 have hlen:=HMh.out.locN;have hplt:=HMh.out.lt;have hmlt:=hmh.out.lt;clear hI
 have hpo:p≠bo:=fun e=>hoh.out.2 (.inl e.symm)
 have hmo:bm≠bo:=fun e=>by
  have h1:=hmh.out.1;rw [e,hoh.out.1] at h1
  injection h1 with h1
  injection h1 with _ h2
  cases h2
 have hlo:(Value.slice Al L.length cl).ownBlock≠some bo:=row_not HMh.out.rowL hoh.out.1 (by decide)
 have hS:∀ w',Near W bo 4 30 w'->((∀ i,w'.cell? ⟨p,i,none⟩=(#[V Z 0,vA,.slice Al L.length cl,.slice Ac S.acc.length cc,.slice An S.nts.length cn]:Array Value)[i]?)/\(∀ i,w'.cell? ⟨bm,i,none⟩=(#[.pointer (some ⟨p,0,none⟩)]:Array Value)[i]?)/\(∀ i,w'.cell? ⟨bo,i,none⟩=(#[cellD w' bo 0,cellD w' bo 1,cellD w' bo 2,cellD w' bo 3]:Array Value)[i]?)/\(∀ i,w'.frozen? ⟨bo,i,none⟩=false)/\Near W bo 4 30 w'):=fun w' hx =>
  ⟨fun i=>(hx.cell hplt hpo).trans (hq i),fun i=>(hx.cell hmlt hmo).trans (cm2 i),hx.four,hx.frozen,hx⟩
 have hN:Near W bo 4 30 W:=Near.new hoh.out.1 rfl
 go_region_held2 (fun w'=>(∀ i,w'.cell? ⟨p,i,none⟩=(#[V Z 0,vA,.slice Al L.length cl,.slice Ac S.acc.length cc,.slice An S.nts.length cn]:Array Value)[i]?)/\(∀ i,w'.cell? ⟨bm,i,none⟩=(#[.pointer (some ⟨p,0,none⟩)]:Array Value)[i]?)/\(∀ i,w'.cell? ⟨bo,i,none⟩=(#[cellD w' bo 0,cellD w' bo 1,cellD w' bo 2,cellD w' bo 3]:Array Value)[i]?)/\(∀ i,w'.frozen? ⟨bo,i,none⟩=false)/\Near W bo 4 30 w') (first | exact hS _ hN.drew | (refine hS _ ?_;(repeat refine Near.set ?_ _ _);exact hN.drew.ext h2))
  (first
    | (go_at_call 87
       refine (tshort_p Al cl L _ (hIh.out.ext (Ext.refl W).drew) q1 q2 (by omega)).mono ?_
       rintro e w' ⟨v',rfl,h1,h2⟩
       obtain⟨As,cs,rfl,hs1,hs2⟩:=h1.ints.slice))
 have f3:∀ b,(Value.slice As (shortL L).length cs).ownBlock=some b->B<=b:=fun b hb=>by
  have q1:=(h1.lt b hb).1
  have q2:=HMh.out.ge;have q3:=HMh.out.lt
  rw [World.size_drew] at q1
  omega
 obtain⟨f1,f2⟩:=end_out (d:=false) HMh.out hoh.out.1 ((Ext.refl W).drew.trans h2) h1
 have fg:bg≠bo:=fun e=>by
  have h1:=hgh.out;rw [e,hoh.out.1] at h1
  injection h1 with h1
  injection h1 with _ h2
  cases h2
 refine⟨rfl,FrameMode.panicking ({ v:=.iface 92 (.agg #[.pointer (some ⟨p,0,none⟩)]),recovered:=true } :: older),(by cases c₀;simp only at hu;subst hu;rfl),.tuple #[],(by simp [results,Tryz.results86,go_sem]),rfl,rfl,?_,⟨_,_,_,f1,f2,f3⟩,?_⟩
 · rw [heap_setCell_ne _ _ fg,heap_setCell_ne _ _ fg,heap_setCell_ne _ _ fg,heap_setCell_ne _ _ fg]
   exact (Below.block ((Ext.refl W).drew.trans h2) bg (Array.getElem?_eq_some_iff.1 hgh.out).1).trans hgh.out
 · exact ((((hN.drew.ext h2).set _ _).set _ _).set _ _ |>.set _ _).below hbel.out hB2 (by have:=HMh.out.ge;omega)
set_option maxRecDepth 100000 in
set_option maxHeartbeats 1000000 in
theorem play_errB (f:FuncId)(cap:Array Value)(T:Prog Int)(Al:Option Addr)(cl:Nat)(L:List Int)(Aa:Option Addr)(ca:Nat)(ans:List Int)(w:World)(h:Ints w (.slice Al L.length cl) L)(hl:L.length<=32768)(ha:Ints w (.slice Aa ans.length ca) ans)(hn:ans.length<=maxAns)
  (hb:∀ b,(Value.slice Aa ans.length ca).ownBlock=some b->b<w.heap.size)
  (hcf:∀ (args:Array Value) (w:World),(callFunc f args).run Tryz.prog w=.ok (.enter f args) w)
  (hdo:∀ w1 p,Ext w w1->Plays w.heap.size w1 p (TS0 L ans)->Calls Tryz.prog f (#[.pointer (some ⟨p,0,none⟩)]++cap) w1 (Post encI w.heap.size p w1 (T.run (TS0 L ans)))) :
  Calls Tryz.prog 13 #[.func (.func f) #[] cap,.slice Al L.length cl,.slice Aa ans.length ca] w fun e w'=>∃ v,e=.returned (.tuple #[V Z ((T.run (TS0 L ans)).1.getD 0),v])/\Outs w' v (T.run (TS0 L ans)).1.isSome (T.run (TS0 L ans)).2/\(∃ d vC vN vs,v=.agg #[.bool d,vC,vN,vs]/\∀ b,vs.ownBlock=some b->w.heap.size<=b)/\Ext w w':=by
 obtain⟨q1,q2⟩:L.length<=cl/\cl<=9223372036854775807:=by
  obtain⟨A',c',he,q1,q2,_⟩:=h
  injection he with e1 e2 e3
  subst e3
  exact⟨q1,q2⟩
 generalize hR:(fun e w'=>∃ v,e=Ending.returned (.tuple #[V Z ((T.run (TS0 L ans)).1.getD 0),v])/\Outs w' v (T.run (TS0 L ans)).1.isSome (T.run (TS0 L ans)).2/\(∃ d vC vN vs,v=.agg #[.bool d,vC,vN,vs]/\∀ b,vs.ownBlock=some b->w.heap.size<=b)/\Ext w w')=R
 have hfin:∀ v w',Outs w' v (T.run (TS0 L ans)).1.isSome (T.run (TS0 L ans)).2->(∃ d vC vN vs,v=.agg #[.bool d,vC,vN,vs]/\∀ b,vs.ownBlock=some b->w.heap.size<=b)->Ext w w'->R (.returned (.tuple #[V Z ((T.run (TS0 L ans)).1.getD 0),v])) w':=fun v w' h1 h3 h2=>hR▸⟨v,rfl,h1,h3,h2⟩
 clear hR
 have hmf:∀ (fn:Fn) (first cap:Array Value) (w:World),(Instr.makeFunc fn first cap).run Tryz.prog w=.ok (.func fn first cap) w:=fun _ _ _ _=>rfl
 go_enter_defers Tryz.func13,Tryz.ntmps13
 go_wp2_with fail
 obtain⟨hx,g1,g2,g3,g4⟩:=four_boxes w (.cells #[V Z 0] 26) (.cells #[.bool false,.slice none 0 0,.slice none 0 0,.slice none 0 0] 30) (.cells #[V Z 1,.slice Aa ans.length ca,.slice none 0 0,.slice none 0 0,.slice none 0 0] 90) (.cells #[.pointer (some ⟨w.heap.size+1+1,0,none⟩)] 33)
 generalize hW:World.alloc (World.alloc (World.alloc (World.alloc w _) _) _) _=W at *
 clear hW
 have hI:=h.ext hx
 have cm:=cell_of_heap g4
 have hN:Near W (w.heap.size+1+1) 5 90 W:=Near.new g3 rfl
 have hmlt:=(Array.getElem?_eq_some_iff.1 g4).1
 have hmin:min (L.length:Int) 32768=(L.length:Int):=by omega
 have hS:∀ w',Near W (w.heap.size+1+1) 5 90 w'->((∀ i,w'.cell? ⟨w.heap.size+1+1+1,i,none⟩=(#[.pointer (some ⟨w.heap.size+1+1,0,none⟩)]:Array Value)[i]?)/\(∀ i,w'.cell? ⟨w.heap.size+1+1,i,none⟩=(#[cellD w' (w.heap.size+1+1) 0,cellD w' (w.heap.size+1+1) 1,cellD w' (w.heap.size+1+1) 2,cellD w' (w.heap.size+1+1) 3,cellD w' (w.heap.size+1+1) 4]:Array Value)[i]?)/\(∀ i,w'.frozen? ⟨w.heap.size+1+1,i,none⟩=false)):=fun w' hx =>
  ⟨fun i=>(hx.cell hmlt (by omega)).trans (cm i),hx.five,hx.frozen⟩
 go_region_held3 (fun w'=>(∀ i,w'.cell? ⟨w.heap.size+1+1+1,i,none⟩=(#[.pointer (some ⟨w.heap.size+1+1,0,none⟩)]:Array Value)[i]?)/\(∀ i,w'.cell? ⟨w.heap.size+1+1,i,none⟩=(#[cellD w' (w.heap.size+1+1) 0,cellD w' (w.heap.size+1+1) 1,cellD w' (w.heap.size+1+1) 2,cellD w' (w.heap.size+1+1) 3,cellD w' (w.heap.size+1+1) 4]:Array Value)[i]?)/\(∀ i,w'.frozen? ⟨w.heap.size+1+1,i,none⟩=false)) (first | exact hS _ hN.drew | (refine hS _ ?_;(repeat refine Near.set ?_ _ _);exact hN.drew.ext h2))
  (first
    | (go_at_call 85
       refine (clone_any Al cl L _ (hI.ext (Ext.refl W).drew) (by omega)).mono ?_
       rintro e w' ⟨v',rfl,h1,h2⟩
       obtain⟨As,cs,rfl,hs1,hs2⟩:=h1.ints.slice))
 obtain⟨hP,hH,hE⟩:=play_start (p:=w.heap.size+1+1) hx (by omega) g3 ((Ext.refl W).drew.trans h2) h1 hl ha hn hb
 have hbg:=hH _ _ g1 (by omega)
 have hbo:=hH _ _ g2 (by omega)
 have hbm:=hH _ _ g4 (by omega)
 clear hH g1 g2 g3 g4 hS hN h1 h2 hI cm hmin hmlt
 rename_i hh
 clear hh
 have hT:=hdo _ _ hE hP
 clear hdo
 generalize World.setCell _ _ _=W2 at *
 have cbm:=hbm.cells
 have hnf:(binOp .neq 35 (.func (.func f) #[] cap) .nilFunc).run Tryz.prog W2=.ok (.bool true) W2:=by kernel_rfl
 go_wp2_with fail
 generalize hr:T.run (TS0 L ans)=r at hT hfin
 obtain⟨o,S⟩:=r
 clear hr
 cases o with
 | some a =>
   refine hT.mono ?_
   rintro e w3 ⟨rfl,hP3,hK3⟩
   have hbg3:=hbg.keep hK3
   have hbo3:=hbo.keep hK3
   have hbm3:=hbm.keep hK3
   have hE3:Ext w w3:=Below.trans hE hK3.below
   clear hbg hbo hbm hE hK3 hT hP cbm hnf;have cbg:=hbg3.cells
   have fbg:=frozen_of_heap hbg3.1
   have cbo:=hbo3.cells
   have fbo:=frozen_of_heap hbo3.1
   go_wp2_with fail
   have fgo:w.heap.size≠w.heap.size+1:=by omega
   have hg4:=heap_setCell (i:=0) hbg3.1 (V Z a)
   have hP4:Plays w.heap.size (w3.setCell ⟨w.heap.size,0,none⟩ (V Z a)) (w.heap.size+1+1) S:=by
    obtain⟨q,vA,vL,vC,vN,L',hM⟩:=hP3
    exact⟨q,vA,vL,vC,vN,L',hM.setO hbg3.2 (Nat.le_refl _) _ _⟩
   have hbm4:=hbm3.setO (b:=w.heap.size) (by omega) hbg3.2 0 (V Z a)
   have hbo4:=hbo3.setO (b:=w.heap.size) (by omega) hbg3.2 0 (V Z a)
   have hbg4:HeldP (w3.setCell ⟨w.heap.size,0,none⟩ (V Z a)) (w.heap.size+1+1) w.heap.size (.cells #[V Z a] 26 (0,0)):=⟨hg4,fun h'=>hbg3.2 ((ownR_same (heap_setCell_ne _ _ (by omega)) _).1 h')⟩
   have hE4:Ext w (w3.setCell ⟨w.heap.size,0,none⟩ (V Z a)):=hE3.setCell (Nat.le_refl _) _
   clear hP3 hbg3 hbo3 hbm3 hE3 cbg fbg cbo fbo hg4
   generalize World.setCell _ _ _=w4 at *
   generalize hbq:w.heap.size+1=bo at hbm4 hbo4 hP4 ⊢
   have fgo1:w.heap.size≠bo:=by omega
   have fgo2:bo≠w.heap.size:=by omega
   clear fgo;have cbg:=hbg4.cells
   have fbg:=frozen_of_heap hbg4.1
   have cbo:=hbo4.cells
   have fbo:=frozen_of_heap hbo4.1
   go_region
   all_goals
    generalize hW5:World.drew _=W5
    have hsm:SameW w4 W5:=by
     rw [<- hW5]
     repeat first | with_reducible exact SameW.refl _ | with_reducible refine SameW.drew2 ?_ | refine SameW.set ?_ hbg4.1 rfl | refine SameW.set ?_ hbo4.1 rfl
    clear hW5 cbg fbg cbo fbo
    have hP5:=hP4.ext hsm.ext
    have hbm5:=hbm4.ext hsm.ext hP4.lt
    have hbg5:=hbg4.ext hsm.ext (by rw [hbq];exact hP4.lt)
    have hbo5:=hbo4.ext hsm.ext hP4.lt
    have hE5:Ext w W5:=hE4.trans hsm.ext
    clear hP4 hbm4 hbg4 hbo4 hE4 hsm;go_wp2_with fail
    refine leaves_cons (f:=86) (args:=#[.pointer (some ⟨bo+1+1,0,none⟩),.pointer (some ⟨w.heap.size,0,none⟩),.pointer (some ⟨bo,0,none⟩)]) (by simp) (by simp [go_sem]) ?_
    refine (end_okE w.heap.size _ S _ _ _ _ _ hP5 hbm5 (by rw [<- hbq];exact hbg5) hbo5 (by omega)).mono ?_
    rintro e u' w4 ⟨rfl,rfl,hg,⟨vC,vN,vs,ho,hO,hvs⟩,hB⟩
    have cg:=cell_of_heap hg
    have co:=cell_of_heap ho
    have cg0:=cg 0
    have co0:=co 0
    have co1:=co 1
    have co2:=co 2
    have co3:=co 3
    refine⟨.tuple #[V Z a,.agg #[.bool true,vC,vN,vs]],?_,hfin _ _ hO ⟨_,vC,vN,vs,rfl,hvs⟩ (Below.trans hE5 hB)⟩
    simp [results,Tryz.results13,go_sem,cg0,co0,co1,co2,co3]
 | none =>
   refine hT.mono ?_
   rintro e w3 ⟨rfl,hP3,hK3⟩
   have hbg3:=hbg.keep hK3
   have hbo3:=hbo.keep hK3
   have hbm3:=hbm.keep hK3
   have hE3:Ext w w3:=Below.trans hE hK3.below
   clear hbg hbo hbm hE hK3 hT hP cbm hnf
   refine leaves_cons (f:=86) (args:=#[.pointer (some ⟨w.heap.size+1+1+1,0,none⟩),.pointer (some ⟨w.heap.size,0,none⟩),.pointer (some ⟨w.heap.size+1,0,none⟩)]) (by simp) (by simp [go_sem]) ?_
   refine (end_stopE w.heap.size _ S _ _ _ _ [] _ hP3 hbm3 hbg3 hbo3 (Nat.le_refl _) (by omega)).mono ?_
   rintro e u' w4 ⟨rfl,rfl,hg,⟨vC,vN,vs,ho,hO,hvs⟩,hB⟩
   have cg:=cell_of_heap hg
   have co:=cell_of_heap ho
   have cg0:=cg 0
   have co0:=co 0
   have co1:=co 1
   have co2:=co 2
   have co3:=co 3
   refine⟨.tuple #[V Z 0,.agg #[.bool false,vC,vN,vs]],?_,hfin _ _ hO ⟨_,vC,vN,vs,rfl,hvs⟩ (Below.trans hE3 hB)⟩
   simp [results,Tryz.results13,go_sem,cg0,co0,co1,co2,co3]
theorem play_err (f:FuncId)(cap:Array Value)(T:Prog Int)(Al:Option Addr)(cl:Nat)(L:List Int)(Aa:Option Addr)(ca:Nat)(ans:List Int)(w:World)(h:Ints w (.slice Al L.length cl) L)(hl:L.length<=32768)(ha:Ints w (.slice Aa ans.length ca) ans)(hn:ans.length<=maxAns)
  (hb:∀ b,(Value.slice Aa ans.length ca).ownBlock=some b->b<w.heap.size)
  (hcf:∀ (args:Array Value) (w:World),(callFunc f args).run Tryz.prog w=.ok (.enter f args) w)
  (hdo:∀ w1 p,Ext w w1->Plays w.heap.size w1 p (TS0 L ans)->Calls Tryz.prog f (#[.pointer (some ⟨p,0,none⟩)]++cap) w1 (Post encI w.heap.size p w1 (T.run (TS0 L ans)))) :
  Calls Tryz.prog 13 #[.func (.func f) #[] cap,.slice Al L.length cl,.slice Aa ans.length ca] w fun e w'=>∃ v,e=.returned (.tuple #[V Z ((T.run (TS0 L ans)).1.getD 0),v])/\Outs w' v (T.run (TS0 L ans)).1.isSome (T.run (TS0 L ans)).2/\Ext w w' :=
 (play_errB f cap T Al cl L Aa ca ans w h hl ha hn hb hcf hdo).mono fun _ _ ⟨v,he,ho,_,hx⟩=>⟨v,he,ho,hx⟩
theorem may_r (va:Value)(l:List Want)(alg n mode base loc room:Int)(w:World)(h:WantsAt w va l)(hlen:l.length<=1000) :
  Calls Tryz.prog 99 #[va,.agg #[V Z alg,V Z n,V Z mode,V Z base,V Z loc,V Z room]] w fun e w'=>e=.returned (.bool (layM l n mode base loc).isSome)/\Ext w w':=by
 have hX:=Ext.refl w
 have b1:=Blk.new w (.cells #[V Z alg,V Z n,V Z mode,V Z base,V Z loc,V Z room] 23)
 replace hX:=hX.alloc (.cells #[V Z alg,V Z n,V Z mode,V Z base,V Z loc,V Z room] 23)
 have c_b1:=b1.cells
 have hL:=lay_r va l n mode base loc _ (h.ext hX) hlen
 obtain⟨A,c,rfl,_,_,_⟩:=h
 generalize hr:layM l n mode base loc=r at *
 go_enter Tryz.func99,Tryz.ntmps99
 go_wp2_with fail
 cases r with
 | none =>
   refine hL.mono ?_
   rintro e w1 ⟨hx,x,hx0,rfl⟩
   have dx:(x==0)=false:=by rw [beq_eq_false_iff_ne];exact hx0
   have hf:=Hd (hX.trans hx)
   clear hL hx hr hx0;go_wp2_with fail
   go_ret
   exact⟨rfl,hf.out⟩
 | some rs =>
   refine hL.mono ?_
   rintro e w1 ⟨hx,v,rfl,hrow⟩
   obtain⟨A',c',rfl,-⟩:=Recs.of_row hrow
   have hf:=Hd (hX.trans hx)
   clear hL hx hr hrow;go_wp2_with fail
   go_ret
   exact⟨rfl,hf.out⟩
theorem me_r (alg mode base loc room me:Int)(N:Nat)(w:World)(h1:1<=N)(h2:N<=8) :
  Calls Tryz.prog 23 #[.agg #[V Z alg,V Z N,V Z mode,V Z base,V Z loc,V Z room],V Z me] w fun e w'=>e=.returned (V Z (wrapI me ((N:Int)-1)))/\Ext w w':=by
 have hN:∀ w,Calls Tryz.prog 106 #[.agg #[V Z alg,V Z N,V Z mode,V Z base,V Z loc,V Z room]] w fun e w'=>e=.returned (V Z N)/\Ext w w':=by
  intro w
  have hn:nM (N:Int)=N:=nM_id (by omega) (by omega)
  have hX:=Ext.refl w
  have b1:=Blk.new w (.cells #[V Z alg,V Z N,V Z mode,V Z base,V Z loc,V Z room] 23)
  replace hX:=hX.alloc (.cells #[V Z alg,V Z N,V Z mode,V Z base,V Z loc,V Z room] 23)
  have c_b1:=b1.cells
  go_enter Tryz.func106,Tryz.ntmps106
  go_wp2_with fail
  refine (rn_any ⟨0,0,0,N,0,0,0⟩ _).mono ?_
  rintro e w1 ⟨rfl,hx⟩
  simp only
  rw [hn]
  have hf:=Hd (hX.trans hx)
  clear hx hn;go_wp2_with fail
  go_ret
  exact⟨rfl,hf.out⟩
 have hs:=IntWalk.i64_in ((N:Int)-1) (by omega)
 have hX:=Ext.refl w
 have b1:=Blk.new w (.cells #[V Z alg,V Z N,V Z mode,V Z base,V Z loc,V Z room] 23)
 replace hX:=hX.alloc (.cells #[V Z alg,V Z N,V Z mode,V Z base,V Z loc,V Z room] 23)
 have c_b1:=b1.cells
 go_enter Tryz.func23,Tryz.ntmps23
 go_wp2_with fail
 refine (hN _).mono ?_
 rintro e w1 ⟨rfl,hx⟩
 have hf:=Hd (hX.trans hx)
 clear hx hN;go_wp2_with fail
 refine (wrap_r me ((N:Int)-1) _).mono ?_
 rintro e w' ⟨rfl,rfl⟩;go_wp2_with fail
 go_ret
 exact⟨rfl,hf.out⟩
theorem me_at (me:Int)(N:Nat)(h1:1<=N)(h2:N<=8):∃ m:Nat,m<N/\wrapI me ((N:Int)-1)=m:=by
 have ht:=wrapI_bd me ((N:Int)-1)
 rw [show clamp ((N:Int)-1) 1099511627776=(N:Int)-1 from by unfold clamp within;omega] at ht
 exact⟨(wrapI me ((N:Int)-1)).toNat,by omega,by omega⟩
theorem laid_all {l:List Want}{n mode b c:Int}{rs:List Reg}(h:layM l n mode b c=some rs):∀ r∈rs,r.ok/\r.n=n:=by
 intro r hr
 obtain⟨i,hi⟩:=List.getElem?_of_mem hr
 obtain⟨⟨_,_,n1,n2,_,_⟩,hw,_⟩:=layM_args h
 have hil:=(List.getElem?_eq_some_iff.1 hi).1
 rw [layM_len h] at hil
 obtain⟨r',hr',hL⟩:=layM_at h (List.getElem?_eq_getElem hil)
 obtain rfl:r=r':=by rw [hi] at hr';simpa using hr'
 obtain⟨h1,h2,_⟩:=hL.ok ⟨n1,n2⟩ (hw _ (List.getElem_mem hil))
 exact⟨h1,h2⟩
theorem laid_want {f:Nat->Want}{k:Nat}{n mode b c:Int}{rs:List Reg}(h:layM ((List.range k).map f) n mode b c=some rs){i:Nat}{r:Reg}(hi:rs[i]?=some r):Laid n mode (f i) r:=by
 have hil:=(List.getElem?_eq_some_iff.1 hi).1
 rw [layM_len h,List.length_map,List.length_range] at hil
 obtain⟨r',hr',hL⟩:=layM_at h (i:=i) (q:=f i) (by rw [List.getElem?_map,List.getElem?_range hil];rfl)
 obtain rfl:r=r':=by rw [hi] at hr';simpa using hr'
 exact hL
theorem laid_told {n mode:Int}{q:Want}{r:Reg}(h:Laid n mode q r)(_hm:1<=mode/\mode<=2)(hn:2<=n)(_hq:-1<=q.wr){me:Int}(hme:q.wr≠me):r.told me:=by
 obtain⟨⟨b,c,rfl,_,_⟩,_⟩:=h
 by_cases h2:mode=2
 · by_cases h3:0<=q.wr
   · refine .inr (.inl ⟨?_,fun h=>hme h.symm⟩)
     show kindM mode q.wr=6
     unfold kindM
     rw [if_pos h2,if_pos h3]
   · refine .inr (.inr ⟨?_,hn⟩)
     show kindM mode q.wr=7
     unfold kindM
     rw [if_pos h2,if_neg h3]
 · refine .inl ?_
   show kindM mode q.wr=1
   unfold kindM
   rw [if_neg h2]
theorem fil_told {N:Nat}{mode b c:Int}{rs:List Reg}{m:Nat}(h:layM (filWants N) N mode b c=some rs):∀ (i:Nat) r,rs[i]?=some r->i≠m->2<=N->r.told m:=by
 intro i r hi hm hN
 obtain⟨⟨h1,h2,_⟩,_⟩:=layM_args h
 refine laid_told (laid_want h hi) ⟨h1,h2⟩ (by omega) ?_ ?_
 · unfold filWant;split <;> simp <;> omega
 · unfold filWant;split <;> simp <;> omega
end Go.Proofs.YtbaajjkopdjbgaaGreat
namespace Kv
theorem sets_manyRs {b l n top me:Int}(hn:1<=n)(hm:0<=me)(hm2:me<n):∀ (k:Nat) (j s v:Int),0<=j->j+k<=n->(manyRs b l n top me k j s v).Sets l (l+n*(2+18*((n-1)*(n-1))))
 | 0,j,s,v,_,_=>.ret _
 | k+1,j,s,v,hj,hk=>by
   have hq:0<=(n-1)*(n-1):=Int.mul_nonneg (by omega) (by omega)
   have hX:0<=2+18*((n-1)*(n-1)):=by omega
   have e1:manyL l n j=l+j*(2+18*((n-1)*(n-1))):=by unfold manyL;rw [Int.mul_assoc 18]
   have e2:0<=j*(2+18*((n-1)*(n-1))):=Int.mul_nonneg hj hX
   have e3:(j+1)*(2+18*((n-1)*(n-1)))<=n*(2+18*((n-1)*(n-1))):=Int.mul_le_mul_of_nonneg_right (by omega) hX
   rw [Int.add_mul,Int.one_mul] at e3
   unfold manyRs
   refine ((sets_tableR hj (by omega) hm hm2).mono ?_ ?_).bind fun y=>?_
   · rw [e1];omega
   · rw [e1];omega
   · split <;> exact sets_manyRs hn hm hm2 k _ _ _ (by omega) (by omega)
theorem localsM_eq (r:Reg):localsM r=if r.kind=1 then 0 else if r.kind=6 then 2+18*((r.n-1)*(r.n-1)) else r.n*(2+18*((r.n-1)*(r.n-1))):=by
 unfold localsM
 rw [Int.mul_assoc 18]
theorem sets_regR {r:Reg}(h:r.ok){me:Int}(hm:0<=me)(hm2:me<r.n):(regR r me).Sets r.loc (r.loc+localsM r):=by
 rw [localsM_eq]
 unfold regR
 split
 · exact sets_rd _ _ _
 · split
   · rename_i h6
     exact sets_tableR (h.wr h6).1 (h.wr h6).2 hm hm2
   · unfold manyR
     exact (sets_manyRs h.n.1 hm hm2 _ _ _ _ (by omega) (by have:=h.n.1;omega)).bind fun p=>.ret _
theorem sets_zeroP {r:Reg}(h:r.ok){me:Int}(hm:0<=me)(hm2:me<r.n):∀ n:Nat,(zeroP r me n).Sets r.loc (r.loc+localsM r)
 | 0=>.ret _
 | n+1=>(sets_regR h hm hm2).bind fun x=>by
   split
   · exact .ret _
   · exact sets_zeroP h hm hm2 n
theorem Prog.bind_some {α β:Type}{p:Prog α}{f:α->Prog β}{S S':TS}{b:β}(h:(p.bind f).run S=(some b,S')):∃ a S1,p.run S=(some a,S1)/\(f a).run S1=(some b,S'):=by
 rw [Prog.run_bind] at h
 rcases hr:p.run S with⟨o,S1⟩
 rw [hr] at h
 cases o with
 | none=>simp [thenR] at h
 | some a=>exact⟨a,S1,rfl,h⟩
theorem layFrom_from {n mode:Int}(hn:1<=n/\n<=8):∀ (l:List Want) (b c:Int) (rs:List Reg),layFrom n mode l b c=some rs->∀ (i:Nat) r,rs[i]?=some r->c<=r.loc
 | [],b,c,rs,h,i,r,hi=>by
   obtain rfl:[]=rs:=by simpa [layFrom] using h
   simp at hi
 | q :: l,b,c,rs,h,i,r,hi=>by
   unfold layFrom at h
   split at h
   · have hz:=cells_nat (regOf n mode b c q) hn
     cases hr:layFrom n mode l (b+cellsM (regOf n mode b c q)) (c+localsM (regOf n mode b c q)) with
     | none=>rw [hr] at h;cases h
     | some rs' =>
       rw [hr] at h
       obtain rfl:regOf n mode b c q :: rs'=rs:=by simpa using h
       cases i with
       | zero =>
         obtain rfl:regOf n mode b c q=r:=by simpa using hi
         exact Int.le_refl _
       | succ i =>
         have:=layFrom_from hn l _ _ rs' hr i r (by simpa using hi)
         omega
   · cases h
theorem layFrom_apart {n mode:Int}(hn:1<=n/\n<=8):∀ (l:List Want) (b c:Int) (rs:List Reg),layFrom n mode l b c=some rs->∀ (i j:Nat) r s,i<j->rs[i]?=some r->rs[j]?=some s->r.loc+localsM r<=s.loc
 | [],b,c,rs,h,i,j,r,s,_,hi,_=>by
   obtain rfl:[]=rs:=by simpa [layFrom] using h
   simp at hi
 | q :: l,b,c,rs,h,i,j,r,s,hij,hi,hj=>by
   unfold layFrom at h
   split at h
   · cases hr:layFrom n mode l (b+cellsM (regOf n mode b c q)) (c+localsM (regOf n mode b c q)) with
     | none=>rw [hr] at h;cases h
     | some rs' =>
       rw [hr] at h
       obtain rfl:regOf n mode b c q :: rs'=rs:=by simpa using h
       cases j with
       | zero=>omega
       | succ j =>
         have hj':rs'[j]?=some s:=by simpa using hj
         cases i with
         | zero =>
           obtain rfl:regOf n mode b c q=r:=by simpa using hi
           exact layFrom_from hn l _ _ rs' hr j s hj'
         | succ i=>exact layFrom_apart hn l _ _ rs' hr i j r s (by omega) (by simpa using hi) hj'
   · cases h
theorem layM_apart {l:List Want}{n mode b c:Int}{rs:List Reg}(h:layM l n mode b c=some rs){i j:Nat}{r s:Reg}(hij:i<j)(hi:rs[i]?=some r)(hj:rs[j]?=some s):r.loc+localsM r<=s.loc:=by
 obtain⟨⟨_,_,n1,n2,_,_⟩,_,hf⟩:=layM_args h
 exact layFrom_apart ⟨n1,n2⟩ l b c rs hf i j r s hij hi hj
theorem TS.got_upd {S:TS}{i v:Int}(h1:0<=i)(h2:i<32768):(S.upd i v).got i=v:=by
 unfold TS.upd
 rw [if_pos ⟨h1,h2⟩]
 unfold TS.got
 rw [if_neg (by omega)]
 simp
def ownZ (r:Reg) (S:TS):Prop:=r.kind=6->S.got (r.loc+1)=0
theorem ownZ_wrote {r:Reg}{m:Int}(h0:0<=r.loc)(hf:r.loc+localsM r<=32768)(hn:1<=r.n)(hw:r.kind=6->r.wr=m){S S':TS}(h:(regW r m 0).run S=(some (),S')):ownZ r S':=by
 intro h6
 rw [localsM_eq,if_neg (by omega),if_pos h6] at hf
 have hq:0<=(r.n-1)*(r.n-1):=Int.mul_nonneg (by omega) (by omega)
 unfold regW at h
 rw [if_neg (by omega),if_pos h6] at h
 unfold tableW at h
 rw [if_neg (by rw [hw h6];simp)] at h
 obtain⟨a1,S1,-,h⟩:=Prog.bind_some h
 obtain⟨a2,S2,-,h⟩:=Prog.bind_some h
 obtain⟨a3,S3,-,h⟩:=Prog.bind_some h
 have e:S3.upd (r.loc+1) (clamp 0 (clamp r.top 1048576))=S':=by
  have:=h
  simp only [st,Prog.run,Prod.mk.injEq,true_and] at this
  exact this
 have hc:clamp 0 (clamp r.top 1048576)=0:=by unfold clamp within;omega
 rw [<- e,hc]
 exact TS.got_upd (by omega) (by omega)
theorem ownZ_kept {r s:Reg}{m:Int}(_h0:0<=r.loc)(hn:1<=r.n)(hs:s.ok)(hm:0<=m)(hm2:m<s.n)(ha:r.loc+localsM r<=s.loc∨s.loc+localsM s<=r.loc){D:Nat}{S S':TS}(h:(zeroP s m D).run S=(some (),S'))(hz:ownZ r S):ownZ r S':=by
 intro h6
 have hq:0<=(r.n-1)*(r.n-1):=Int.mul_nonneg (by omega) (by omega)
 rw [localsM_eq r,if_neg (by omega),if_pos h6] at ha
 have e:=(sets_zeroP hs hm hm2 D).got (i:=r.loc+1) (by omega) S
 rw [h] at e
 rw [<- hz h6]
 exact e
theorem zeroP_own {r:Reg}{m:Int}(hk:r.kind=6)(hw:r.wr=m):∀ (D:Nat) (S S':TS),(zeroP r m D).run S=(some (),S')->S=S'
 | 0,S,S',h=>by
   have:=h
   simp only [zeroP,Prog.run,Prod.mk.injEq,true_and] at this
   exact this
 | D+1,S,S',h=>by
   rw [show zeroP r m (D+1)=(regR r m).bind fun x=>if x=0 then .ret () else zeroP r m D from rfl] at h
   have e:regR r m=gt (r.loc+1):=by
    unfold regR tableR
    rw [if_neg (by omega),if_pos hk,if_pos hw.symm]
   rw [e] at h
   have h:(if S.got (r.loc+1)=0 then Prog.ret () else zeroP r m D).run S=(some (),S'):=h
   split at h
   · simp only [Prog.run,Prod.mk.injEq,true_and] at h
     exact h
   · exact zeroP_own hk hw D S S' h
theorem ownZ_read {r:Reg}{m:Int}(hk:r.kind=6)(hw:r.wr=m){S:TS}(hz:ownZ r S):(regR r m).run S=(some 0,S):=by
 unfold regR tableR
 rw [if_neg (by omega),if_pos hk,if_pos hw.symm]
 show (some (S.got (r.loc+1)),S)=_
 rw [hz hk]
end Kv
namespace Go.Proofs.YtbaajjkopdjbgaaGreat
open Kv
theorem fast_told {N:Nat}{mode b c:Int}{rs:List Reg}{m:Nat}(h:layM (fastWants N) N mode b c=some rs)(hN:¬(N=1/\mode=2)):∀ (i:Nat) r,rs[i]?=some r->i≠2+m->r.told m:=by
 intro i r hi hm
 obtain⟨⟨h1,h2,n1,_⟩,_⟩:=layM_args h
 have hL:=laid_want h hi
 by_cases hm2:mode=2
 · refine laid_told hL ⟨h1,h2⟩ (by omega) ?_ ?_
   · unfold fastWant;split <;> simp <;> omega
   · unfold fastWant;split <;> simp <;> omega
 · obtain⟨⟨b,c,rfl,_,_⟩,_⟩:=hL
   refine .inl ?_
   show kindM mode _=1
   unfold kindM
   rw [if_neg hm2]
theorem fast_own {N:Nat}{mode b c:Int}{rs:List Reg}{m:Nat}{rm:Reg}(h:layM (fastWants N) N mode b c=some rs)(hr:rs[2+m]?=some rm):rm.kind=1∨rm.kind=6/\rm.wr=m:=by
 obtain⟨⟨h1,h2,n1,_⟩,_⟩:=layM_args h
 obtain⟨⟨b,c,rfl,_,_⟩,_⟩:=laid_want h hr
 have e:(fastWant N (2+m)).wr=m:=by unfold fastWant;rw [if_neg (by omega)];simp;omega
 show kindM mode _=1∨kindM mode _=6/\_=_
 unfold kindM
 split
 · rw [e,if_pos (by omega)]
   exact .inr ⟨rfl,e⟩
 · exact .inl rfl
theorem laid_fine {l:List Want}{n mode b c:Int}{rs:List Reg}(h:layM l n mode b c=some rs):∀ r∈rs,fineM r=true:=by
 intro r hr
 obtain⟨i,hi⟩:=List.getElem?_of_mem hr
 have hil:=(List.getElem?_eq_some_iff.1 hi).1
 rw [layM_len h] at hil
 obtain⟨r',hr',hL⟩:=layM_at h (List.getElem?_eq_getElem hil)
 obtain rfl:r=r':=by rw [hi] at hr';simpa using hr'
 exact hL.fine
theorem fast_hz {N:Nat}{mode b c:Int}{rs:List Reg}{m D:Nat}(h:layM (fastWants N) N mode b c=some rs)(hm:m<N) :
  ∃ Zq:TS->Prop,(∀ rm,rs[2+m]?=some rm->∀ S S',(regW rm m 0).run S=(some (),S')->Zq S') /\
   (∀ (j:Nat) r,rs[j]?=some r->∀ S S',(zeroP r m D).run S=(some (),S')->Zq S->Zq S') /\
   (∀ rm,rs[2+m]?=some rm->∀ S,Zq S->rm.told m∨(regR rm m).run S=(some 0,S)):=by
 have hlen:=layM_len h
 rw [fastWants_len] at hlen
 obtain⟨rm,hrm⟩:∃ r,rs[2+m]?=some r:=⟨_,List.getElem?_eq_getElem (by omega)⟩
 obtain⟨okm,nm⟩:=laid_all h rm (List.mem_of_getElem? hrm)
 have hown:=fast_own h hrm
 refine⟨ownZ rm,?_,?_,?_⟩
 · intro r hr S S' hS
   obtain rfl:rm=r:=by rw [hrm] at hr;simpa using hr
   refine ownZ_wrote okm.loc.1 ?_ (by have:=okm.n;omega) (fun h6=>?_) hS
   · have:=laid_fine h rm (List.mem_of_getElem? hrm)
     unfold fineM at this
     simp only [Bool.and_eq_true,decide_eq_true_eq] at this
     exact this.2
   · rcases hown with h1 | h1
     · omega
     · exact h1.2
 · intro j r hr S S' hS hz
   obtain⟨okr,nr⟩:=laid_all h r (List.mem_of_getElem? hr)
   by_cases hj:j=2+m
   · subst hj
     obtain rfl:rm=r:=by rw [hrm] at hr;simpa using hr
     rcases hown with h1 | h1
     · intro h6;omega
     · rw [<- zeroP_own h1.1 h1.2 D S S' hS];exact hz
   · refine ownZ_kept okm.loc.1 (by have:=okm.n;omega) okr (by omega) (by rw [nr];omega) ?_ hS hz
     by_cases hlt:j<2+m
     · exact .inr (layM_apart h hlt hr hrm)
     · exact .inl (layM_apart h (by omega) hrm hr)
 · intro r hr S hz
   obtain rfl:rm=r:=by rw [hrm] at hr;simpa using hr
   rcases hown with h1 | h1
   · exact .inl (.inl h1)
   · exact .inr (ownZ_read h1.1 h1.2 hz)
end Go.Proofs.YtbaajjkopdjbgaaGreat
namespace Kv
theorem unLo_bd (x:Int){top:Int}(h:0<=room top):0<=unLo x top/\unLo x top<=room top:=by
 unfold unLo
 have h1:=Int.emod_nonneg (unX x) (show room top+1≠0 by omega)
 have h2:=Int.emod_lt_of_pos (unX x) (show 0<room top+1 by omega)
 omega
def TameA (S:TS):Prop:=∀ v∈S.ans,0<=v/\v<=1048576
theorem TameA.run {α:Type}{S S':TS}{p:Prog α}{a:Option α}(h:TameA S)(hr:p.run S=(a,S')):TameA S':=by
 have:=Prog.run_ans p S
 rw [hr] at this
 unfold TameA
 rw [this]
 exact h
theorem rd_bd {c v:Int}{S S':TS}(h:TameA S)(hr:(rd c).run S=(some v,S')):0<=v/\v<=1048576:=by
 unfold rd at hr
 simp only [Prog.run] at hr
 cases hn:S.next with
 | none=>rw [hn] at hr;simp at hr
 | some u =>
   rw [hn] at hr
   simp only [Prod.mk.injEq,Option.some.injEq] at hr
   rw [<- hr.1]
   exact h u (List.mem_of_getElem? hn)
theorem ret_run {α:Type}{a b:α}{S S':TS}(h:(Prog.ret a).run S=(some b,S')):a=b/\S=S':=by
 simpa [Prog.run] using h
theorem tableR_bd {b l n wr top me v:Int}{S S':TS}(hne:me≠wr)(hr:(tableR b l n wr top me).run S=(some v,S')):0<=v/\v<=1048576:=by
 unfold tableR at hr;rw [if_neg hne] at hr
 obtain⟨x1,S1,-,hr⟩:=Prog.bind_some hr
 obtain⟨x2,S2,-,hr⟩:=Prog.bind_some hr
 obtain⟨x3,S3,-,hr⟩:=Prog.bind_some hr
 obtain⟨rfl,-⟩:=ret_run hr
 have h1:=room_bd (clamp top 1048576)
 have h2:=unLo_bd x2 (top:=clamp top 1048576) h1.1
 omega
theorem manyRs_bd {b l n top me:Int}:∀ (k:Nat) (j s v:Int) {S S':TS} {p:Int × Int},0<=v->v<=1048576->(manyRs b l n top me k j s v).run S=(some p,S')->0<=p.2/\p.2<=1048576
 | 0,j,s,v,S,S',p,h1,h2,hr=>by
   unfold manyRs at hr
   obtain⟨rfl,-⟩:=ret_run hr
   exact⟨h1,h2⟩
 | k+1,j,s,v,S,S',p,h1,h2,hr=>by
   unfold manyRs at hr
   obtain⟨y,S1,-,hr⟩:=Prog.bind_some hr
   split at hr
   · have h3:=room_bd (clamp top 255)
     have h4:=unLo_bd y (top:=clamp top 255) h3.1
     exact manyRs_bd k _ _ _ (by omega) (by omega) hr
   · exact manyRs_bd k _ _ _ h1 h2 hr
theorem regR_bd {r:Reg}{me v:Int}{S S':TS}(_hok:r.ok)(ht:r.kind=6->me≠r.wr)(h:TameA S)(hr:(regR r me).run S=(some v,S')):0<=v/\v<=1048576:=by
 unfold regR at hr
 split at hr
 · exact rd_bd h hr
 · split at hr
   · rename_i h6
     exact tableR_bd (ht h6) hr
   · unfold manyR at hr
     obtain⟨p,S1,hp,hr⟩:=Prog.bind_some hr
     obtain⟨rfl,-⟩:=ret_run hr
     exact manyRs_bd _ _ _ _ (by omega) (by omega) hp
theorem bwChoose_eq (r:Reg)(me:Int):∀ n:Nat,bwChoose r me n=zeroP r me n
 | 0=>rfl
 | n+1=>by
   rw [show bwChoose r me (n+1)=(regR r me).bind fun x=>if x=0 then .ret () else bwChoose r me n from rfl,show zeroP r me (n+1)=(regR r me).bind fun x=>if x=0 then .ret () else zeroP r me n from rfl,bwChoose_eq r me n]
theorem bwWait_bind {β:Type}(l:List Reg)(n me j t c:Int)(k:Nat)(f:Unit->Prog β):(bwWait l n me j t c (k+1)).bind f =
  (regR (regAt l (1+n+j)) me).bind fun x =>
    if x / 2=0 then f () else if x % 2=c then (if t<x / 2∨(x / 2=t/\me<j) then f () else (bwWait l n me j t c k).bind f)
    else (regR (regAt l 0) me).bind fun y=>if bitM y=c then (bwWait l n me j t c k).bind f else f ():=by
 rw [show bwWait l n me j t c (k+1)=(regR (regAt l (1+n+j)) me).bind fun x =>
   if x / 2=0 then .ret () else if x % 2=c then (if t<x / 2∨(x / 2=t/\me<j) then .ret () else bwWait l n me j t c k)
   else (regR (regAt l 0) me).bind fun y=>if bitM y=c then bwWait l n me j t c k else .ret () from rfl,Prog.bind_assoc]
 congr 1
 funext x
 by_cases h1:x / 2=0
 · rw [if_pos h1,if_pos h1];rfl
 · rw [if_neg h1,if_neg h1]
   by_cases h2:x % 2=c
   · rw [if_pos h2,if_pos h2]
     by_cases h3:t<x / 2∨(x / 2=t/\me<j)
     · rw [if_pos h3,if_pos h3];rfl
     · rw [if_neg h3,if_neg h3]
   · rw [if_neg h2,if_neg h2,Prog.bind_assoc]
     congr 1
     funext y
     by_cases h4:bitM y=c
     · rw [if_pos h4,if_pos h4]
     · rw [if_neg h4,if_neg h4];rfl
theorem notes_bwWait (l:List Reg)(n me j t c:Int):∀ k:Nat,(bwWait l n me j t c k).Notes 0
 | 0=>.ret _ _
 | k+1=>by
   rw [show bwWait l n me j t c (k+1)=(regR (regAt l (1+n+j)) me).bind fun x =>
    if x / 2=0 then .ret () else if x % 2=c then (if t<x / 2∨(x / 2=t/\me<j) then .ret () else bwWait l n me j t c k)
    else (regR (regAt l 0) me).bind fun y=>if bitM y=c then bwWait l n me j t c k else .ret () from rfl]
   refine (notes_regR _ _).bind0 fun x=>?_
   by_cases h1:x / 2=0
   · rw [if_pos h1];exact .ret _ _
   · rw [if_neg h1]
     by_cases h2:x % 2=c
     · rw [if_pos h2]
       by_cases h3:t<x / 2∨(x / 2=t/\me<j)
       · rw [if_pos h3];exact .ret _ _
       · rw [if_neg h3];exact notes_bwWait l n me j t c k
     · rw [if_neg h2]
       refine (notes_regR _ _).bind0 fun y=>?_
       by_cases h4:bitM y=c
       · rw [if_pos h4];exact notes_bwWait l n me j t c k
       · rw [if_neg h4];exact .ret _ _
theorem bwMost_cons {β:Type}(l:List Reg)(n me c a t:Int)(r:List Int)(k:Int->Prog β) :
  (forP (fun j t=>(regR (regAt l (1+n+j)) me).bind fun x=>.ret (if x % 2=c then max t (x / 2) else t)) (a :: r) t).bind k =
    (regR (regAt l (1+n+a)) me).bind fun x=>(forP (fun j t=>(regR (regAt l (1+n+j)) me).bind fun x=>.ret (if x % 2=c then max t (x / 2) else t)) r (if x % 2=c then max t (x / 2) else t)).bind k:=by
 rw [forP_consB,Prog.bind_assoc]
 rfl
def bwFor (l:List Reg) (N:Nat) (n me j t c:Int):Prog Unit:=(bwChoose (regAt l (1+j)) me N).bind fun _=>bwWait l n me j t c N
theorem notes_bwFor (l:List Reg)(N:Nat)(n me j t c:Int):(bwFor l N n me j t c).Notes 0:=by
 unfold bwFor
 rw [bwChoose_eq]
 exact (notes_zeroP _ _ _).bind0 fun _=>notes_bwWait _ _ _ _ _ _ _
theorem bwFor_bind {β:Type}(l:List Reg)(N:Nat)(n me j t c:Int)(f:Unit->Prog β):(bwFor l N n me j t c).bind f=(zeroP (regAt l (1+j)) me N).bind fun _=>(bwWait l n me j t c N).bind f:=by
 unfold bwFor
 rw [bwChoose_eq,Prog.bind_assoc]
def bwIn (N:Nat) (l:List Reg) (n me c t:Int):Prog Int :=
 (forP (fun j _=>bwFor l N n me j t c) (ranksFrom me n.toNat 0) ()).bind fun _=>(nt 3).bind fun _=>.ret 0
def bwThrough (N:Nat) (l:List Reg) (n me c t:Int):Prog Int :=
 (regW (regAt l (1+n+me)) me (2*(t+1)+c)).bind fun _=>(regW (regAt l (1+me)) me 0).bind fun _=>(nt 2).bind fun _=>bwIn N l n me c (t+1)
theorem bwA_eq (N:Nat)(l:List Reg)(own n me:Int):bwA N l own n me =
  (nt 1).bind fun _=>(regW (regAt l (1+me)) me 1).bind fun _=>(regR (regAt l 0) me).bind fun y=>(st own (bitM y)).bind fun _ =>
    (forP (fun j t=>(regR (regAt l (1+n+j)) me).bind fun x=>.ret (if x % 2=bitM y then max t (x / 2) else t)) (ranksFrom me n.toNat 0) 0).bind (bwThrough N l n me (bitM y)):=rfl
theorem told_ne {r:Reg}{me:Int}(h:r.told me):r.kind=6->me≠r.wr:=by
 intro h6
 rcases h with h | ⟨_,h⟩ | ⟨h,_⟩
 · omega
 · exact h
 · omega
def zeroC (c:Int):Nat->Prog Unit
 | 0=>.ret ()
 | n+1=>(rd c).bind fun x=>if x=0 then .ret () else zeroC c n
theorem zeroC_bind {β:Type}(c:Int)(n:Nat)(f:Unit->Prog β):(zeroC c (n+1)).bind f=(rd c).bind fun x=>if x=0 then f () else (zeroC c n).bind f:=by
 rw [show zeroC c (n+1)=(rd c).bind fun x=>if x=0 then .ret () else zeroC c n from rfl,Prog.bind_assoc]
 congr 1
 funext x
 split <;> rfl
theorem notes_zeroC (c:Int):∀ n:Nat,(zeroC c n).Notes 0
 | 0=>.ret _ _
 | n+1=>by
   rw [show zeroC c (n+1)=(rd c).bind fun x=>if x=0 then .ret () else zeroC c n from rfl]
   refine (notes_rd _).bind0 fun x=>?_
   split
   · exact .ret _ _
   · exact notes_zeroC c n
def bakWait (c t me j:Int):Nat->Prog Unit
 | 0=>.ret ()
 | n+1=>(rd c).bind fun x=>if x≠0/\(x<t∨x=t/\j<me) then bakWait c t me j n else .ret ()
theorem bakWait_bind {β:Type}(c t me j:Int)(n:Nat)(f:Unit->Prog β):(bakWait c t me j (n+1)).bind f=(rd c).bind fun x=>if x≠0/\(x<t∨x=t/\j<me) then (bakWait c t me j n).bind f else f ():=by
 rw [show bakWait c t me j (n+1)=(rd c).bind fun x=>if x≠0/\(x<t∨x=t/\j<me) then bakWait c t me j n else .ret () from rfl,Prog.bind_assoc]
 congr 1
 funext x
 split <;> rfl
theorem notes_bakWait (c t me j:Int):∀ n:Nat,(bakWait c t me j n).Notes 0
 | 0=>.ret _ _
 | n+1=>by
   rw [show bakWait c t me j (n+1)=(rd c).bind fun x=>if x≠0/\(x<t∨x=t/\j<me) then bakWait c t me j n else .ret () from rfl]
   refine (notes_rd _).bind0 fun x=>?_
   split
   · exact notes_bakWait c t me j n
   · exact .ret _ _
def bakFor (D:Nat) (base n me t j:Int):Prog Unit:=(zeroC (base+j) D).bind fun _=>bakWait (base+n+j) t me j D
theorem notes_bakFor (D:Nat)(base n me t j:Int):(bakFor D base n me t j).Notes 0:=by
 unfold bakFor
 exact (notes_zeroC _ _).bind0 fun _=>notes_bakWait _ _ _ _ _
def bakIn (D:Nat) (base n room own me:Int) (t:Int):Prog Int :=
 if room<t+1 then (wr (base+me) 0).bind fun _=>(nt 4).bind fun _=>.ret 11 else
  (wr (base+n+me) (t+1)).bind fun _=>(st own (t+1)).bind fun _=>(wr (base+me) 0).bind fun _=>(nt 2).bind fun _ =>
    (forP (fun j _=>bakFor D base n me (t+1) j) (ranksFrom me n.toNat 0) ()).bind fun _=>(nt 3).bind fun _=>.ret 0
def bakA (D:Nat) (base n room own me:Int):Prog Int :=
 (nt 1).bind fun _=>(wr (base+me) 1).bind fun _ =>
   (forP (fun j t=>(rd (base+n+j)).bind fun x=>.ret (max t x)) (ranksFrom me n.toNat 0) 0).bind (bakIn D base n room own me)
def bakR (base n own me:Int):Prog Unit:=(nt 5).bind fun _=>(wr (base+n+me) 0).bind fun _=>st own 0
theorem bakMost_cons {β:Type}(base n a t:Int)(r:List Int)(k:Int->Prog β) :
  (forP (fun j t=>(rd (base+n+j)).bind fun x=>.ret (max t x)) (a :: r) t).bind k=(rd (base+n+a)).bind fun x=>(forP (fun j t=>(rd (base+n+j)).bind fun x=>.ret (max t x)) r (max t x)).bind k:=by
 rw [forP_consB,Prog.bind_assoc]
 rfl
def oneUp (D:Nat) (base:Int) (me:Nat):Nat->Nat->Prog Unit
 | 0,_=>.ret ()
 | f+1,j=>if j<me then (rd (base+j)).bind fun x=>if x=0 then oneUp D base me f (j+1) else
    (wr (base+me) 0).bind fun _=>(zeroC (base+j) D).bind fun _=>(wr (base+me) 1).bind fun _=>oneUp D base me f 0
   else .ret ()
def oneA (D:Nat) (base:Int) (n me:Nat):Prog Int :=
 (nt 1).bind fun _=>(wr (base+me) 1).bind fun _=>(oneUp D base me D 0).bind fun _=>(nt 2).bind fun _ =>
   (forP (fun j _=>zeroC (base+j) D) (ranksFrom (-1) (n-1-me) ((me:Int)+1)) ()).bind fun _=>(nt 3).bind fun _=>.ret 0
def oneR (base me:Int):Prog Unit:=(nt 5).bind fun _=>wr (base+me) 0
theorem oneUp_lt {β:Type}(D:Nat)(base:Int)(me f j:Nat)(h:j<me)(F:Unit->Prog β):(oneUp D base me (f+1) j).bind F=(rd (base+j)).bind fun x=>if x=0 then (oneUp D base me f (j+1)).bind F else
  (wr (base+me) 0).bind fun _=>(zeroC (base+j) D).bind fun _=>(wr (base+me) 1).bind fun _=>(oneUp D base me f 0).bind F:=by
 rw [show oneUp D base me (f+1) j=if j<me then (rd (base+j)).bind fun x=>if x=0 then oneUp D base me f (j+1) else
   (wr (base+me) 0).bind fun _=>(zeroC (base+j) D).bind fun _=>(wr (base+me) 1).bind fun _=>oneUp D base me f 0
  else .ret () from rfl,if_pos h,Prog.bind_assoc]
 congr 1
 funext x
 split
 · rfl
 · simp only [Prog.bind_assoc]
theorem oneUp_ge {β:Type}(D:Nat)(base:Int)(me f:Nat)(F:Unit->Prog β):(oneUp D base me f me).bind F=F ():=by
 cases f with
 | zero=>rfl
 | succ f =>
   rw [show oneUp D base me (f+1) me=if me<me then (rd (base+me)).bind fun x=>if x=0 then oneUp D base me f (me+1) else
    (wr (base+me) 0).bind fun _=>(zeroC (base+me) D).bind fun _=>(wr (base+me) 1).bind fun _=>oneUp D base me f 0
   else .ret () from rfl,if_neg (Nat.lt_irrefl _)]
   rfl
end Kv
