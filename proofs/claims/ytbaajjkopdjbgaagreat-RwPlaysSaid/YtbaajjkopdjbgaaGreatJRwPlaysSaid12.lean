/-
  RwPlaysSaid: part 12 of its proof.
-/
import Derived.Test.YtbaajjkopdjbgaaGreatJRwPlaysSaid11
import Derived.Deep.DeepCutAuto
import Derived.Deep.MidRow
import Derived.Laws.MakeOwn
import Derived.BigQuiet
import Derived.Deep.QuietTactic
open Go.Value renaming int -> V
open Go.IntKind renaming i64 -> Z
namespace Go.Proofs.YtbaajjkopdjbgaaGreat
open Go.RowKit Kv
theorem alg_casesR {alg:Int}(h:1<=alg/\alg<=8):alg=1∨alg=2∨alg=3∨alg=4∨alg=5∨alg=6∨alg=7∨alg=8:=by omega
set_option maxRecDepth 100000 in
theorem lkacq_r (B p N D:Nat)(o:Bool)(S:TS)(alg mode base loc room:Int)(m:Nat)(rs:List Reg)(w:World)(h:RAt B w p o S)(hk:LkOk alg N mode base loc room rs)(hm:m<N)(hN:¬ (N=1/\mode=2))(hta:TameA S)(hD:S.left<D)(hn0:S.nts.length<=100000) :
  Calls Tryz.prog 28 #[.pointer (some ⟨p,0,none⟩),.agg #[V Z alg,V Z N,V Z mode,V Z base,V Z loc,V Z room],V Z m] w (RPost encI B p w (lkA D alg N base loc room rs m) o S):=by
 have hal:=hk.halg
 generalize hR:RPost encI B p w (lkA D alg N base loc room rs m) o S=R
 have hO:ROwes R encI B p w (lkA D alg N base loc room rs m) o S:=hR▸rowes _ _ _ _ _ _ _
 clear hR
 obtain⟨b1,hK,hP⟩:=h.entry (.cells #[V Z alg,V Z N,V Z mode,V Z base,V Z loc,V Z room] 23)
 have c_b1:=b1.cells;clear h
 rcases alg_casesR hal with rfl | rfl | rfl | rfl | rfl | rfl | rfl | rfl
 have hq:=fun W hP=>bakacq_r B p N D o S 1 mode base loc room m W hP hk.hn.1 hk.hn.2 hm hk.hbase hk.hroom hta hD hn0
 replace hq:=Hd hq;clear hk hal
 rotate_left
 have hq:=fun W hP=>oneacq_r B p N D o S 2 mode base loc room m W hP hk.hn.1 hk.hn.2 hm hk.hbase hD hn0
 replace hq:=Hd hq;clear hk hal
 rotate_left
 have hl:layM (bwWants N) N mode base loc=some rs:=hk.hlay (by decide)
 have hq:=fun W hP=>bwacq_r B p N D o S 3 mode base loc room m rs W hP hk.hn.1 hk.hn.2 hm hl hk.hloc (laid_all hl) (bw_told hl) hta hD hn0
 replace hq:=Hd hq;clear hk hl hal
 rotate_left
 have hl:layM (filWants N) N mode base loc=some rs:=hk.hlay (by decide)
 have hq:=fun W hP=>filacq_r B p N D o S 4 mode base loc room m rs W hP hk.hn.1 hk.hn.2 hm hl (laid_all hl) (fil_told hl) hD hn0
 replace hq:=Hd hq;clear hk hl hal
 rotate_left
 have hl:layM (fastWants N) N mode base loc=some rs:=hk.hlay (by decide)
 obtain⟨Zq,z1,z2,z3⟩:=fast_hz (m:=m) (D:=D) hl hm
 have hq:=fun W hP=>fastacq_r B p N D o S 5 mode base loc room m rs W hP hk.hn.1 hk.hn.2 hm hl (laid_all hl) (fast_told hl hN) hD hn0 Zq z1 z2 z3
 replace hq:=Hd hq;clear hk hl z1 z2 z3 hal
 rotate_left
 have hl:layM (treeWants (eachK 6) N) N mode base loc=some rs:=hk.hlay (by decide)
 have hq:=fun W hP=>treeacq_r B p N D o S 6 mode base loc room m rs W hP hk.hn.1 (by have:=hk.hn.2;omega) hm hl (tree_all hl hm) hD hn0
 replace hq:=Hd hq;clear hk hl hal
 rotate_left
 have hl:layM (treeWants (eachK 7) N) N mode base loc=some rs:=hk.hlay (by decide)
 have hq:=fun W hP=>treeacq_r B p N D o S 7 mode base loc room m rs W hP hk.hn.1 (by have:=hk.hn.2;omega) hm hl (tree_all hl hm) hD hn0
 replace hq:=Hd hq;clear hk hl hal
 rotate_left
 have hl:layM (adWants N) N mode base loc=some rs:=hk.hlay (by decide)
 have hq:=fun W hP=>adacq_r B p N D o S 8 mode base loc room m rs W hP hk.hn.1 hk.hn.2 hm hl hk.hloc (laid_all hl) (ad_told hl hk.hn.1) hD hn0
 replace hq:=Hd hq;clear hk hl hal
 rotate_left
 all_goals
  go_enter Tryz.func28,Tryz.ntmps28
  go_wp2_with fail
  refine rlast hO hK (hq.out _ hP) ?_
  clear hO hK hP hq c_b1;intro u o9 S9 w9 hP hk9 hK hO
  have hf:R (.returned (encI u)) w9:=hO.ret hP hK
  clear hO hP hK hk9;go_wp2_with fail
  first | exact hf | (refine bodyPost_ret (results_none rfl _ _ _) rfl ?_;exact hf) | (go_ret;exact hf)
set_option maxRecDepth 100000 in
theorem lkrel_r (B p N:Nat)(o:Bool)(S:TS)(alg mode base loc room:Int)(m:Nat)(rs:List Reg)(w:World)(h:RAt B w p o S)(hk:LkOk alg N mode base loc room rs)(hm:m<N)(hn0:S.nts.length<=100000) :
  Calls Tryz.prog 32 #[.pointer (some ⟨p,0,none⟩),.agg #[V Z alg,V Z N,V Z mode,V Z base,V Z loc,V Z room],V Z m] w (RPost encU B p w (lkR alg N base loc rs m) o S):=by
 have hal:=hk.halg
 generalize hR:RPost encU B p w (lkR alg N base loc rs m) o S=R
 have hO:ROwes R encU B p w (lkR alg N base loc rs m) o S:=hR▸rowes _ _ _ _ _ _ _
 clear hR
 obtain⟨b1,hK,hP⟩:=h.entry (.cells #[V Z alg,V Z N,V Z mode,V Z base,V Z loc,V Z room] 23)
 have c_b1:=b1.cells;clear h
 rcases alg_casesR hal with rfl | rfl | rfl | rfl | rfl | rfl | rfl | rfl
 have hq:=fun W hP=>bakrel_r B p N o S 1 mode base loc room m W hP hk.hn.1 hk.hn.2 hm hk.hbase hn0
 replace hq:=Hd hq;clear hk hal
 rotate_left
 have hq:=fun W hP=>onerel_r B p N o S 2 mode base loc room m W hP hk.hn.2 hm hk.hbase hn0
 replace hq:=Hd hq;clear hk hal
 rotate_left
 have hl:layM (bwWants N) N mode base loc=some rs:=hk.hlay (by decide)
 have hq:=fun W hP=>bwrel_r B p N o S 3 mode base loc room m rs W hP hk.hn.1 hk.hn.2 hm hl hk.hloc (laid_all hl) hn0
 replace hq:=Hd hq;clear hk hl hal
 rotate_left
 have hl:layM (filWants N) N mode base loc=some rs:=hk.hlay (by decide)
 have hq:=fun W hP=>filrel_r B p N o S 4 mode base loc room m rs W hP hk.hn.1 hk.hn.2 hm hl (laid_all hl) hn0
 replace hq:=Hd hq;clear hk hl hal
 rotate_left
 have hl:layM (fastWants N) N mode base loc=some rs:=hk.hlay (by decide)
 have hq:=fun W hP=>fastrel_r B p N o S 5 mode base loc room m rs W hP hk.hn.1 hk.hn.2 hm hl (laid_all hl) hn0
 replace hq:=Hd hq;clear hk hl hal
 rotate_left
 have hl:layM (treeWants (eachK 6) N) N mode base loc=some rs:=hk.hlay (by decide)
 have hq:=fun W hP=>treerel_r B p N o S 6 mode base loc room m rs W hP hk.hn.1 (by have:=hk.hn.2;omega) hm hl (tree_all hl hm) hn0
 replace hq:=Hd hq;clear hk hl hal
 rotate_left
 have hl:layM (treeWants (eachK 7) N) N mode base loc=some rs:=hk.hlay (by decide)
 have hq:=fun W hP=>treerel_r B p N o S 7 mode base loc room m rs W hP hk.hn.1 (by have:=hk.hn.2;omega) hm hl (tree_all hl hm) hn0
 replace hq:=Hd hq;clear hk hl hal
 rotate_left
 have hl:layM (adWants N) N mode base loc=some rs:=hk.hlay (by decide)
 have hq:=fun W hP=>adrel_r B p N o S 8 mode base loc room m rs W hP hk.hn.1 hk.hn.2 hm hl hk.hloc (laid_all hl) (ad_told hl hk.hn.1) hn0
 replace hq:=Hd hq;clear hk hl hal
 rotate_left
 all_goals
  go_enter Tryz.func32,Tryz.ntmps32
  go_wp2_with fail
  refine rlast hO hK (hq.out _ hP) ?_
  clear hO hK hP hq c_b1;intro u o9 S9 w9 hP hk9 hK hO
  have hf:R (.returned (encU u)) w9:=hO.ret hP hK
  clear hO hP hK hk9;go_wp2_with fail
  first | exact hf | (refine bodyPost_ret (results_none rfl _ _ _) rfl ?_;exact hf) | (go_ret;exact hf)
set_option maxRecDepth 100000 in
theorem lkw3 (N:Nat)(mode base loc room:Int)(w:World)(h1:1<=N)(h2:N<=8):Calls Tryz.prog 100 #[.agg #[V Z 3,V Z N,V Z mode,V Z base,V Z loc,V Z room]] w fun e w'=>∃ v,e=.returned v/\WantsAt w' v (bwWants N)/\Ext w w':=by
 have hX:=Ext.refl w
 have b1:=Blk.new w (.cells #[V Z 3,V Z N,V Z mode,V Z base,V Z loc,V Z room] 23)
 replace hX:=hX.alloc (.cells #[V Z 3,V Z N,V Z mode,V Z base,V Z loc,V Z room] 23)
 have c_b1:=b1.cells
 go_enter Tryz.func100,Tryz.ntmps100
 go_wp2_with fail
 refine (bwwants_r N _ h1 h2).mono ?_
 rintro e w2 ⟨v,rfl,hv,hx⟩
 have hf:=Hd (And.intro hv (hX.trans hx))
 clear hv hx c_b1;go_wp2_with fail
 go_ret
 exact⟨_,rfl,hf.out.1,hf.out.2⟩
set_option maxRecDepth 100000 in
theorem lkw4 (N:Nat)(mode base loc room:Int)(w:World)(h1:1<=N)(h2:N<=8):Calls Tryz.prog 100 #[.agg #[V Z 4,V Z N,V Z mode,V Z base,V Z loc,V Z room]] w fun e w'=>∃ v,e=.returned v/\WantsAt w' v (filWants N)/\Ext w w':=by
 have hX:=Ext.refl w
 have b1:=Blk.new w (.cells #[V Z 4,V Z N,V Z mode,V Z base,V Z loc,V Z room] 23)
 replace hX:=hX.alloc (.cells #[V Z 4,V Z N,V Z mode,V Z base,V Z loc,V Z room] 23)
 have c_b1:=b1.cells
 go_enter Tryz.func100,Tryz.ntmps100
 go_wp2_with fail
 refine (filwants_r N _ h1 h2).mono ?_
 rintro e w2 ⟨v,rfl,hv,hx⟩
 have hf:=Hd (And.intro hv (hX.trans hx))
 clear hv hx c_b1;go_wp2_with fail
 go_ret
 exact⟨_,rfl,hf.out.1,hf.out.2⟩
set_option maxRecDepth 100000 in
theorem lkw5 (N:Nat)(mode base loc room:Int)(w:World)(h1:1<=N)(h2:N<=8):Calls Tryz.prog 100 #[.agg #[V Z 5,V Z N,V Z mode,V Z base,V Z loc,V Z room]] w fun e w'=>∃ v,e=.returned v/\WantsAt w' v (fastWants N)/\Ext w w':=by
 have hX:=Ext.refl w
 have b1:=Blk.new w (.cells #[V Z 5,V Z N,V Z mode,V Z base,V Z loc,V Z room] 23)
 replace hX:=hX.alloc (.cells #[V Z 5,V Z N,V Z mode,V Z base,V Z loc,V Z room] 23)
 have c_b1:=b1.cells
 go_enter Tryz.func100,Tryz.ntmps100
 go_wp2_with fail
 refine (fastwants_r N _ h1 h2).mono ?_
 rintro e w2 ⟨v,rfl,hv,hx⟩
 have hf:=Hd (And.intro hv (hX.trans hx))
 clear hv hx c_b1;go_wp2_with fail
 go_ret
 exact⟨_,rfl,hf.out.1,hf.out.2⟩
set_option maxRecDepth 100000 in
theorem lkw6 (N:Nat)(mode base loc room:Int)(w:World)(h1:1<=N)(h2:N<=8):Calls Tryz.prog 100 #[.agg #[V Z 6,V Z N,V Z mode,V Z base,V Z loc,V Z room]] w fun e w'=>∃ v,e=.returned v/\WantsAt w' v (treeWants (eachK 6) N)/\Ext w w':=by
 have hX:=Ext.refl w
 have b1:=Blk.new w (.cells #[V Z 6,V Z N,V Z mode,V Z base,V Z loc,V Z room] 23)
 replace hX:=hX.alloc (.cells #[V Z 6,V Z N,V Z mode,V Z base,V Z loc,V Z room] 23)
 have c_b1:=b1.cells
 go_enter Tryz.func100,Tryz.ntmps100
 go_wp2_with fail
 refine (rtwants_r 6 N _ (by omega)).mono ?_
 rintro e w2 ⟨v,rfl,hv,hx⟩
 have hf:=Hd (And.intro hv (hX.trans hx))
 clear hv hx c_b1;go_wp2_with fail
 go_ret
 exact⟨_,rfl,hf.out.1,hf.out.2⟩
set_option maxRecDepth 100000 in
theorem lkw7 (N:Nat)(mode base loc room:Int)(w:World)(h1:1<=N)(h2:N<=8):Calls Tryz.prog 100 #[.agg #[V Z 7,V Z N,V Z mode,V Z base,V Z loc,V Z room]] w fun e w'=>∃ v,e=.returned v/\WantsAt w' v (treeWants (eachK 7) N)/\Ext w w':=by
 have hX:=Ext.refl w
 have b1:=Blk.new w (.cells #[V Z 7,V Z N,V Z mode,V Z base,V Z loc,V Z room] 23)
 replace hX:=hX.alloc (.cells #[V Z 7,V Z N,V Z mode,V Z base,V Z loc,V Z room] 23)
 have c_b1:=b1.cells
 go_enter Tryz.func100,Tryz.ntmps100
 go_wp2_with fail
 refine (rtwants_r 7 N _ (by omega)).mono ?_
 rintro e w2 ⟨v,rfl,hv,hx⟩
 have hf:=Hd (And.intro hv (hX.trans hx))
 clear hv hx c_b1;go_wp2_with fail
 go_ret
 exact⟨_,rfl,hf.out.1,hf.out.2⟩
set_option maxRecDepth 100000 in
theorem lkw8 (N:Nat)(mode base loc room:Int)(w:World)(h1:1<=N)(h2:N<=8):Calls Tryz.prog 100 #[.agg #[V Z 8,V Z N,V Z mode,V Z base,V Z loc,V Z room]] w fun e w'=>∃ v,e=.returned v/\WantsAt w' v (adWants N)/\Ext w w':=by
 have hX:=Ext.refl w
 have b1:=Blk.new w (.cells #[V Z 8,V Z N,V Z mode,V Z base,V Z loc,V Z room] 23)
 replace hX:=hX.alloc (.cells #[V Z 8,V Z N,V Z mode,V Z base,V Z loc,V Z room] 23)
 have c_b1:=b1.cells
 go_enter Tryz.func100,Tryz.ntmps100
 go_wp2_with fail
 refine (adwants_r N _ h1 h2).mono ?_
 rintro e w2 ⟨v,rfl,hv,hx⟩
 have hf:=Hd (And.intro hv (hX.trans hx))
 clear hv hx c_b1;go_wp2_with fail
 go_ret
 exact⟨_,rfl,hf.out.1,hf.out.2⟩
theorem lkwants_r (alg:Int)(N:Nat)(mode base loc room:Int)(w:World)(ha:3<=alg/\alg<=8)(h1:1<=N)(h2:N<=8):Calls Tryz.prog 100 #[.agg #[V Z alg,V Z N,V Z mode,V Z base,V Z loc,V Z room]] w fun e w'=>∃ v,e=.returned v/\WantsAt w' v (lkWants alg N)/\Ext w w':=by
 have:alg=3∨alg=4∨alg=5∨alg=6∨alg=7∨alg=8:=by omega
 rcases this with rfl | rfl | rfl | rfl | rfl | rfl
 · exact lkw3 N mode base loc room w h1 h2
 · exact lkw4 N mode base loc room w h1 h2
 · exact lkw5 N mode base loc room w h1 h2
 · exact lkw6 N mode base loc room w h1 h2
 · exact lkw7 N mode base loc room w h1 h2
 · exact lkw8 N mode base loc room w h1 h2
theorem lkWants_le (alg:Int){N:Nat}(h1:1<=N)(h2:N<=8):(lkWants alg N).length<=300:=by
 unfold lkWants
 split
 · rw [bwWants_len];omega
 · split
   · rw [filWants_len];omega
   · split
     · rw [fastWants_len];omega
     · split
       · unfold treeWants
         rw [List.length_replicate]
         have hE:=(each_le alg).2
         have hle:=(pow_le (lev_le (show N<=64 by omega))).2
         have:=Nat.mul_le_mul hE (show 2 ^ levels (N:Int)-1<=63 by omega)
         omega
       · rw [adWants_len]
         have:=adTree_le h1 h2
         have:=(triN_le h1 h2).2
         omega
theorem size0_r (A:Option Addr)(c:Nat)(w:World):Calls Tryz.prog 182 #[.slice A 0 c] w fun e w'=>e=.returned (.tuple #[V Z 0,V Z 0])/\Ext w w':=by
 go_enter Tryz.func182,Tryz.ntmps182
 go_wp2_with fail
 go_loopw [4,5,6] (fun u v i wr=>i=V Z 0/\u=V Z 0/\v=V Z 0/\Ext w wr) (fun _ _ _ _=>0)
 case atStart=>exact⟨rfl,rfl,rfl,Ext.refl w⟩
 case round =>
  obtain⟨rfl,rfl,rfl,hX⟩:=hrel
  go_wp2_with fail
  first | go_ret2 | go_ret
  exact⟨rfl,hX⟩
theorem sizeV_r (v:Value)(rs:List Reg)(w:World)(h:RegsV w v rs)(hok:∀ r∈rs,r.ok)(hl:rs.length<=300) :
  Calls Tryz.prog 182 #[v] w fun e w'=>e=.returned (.tuple #[V Z (sumC rs),V Z (sumL rs)])/\Ext w w':=by
 obtain⟨A,c,rfl,q1,q2,hV⟩:=h
 by_cases h0:rs=[]
 · subst h0
   exact size0_r A c w
 · obtain⟨b,rfl,hb,hc⟩:=hV (by cases rs with | nil=>exact absurd rfl h0 | cons r l=>simp [regVals])
   exact size_r b c rs w hb hc hok hl
set_option maxRecDepth 100000 in
set_option maxHeartbeats 1000000 in
theorem lksize_r (alg:Int)(N:Nat)(mode base loc room:Int)(rs:List Reg)(w:World)(ha:1<=alg/\alg<=8)(h1:1<=N)(h2:N<=8)(hl:3<=alg->layM (lkWants alg N) N mode base loc=some rs) :
  Calls Tryz.prog 101 #[.agg #[V Z alg,V Z N,V Z mode,V Z base,V Z loc,V Z room]] w fun e w'=>e=.returned (.tuple #[V Z (lkC alg N rs),V Z (lkL alg rs)])/\Ext w w':=by
 have hX:=Ext.refl w
 have b1:=Blk.new w (.cells #[V Z alg,V Z N,V Z mode,V Z base,V Z loc,V Z room] 23)
 replace hX:=hX.alloc (.cells #[V Z alg,V Z N,V Z mode,V Z base,V Z loc,V Z room] 23)
 have c_b1:=b1.cells
 by_cases a1:alg=1
 · subst a1
   have hw:=IntWalk.i64_in (2*(N:Int)) (by omega)
   have e1:lkC 1 N rs=2*(N:Int):=rfl
   have e2:lkL 1 rs=1:=rfl
   rw [e1,e2]
   clear e1 e2 hl
   go_enter Tryz.func101,Tryz.ntmps101
   go_wp2_with fail
   first | go_ret2 | go_ret
   exact⟨rfl,hX⟩
 by_cases a2:alg=2
 · subst a2
   have e1:lkC 2 N rs=(N:Int):=rfl
   have e2:lkL 2 rs=0:=rfl
   rw [e1,e2]
   clear e1 e2 hl a1
   go_enter Tryz.func101,Tryz.ntmps101
   go_wp2_with fail
   first | go_ret2 | go_ret
   exact⟨rfl,hX⟩
 have hl:=hl (by omega)
 have hok:∀ r∈rs,r.ok:=fun r hr=>(laid_all hl r hr).1
 have hlen:=layM_len hl
 have hle:=lkWants_le alg h1 h2
 have hbd:=sum_bd hok rs.length (Nat.le_refl _)
 rw [List.take_length] at hbd
 have ha3:3<=alg/\alg<=8:=by omega
 have d1:(alg==1)=false:=by rw [beq_eq_false_iff_ne];exact a1
 have d2:(alg==2)=false:=by rw [beq_eq_false_iff_ne];exact a2
 have hC:lkC alg N rs=sumC rs:=by unfold lkC;rw [if_neg a1,if_neg a2]
 have hL:lkL alg rs=if alg=3∨alg=8 then sumL rs+1 else sumL rs:=by unfold lkL;rw [if_neg a1,if_neg a2]
 have hw:=IntWalk.i64_in (sumL rs+1) (by omega)
 have hCL:=Hd (And.intro hC hL)
 have hlh:=Hd hl
 have hokh:=Hd hok
 have hlen9:rs.length<=300:=by omega
 have hlenw:(lkWants alg N).length<=1000:=by omega
 have hlenh:=Hd (And.intro hlen9 hlenw)
 clear hl hok hlen hle hbd a1 a2 hC hL hlen9 hlenw
 go_enter Tryz.func101,Tryz.ntmps101
 go_wp2_with fail
 generalize w.alloc _=W at *
 have hXW:=hX;clear hX c_b1
 have hX:=(Ext.refl W).drew
 have hS:∀ w',Ext W w'->(∀ i,w'.cell? ⟨w.heap.size,i,none⟩=(#[V Z alg,V Z N,V Z mode,V Z base,V Z loc,V Z room]:Array Value)[i]?):=fun w' hx=>(b1.ext hx).cells
 go_region_held2 (fun w'=>∀ i,w'.cell? ⟨w.heap.size,i,none⟩=(#[V Z alg,V Z N,V Z mode,V Z base,V Z loc,V Z room]:Array Value)[i]?) (exact hS _ hX)
  (first
    | (go_at_call 100
       refine (lkwants_r alg N mode base loc room _ ha3 h1 h2).mono ?_
       rintro e w2 ⟨v2,rfl,hw2,hx⟩
       replace hX:=hX.trans hx
       clear hx)
    | (go_at_call 176
       refine (layr_some hlh.out _ (hw2.ext (Ext.refl _)) hlenh.out.2).mono ?_
       rintro e w3 ⟨v3,rfl,hr3,hx⟩
       replace hX:=hX.trans hx
       clear hx))
 rename_i hh
 clear hh;have hS3:=hS;clear hS;go_wp2_with fail
 refine (sizeV_r v3 rs _ hr3.1 hokh.out hlenh.out.1).mono ?_
 rintro e w4 ⟨rfl,hx4⟩
 have c_b4:=hS3 _ (hX.trans hx4)
 have hf:=Hd (hXW.trans (hX.trans hx4))
 clear hr3 hx4 hX
 by_cases a3:alg=3
 · subst a3
   go_wp2_with fail
   first | go_ret2 | go_ret
   exact⟨by rw [hCL.out.1,hCL.out.2,if_pos (by simp)];rfl,hf.out⟩
 · have d3:(alg==3)=false:=by rw [beq_eq_false_iff_ne];exact a3
   by_cases a8:alg=8
   · subst a8
     clear a3;go_wp2_with fail
     first | go_ret2 | go_ret
     exact⟨by rw [hCL.out.1,hCL.out.2,if_pos (by simp)];rfl,hf.out⟩
   · have d8:(alg==8)=false:=by rw [beq_eq_false_iff_ne];exact a8
     have hng:=Hd (show ¬ (alg=3∨alg=8) by omega)
     clear a3 a8;go_wp2_with fail
     first | go_ret2 | go_ret
     exact⟨by rw [hCL.out.1,hCL.out.2,if_neg hng.out];rfl,hf.out⟩
set_option maxRecDepth 100000 in
set_option maxHeartbeats 2000000 in
theorem lkfine_r (alg N0 mode base loc room:Int)(w:World):Calls Tryz.prog 21 #[.agg #[V Z alg,V Z N0,V Z mode,V Z base,V Z loc,V Z room]] w fun e w'=>(∃ b,e=.returned (.bool b)/\(b=true->∃ (N:Nat) (rs:List Reg),N0=N/\LkOk alg N mode base loc room rs))/\Ext w w':=by
 generalize hR:(fun (e:Ending) (w':World)=>(∃ b,e=.returned (.bool b)/\(b=true->∃ (N:Nat) (rs:List Reg),N0=N/\LkOk alg N mode base loc room rs))/\Ext w w')=R
 have hno:∀ w',Ext w w'->R (.returned (.bool false)) w':=fun w' h=>hR▸⟨⟨false,rfl,fun h=>by cases h⟩,h⟩
 have hyes:∀ w',Ext w w'->(∃ (N:Nat) (rs:List Reg),N0=N/\LkOk alg N mode base loc room rs)->R (.returned (.bool true)) w':=fun w' h k=>hR▸⟨⟨true,rfl,fun _=>k⟩,h⟩
 clear hR
 have hX:=(Ext.refl w).alloc (.cells #[V Z alg,V Z N0,V Z mode,V Z base,V Z loc,V Z room] 23)
 have b1:=Blk.new w (.cells #[V Z alg,V Z N0,V Z mode,V Z base,V Z loc,V Z room] 23)
 have c_b1:=b1.cells
 by_cases g0:alg<1
 · have d0:decide (alg<1)=true:=by rw [decide_eq_true_eq];exact g0
   have hf:=hno _ hX
   clear g0 hno hyes
   go_enter Tryz.func21,Tryz.ntmps21
   go_wp2_with fail
   first | exact hf | (go_ret;exact hf)
 have d0:decide (alg<1)=false:=by rw [decide_eq_false_iff_not];exact g0
 by_cases g1:8<alg
 · have d1:decide (8<alg)=true:=by rw [decide_eq_true_eq];exact g1
   have hf:=hno _ hX
   clear g1 hno hyes
   go_enter Tryz.func21,Tryz.ntmps21
   go_wp2_with fail
   first | exact hf | (go_ret;exact hf)
 have d1:decide (8<alg)=false:=by rw [decide_eq_false_iff_not];exact g1
 by_cases g2:N0<1
 · have d2:decide (N0<1)=true:=by rw [decide_eq_true_eq];exact g2
   have hf:=hno _ hX
   clear g2 hno hyes
   go_enter Tryz.func21,Tryz.ntmps21
   go_wp2_with fail
   first | exact hf | (go_ret;exact hf)
 have d2:decide (N0<1)=false:=by rw [decide_eq_false_iff_not];exact g2
 by_cases g3:8<N0
 · have d3:decide (8<N0)=true:=by rw [decide_eq_true_eq];exact g3
   have hf:=hno _ hX
   clear g3 hno hyes
   go_enter Tryz.func21,Tryz.ntmps21
   go_wp2_with fail
   first | exact hf | (go_ret;exact hf)
 have d3:decide (8<N0)=false:=by rw [decide_eq_false_iff_not];exact g3
 by_cases g4:mode<1
 · have d4:decide (mode<1)=true:=by rw [decide_eq_true_eq];exact g4
   have hf:=hno _ hX
   clear g4 hno hyes
   go_enter Tryz.func21,Tryz.ntmps21
   go_wp2_with fail
   first | exact hf | (go_ret;exact hf)
 have d4:decide (mode<1)=false:=by rw [decide_eq_false_iff_not];exact g4
 by_cases g5:2<mode
 · have d5:decide (2<mode)=true:=by rw [decide_eq_true_eq];exact g5
   have hf:=hno _ hX
   clear g5 hno hyes
   go_enter Tryz.func21,Tryz.ntmps21
   go_wp2_with fail
   first | exact hf | (go_ret;exact hf)
 have d5:decide (2<mode)=false:=by rw [decide_eq_false_iff_not];exact g5
 by_cases g6:base<0
 · have d6:decide (base<0)=true:=by rw [decide_eq_true_eq];exact g6
   have hf:=hno _ hX
   clear g6 hno hyes
   go_enter Tryz.func21,Tryz.ntmps21
   go_wp2_with fail
   first | exact hf | (go_ret;exact hf)
 have d6:decide (base<0)=false:=by rw [decide_eq_false_iff_not];exact g6
 by_cases g7:loc<0
 · have d7:decide (loc<0)=true:=by rw [decide_eq_true_eq];exact g7
   have hf:=hno _ hX
   clear g7 hno hyes
   go_enter Tryz.func21,Tryz.ntmps21
   go_wp2_with fail
   first | exact hf | (go_ret;exact hf)
 have d7:decide (loc<0)=false:=by rw [decide_eq_false_iff_not];exact g7
 by_cases g8:room<1
 · have d8:decide (room<1)=true:=by rw [decide_eq_true_eq];exact g8
   have hf:=hno _ hX
   clear g8 hno hyes
   go_enter Tryz.func21,Tryz.ntmps21
   go_wp2_with fail
   first | exact hf | (go_ret;exact hf)
 have d8:decide (room<1)=false:=by rw [decide_eq_false_iff_not];exact g8
 by_cases g9:1048576<room
 · have d9:decide (1048576<room)=true:=by rw [decide_eq_true_eq];exact g9
   have hf:=hno _ hX
   clear g9 hno hyes
   go_enter Tryz.func21,Tryz.ntmps21
   go_wp2_with fail
   first | exact hf | (go_ret;exact hf)
 have d9:decide (1048576<room)=false:=by rw [decide_eq_false_iff_not];exact g9
 by_cases g10:32768<base
 · have d10:decide (32768<base)=true:=by rw [decide_eq_true_eq];exact g10
   have hf:=hno _ hX
   clear g10 hno hyes
   go_enter Tryz.func21,Tryz.ntmps21
   go_wp2_with fail
   first | exact hf | (go_ret;exact hf)
 have d10:decide (32768<base)=false:=by rw [decide_eq_false_iff_not];exact g10
 by_cases g11:32768<loc
 · have d11:decide (32768<loc)=true:=by rw [decide_eq_true_eq];exact g11
   have hf:=hno _ hX
   clear g11 hno hyes
   go_enter Tryz.func21,Tryz.ntmps21
   go_wp2_with fail
   first | exact hf | (go_ret;exact hf)
 have d11:decide (32768<loc)=false:=by rw [decide_eq_false_iff_not];exact g11
 obtain⟨N,rfl⟩:∃ N:Nat,N0=N:=⟨N0.toNat,by omega⟩
 have hok9:∀ rs,(3<=alg->layM (lkWants alg N) N mode base loc=some rs)->base+lkC alg N rs<=32768->loc+lkL alg rs<=32768->LkOk alg N mode base loc room rs:=fun rs hl hc hl2=>⟨by omega,by omega,by omega,by omega,by omega,by omega,hl,hc,hl2⟩
 have ha:1<=alg/\alg<=8:=by omega
 have hb0:0<=base/\base<=32768:=by omega
 have hl0:0<=loc/\loc<=32768:=by omega
 have h1:1<=N:=by omega
 have h2:N<=8:=by omega
 clear g0 g1 g2 g3 g4 g5 g6 g7 g8 g9 g10 g11
 have hkb:∀ rs,(3<=alg->layM (lkWants alg N) N mode base loc=some rs)->0<=lkC alg N rs/\lkC alg N rs<=3000000/\0<=lkL alg rs/\lkL alg rs<=3000000:=fun rs hl=>by
  by_cases a1:alg=1
  · subst a1
    have e1:lkC 1 N rs=2*(N:Int):=rfl
    have e2:lkL 1 rs=1:=rfl
    omega
  by_cases a2:alg=2
  · subst a2
    have e1:lkC 2 N rs=(N:Int):=rfl
    have e2:lkL 2 rs=0:=rfl
    omega
  have hl:=hl (by omega)
  have hok:∀ r∈rs,r.ok:=fun r hr=>(laid_all hl r hr).1
  have hlen:=layM_len hl
  have hle:=lkWants_le alg h1 h2
  have hbd:=sum_bd hok rs.length (Nat.le_refl _)
  rw [List.take_length] at hbd
  have hC:lkC alg N rs=sumC rs:=by unfold lkC;rw [if_neg a1,if_neg a2]
  have hL:lkL alg rs=if alg=3∨alg=8 then sumL rs+1 else sumL rs:=by unfold lkL;rw [if_neg a1,if_neg a2]
  rw [hC,hL]
  split <;> omega
 have hend:∀ rs,(3<=alg->layM (lkWants alg N) N mode base loc=some rs)->∀ W,Ext w W->Calls Tryz.prog 101 #[.agg #[V Z alg,V Z N,V Z mode,V Z base,V Z loc,V Z room]] W fun e w'=>e=.returned (.tuple #[V Z (lkC alg N rs),V Z (lkL alg rs)])/\Ext W w':=fun rs hl W _=>lksize_r alg N mode base loc room rs W ha h1 h2 hl
 by_cases a3:2<alg
 · have d:decide (2<alg)=true:=by rw [decide_eq_true_eq];exact a3
   have hle:=lkWants_le alg h1 h2
   have hMay:=fun (va:Value) (w:World) (h:WantsAt w va (lkWants alg N))=>may_r va (lkWants alg N) alg N mode base loc room w h (by omega)
   cases hl:layM (lkWants alg N) N mode base loc with
   | none =>
     rw [hl] at hMay;clear hend hkb hok9
     go_enter Tryz.func21,Tryz.ntmps21
     go_wp2_with fail
     generalize w.alloc _=W at *
     have hS:∀ w',Ext W w'->(∀ i,w'.cell? ⟨w.heap.size,i,none⟩=(#[V Z alg,V Z N,V Z mode,V Z base,V Z loc,V Z room]:Array Value)[i]?):=fun w' hx=>(b1.ext hx).cells
     have hXW:=hX
     refine wp_region_held_drew (S:=fun w'=>∀ i,w'.cell? ⟨w.heap.size,i,none⟩=(#[V Z alg,V Z N,V Z mode,V Z base,V Z loc,V Z room]:Array Value)[i]?) rfl (hS _ (Ext.refl W).drew) (fun hHeld=>?_)
     refine tkb 0 ?_
     iterate 5
      refine tkn (v:=?_) rfl (by kernel_rfl) (fun _ _ _ h=>h) (by assumption) ?_ ?_
      rotate_left
      · (intro w hSw;(try dsimp only at hSw);go_simp;try with_reducible rfl)
      try simp only [put_pack]
     refine tke ?_
     refine tk 6 (v:=?_) rfl (by kernel_rfl) (fun _ _ _ h=>h) (by assumption) ?_ ?_
     rotate_left
     · (intro w hSw;(try dsimp only at hSw);go_simp;try with_reducible rfl)
     try simp only [put_pack]
     refine wpAnyH_ready (rs:=[5]) (by kernel_rfl) (by simp) ?_
     refine AllReadyH.cons rfl (fun K hKK=>?_) (AllReadyH.nil)
     go_simp
     refine (lkwants_r alg N mode base loc room _ (by omega) h1 h2).mono ?_
     rintro e w2 ⟨v2,rfl,hw2,hx⟩
     clear hX
     have hX:=(Ext.refl W).drew.trans hx
     clear hx
     refine hKK.out _ _ (hS _ hX) (fun hHeld=>?_)
     clear hKK K
     try dsimp only
     refine wpAnyH_ready (rs:=[7]) (by kernel_rfl) (by simp) ?_
     refine AllReadyH.cons rfl (fun K hKK=>?_) (AllReadyH.nil)
     go_simp
     refine (hMay v2 _ hw2).mono ?_
     rintro e w3 ⟨rfl,hx⟩
     replace hX:=hX.trans hx;clear hx
     refine hKK.out _ _ (hS _ hX) (fun hHeld=>?_)
     clear hKK K hw2
     try dsimp only
     refine tk 8 (v:=?_) rfl (by kernel_rfl) (fun _ _ _ h=>h) (by assumption) ?_ ?_
     rotate_left
     · (intro w hSw;(try dsimp only at hSw);go_simp;try with_reducible rfl)
     try simp only [put_pack]
     refine tk 9 (v:=?_) rfl (by kernel_rfl) (fun _ _ _ h=>h) (by assumption) ?_ ?_
     rotate_left
     · (intro w hSw;(try dsimp only at hSw);go_simp;try with_reducible rfl)
     try simp only [put_pack]
     refine wpAnyH_done (by kernel_rfl) ?_ _
     go_simp
     have hf:=hno _ (hXW.trans hX)
     clear hX hS hno hyes;go_wp2_with fail
     first | exact hf | (go_ret;exact hf)
   | some rs =>
     rw [hl] at hMay
     have hl3:3<=alg->layM (lkWants alg N) N mode base loc=some rs:=fun _=>hl
     have hend:=hend rs hl3
     have hkb:=hkb rs hl3
     have hokh:=Hd (hok9 rs hl3)
     clear hl hl3 hok9
     generalize lkC alg N rs=C at *
     generalize lkL alg rs=L at *
     go_enter Tryz.func21,Tryz.ntmps21
     go_wp2_with fail
     generalize w.alloc _=W at *
     have hS:∀ w',Ext W w'->(∀ i,w'.cell? ⟨w.heap.size,i,none⟩=(#[V Z alg,V Z N,V Z mode,V Z base,V Z loc,V Z room]:Array Value)[i]?):=fun w' hx=>(b1.ext hx).cells
     have hXW:=hX
     refine wp_region_held_drew (S:=fun w'=>∀ i,w'.cell? ⟨w.heap.size,i,none⟩=(#[V Z alg,V Z N,V Z mode,V Z base,V Z loc,V Z room]:Array Value)[i]?) rfl (hS _ (Ext.refl W).drew) (fun hHeld=>?_)
     refine tkb 0 ?_
     iterate 5
      refine tkn (v:=?_) rfl (by kernel_rfl) (fun _ _ _ h=>h) (by assumption) ?_ ?_
      rotate_left
      · (intro w hSw;(try dsimp only at hSw);go_simp;try with_reducible rfl)
      try simp only [put_pack]
     refine tke ?_
     refine tk 6 (v:=?_) rfl (by kernel_rfl) (fun _ _ _ h=>h) (by assumption) ?_ ?_
     rotate_left
     · (intro w hSw;(try dsimp only at hSw);go_simp;try with_reducible rfl)
     try simp only [put_pack]
     refine wpAnyH_ready (rs:=[5]) (by kernel_rfl) (by simp) ?_
     refine AllReadyH.cons rfl (fun K hKK=>?_) (AllReadyH.nil)
     go_simp
     refine (lkwants_r alg N mode base loc room _ (by omega) h1 h2).mono ?_
     rintro e w2 ⟨v2,rfl,hw2,hx⟩
     clear hX
     have hX:=(Ext.refl W).drew.trans hx
     clear hx
     refine hKK.out _ _ (hS _ hX) (fun hHeld=>?_)
     clear hKK K
     try dsimp only
     refine wpAnyH_ready (rs:=[7]) (by kernel_rfl) (by simp) ?_
     refine AllReadyH.cons rfl (fun K hKK=>?_) (AllReadyH.nil)
     go_simp
     refine (hMay v2 _ hw2).mono ?_
     rintro e w3 ⟨rfl,hx⟩
     replace hX:=hX.trans hx;clear hx
     refine hKK.out _ _ (hS _ hX) (fun hHeld=>?_)
     clear hKK K hw2
     try dsimp only
     refine tk 8 (v:=?_) rfl (by kernel_rfl) (fun _ _ _ h=>h) (by assumption) ?_ ?_
     rotate_left
     · (intro w hSw;(try dsimp only at hSw);go_simp;try with_reducible rfl)
     try simp only [put_pack]
     refine tk 9 (v:=?_) rfl (by kernel_rfl) (fun _ _ _ h=>h) (by assumption) ?_ ?_
     rotate_left
     · (intro w hSw;(try dsimp only at hSw);go_simp;try with_reducible rfl)
     try simp only [put_pack]
     refine wpAnyH_done (by kernel_rfl) ?_ _
     go_simp
     have c_b1:=hS _ hX
     have hwc:=IntWalk.i64_in (base+C) (by omega)
     have hwl:=IntWalk.i64_in (loc+L) (by omega)
     go_wp2_with fail
     refine (hend _ (hXW.trans hX)).mono ?_
     rintro e w5 ⟨rfl,hx5⟩
     have c_b5:=(b1.ext (hX.trans hx5)).cells
     have hf:=Hd (hXW.trans (hX.trans hx5))
     clear c_b1 hend
     by_cases r1:base+C<=32768
     · have e1:decide (base+C<=32768)=true:=by rw [decide_eq_true_eq];exact r1
       by_cases r2:loc+L<=32768
       · have e2:decide (loc+L<=32768)=true:=by rw [decide_eq_true_eq];exact r2
         have hff:=hyes _ hf.out ⟨N,_,rfl,hokh.out r1 r2⟩
         clear r1 r2 hyes hno;go_wp2_with fail
         first | exact hff | (go_ret;exact hff)
       · have e2:decide (loc+L<=32768)=false:=by rw [decide_eq_false_iff_not];exact r2
         have hff:=hno _ hf.out
         clear r1 r2 hyes hno;go_wp2_with fail
         first | exact hff | (go_ret;exact hff)
     · have e1:decide (base+C<=32768)=false:=by rw [decide_eq_false_iff_not];exact r1
       have hff:=hno _ hf.out
       clear r1 hyes hno;go_wp2_with fail
       first | exact hff | (go_ret;exact hff)
 · have d:decide (2<alg)=false:=by rw [decide_eq_false_iff_not];exact a3
   have hl3:3<=alg->layM (lkWants alg N) N mode base loc=some []:=fun h=>absurd h (by omega)
   have hend:=hend [] hl3
   have hkb:=hkb [] hl3
   have hokh:=Hd (hok9 [] hl3)
   clear hl3 hok9 a3
   generalize lkC alg N []=C at *
   generalize lkL alg []=L at *
   go_enter Tryz.func21,Tryz.ntmps21
   go_wp2_with fail
   generalize w.alloc _=W at *
   have hS:∀ w',Ext W w'->(∀ i,w'.cell? ⟨w.heap.size,i,none⟩=(#[V Z alg,V Z N,V Z mode,V Z base,V Z loc,V Z room]:Array Value)[i]?):=fun w' hx=>(b1.ext hx).cells
   have hXW:=hX
   refine wp_region_held_drew (S:=fun w'=>∀ i,w'.cell? ⟨w.heap.size,i,none⟩=(#[V Z alg,V Z N,V Z mode,V Z base,V Z loc,V Z room]:Array Value)[i]?) rfl (hS _ (Ext.refl W).drew) (fun hHeld=>?_)
   refine tkb 0 ?_
   iterate 4
    refine tkn (v:=?_) rfl (by kernel_rfl) (fun _ _ _ h=>h) (by assumption) ?_ ?_
    rotate_left
    · (intro w hSw;(try dsimp only at hSw);go_simp;try with_reducible rfl)
    try simp only [put_pack]
   refine tke ?_
   refine sk 4 rfl (by kernel_rfl) (fun _ _ _ h=>h) (by assumption) ?_
   try simp only [put_pack]
   refine sk 5 rfl (by kernel_rfl) (fun _ _ _ h=>h) (by assumption) ?_
   try simp only [put_pack]
   refine sk 6 rfl (by kernel_rfl) (fun _ _ _ h=>h) (by assumption) ?_
   try simp only [put_pack]
   refine sk 7 rfl (by kernel_rfl) (fun _ _ _ h=>h) (by assumption) ?_
   try simp only [put_pack]
   refine sk 8 rfl (by kernel_rfl) (fun _ _ _ h=>h) (by assumption) ?_
   try simp only [put_pack]
   refine tk 9 (v:=?_) rfl (by kernel_rfl) (fun _ _ _ h=>h) (by assumption) ?_ ?_
   rotate_left
   · (intro w hSw;(try dsimp only at hSw);go_simp;try with_reducible rfl)
   try simp only [put_pack]
   refine wpAnyH_done (by kernel_rfl) ?_ _
   go_simp
   have hX:=(Ext.refl W).drew
   have c_b1:=hS _ hX
   replace hX:=hXW.trans hX
   have hwc:=IntWalk.i64_in (base+C) (by omega)
   have hwl:=IntWalk.i64_in (loc+L) (by omega)
   go_wp2_with fail
   refine (hend _ hX).mono ?_
   rintro e w5 ⟨rfl,hx5⟩
   have c_b5:=(b1.ext ((Ext.refl W).drew.trans hx5)).cells
   have hf:=Hd (hX.trans hx5)
   clear c_b1 hend
   by_cases r1:base+C<=32768
   · have e1:decide (base+C<=32768)=true:=by rw [decide_eq_true_eq];exact r1
     by_cases r2:loc+L<=32768
     · have e2:decide (loc+L<=32768)=true:=by rw [decide_eq_true_eq];exact r2
       have hff:=hyes _ hf.out ⟨N,_,rfl,hokh.out r1 r2⟩
       clear r1 r2 hyes hno;go_wp2_with fail
       first | exact hff | (go_ret;exact hff)
     · have e2:decide (loc+L<=32768)=false:=by rw [decide_eq_false_iff_not];exact r2
       have hff:=hno _ hf.out
       clear r1 r2 hyes hno;go_wp2_with fail
       first | exact hff | (go_ret;exact hff)
   · have e1:decide (base+C<=32768)=false:=by rw [decide_eq_false_iff_not];exact r1
     have hff:=hno _ hf.out
     clear r1 hyes hno;go_wp2_with fail
     first | exact hff | (go_ret;exact hff)
theorem results_cell1 {fn:Func}{p:Tmp}{ty:TypeId}(h:fn.results=#[.cell p ty])(tmps:Array Value)(P:Program)(w:World) :
  (results fn tmps).run P w=((asAddr (tmps.getD p undef)).run P w).andThen fun a w1=>(loadVar ty a).run P w1:=by
 simp only [results,h]
 simp [Sem.run_bind,Result.andThen]
theorem there_blk {w:World}{b:Nat}{cs:Array Value}{t:TypeId}(h:w.heap[b]?=some (.cells cs t (0,0))):w.there b 0 cs.size:=fun j hj=>by
 rw [Nat.zero_add]
 exact⟨by rw [cell_of_heap h];simp [hj],by simp [World.frozen?,h]⟩
@[go_sem] theorem build_thing4 (x:Int) (w:World):(Instr.build 65 #[(4,V Z x)]).run Tryz.prog w=.ok (.agg #[V Z 0,V Z 0,V Z 0,V Z 0,V Z x,V Z 0,V Z 0,V Z 0]) w:=run_build w 65 _ _ (by kernel_rfl)
@[go_sem] theorem build_obj35 (x a b c d e f g h:Int) (w:World):(Instr.build 69 #[(0,.agg #[V Z 0,V Z 0,V Z 0,V Z 0,V Z x,V Z 0,V Z 0,V Z 0]),(1,.agg #[V Z a,V Z b,V Z c,V Z d,V Z e,V Z f]),(3,V Z g),(4,V Z h)]).run Tryz.prog w=.ok (.agg #[V Z 0,V Z 0,V Z 0,V Z 0,V Z x,V Z 0,V Z 0,V Z 0,V Z a,V Z b,V Z c,V Z d,V Z e,V Z f,V Z 0,V Z 0,V Z 0,V Z 0,V Z 0,V Z 0,V Z 0,V Z g,V Z h]) w:=run_build w 69 _ _ (by kernel_rfl)
set_option maxRecDepth 100000 in
theorem put_r (arg alg:Int)(N:Nat)(mode base loc room:Int)(rs:List Reg)(w:World)(hk:LkOk alg N mode 0 0 room rs) :
  Calls Tryz.prog 42 #[.agg #[V Z alg,V Z N,V Z mode,V Z base,V Z loc,V Z room],V Z arg] w fun e w'=>e=.returned (.agg #[V Z 0,V Z 0,V Z 0,V Z 0,V Z arg,V Z 0,V Z 0,V Z 0,V Z alg,V Z N,V Z mode,V Z 0,V Z 0,V Z room,V Z 0,V Z 0,V Z 0,V Z 0,V Z 0,V Z 0,V Z 0,V Z (lkC alg N rs),V Z (lkL alg rs)])/\Ext w w':=by
 have hsz:=fun w=>lksize_r alg N mode 0 0 room rs w hk.halg hk.hn.1 hk.hn.2 hk.hlay
 have b1:=Blk.new w (.cells #[V Z alg,V Z N,V Z mode,V Z 0,V Z 0,V Z room] 23)
 have hX:=(Ext.refl w).alloc (.cells #[V Z alg,V Z N,V Z mode,V Z 0,V Z 0,V Z room] 23)
 replace b1:=b1.alloc (.cells #[V Z 0,V Z 0,V Z 0,V Z 0,V Z 0,V Z 0,V Z 0,V Z 0,V Z 0,V Z 0,V Z 0,V Z 0,V Z 0,V Z 0,V Z 0,V Z 0,V Z 0,V Z 0,V Z 0,V Z 0,V Z 0,V Z 0,V Z 0] 69)
 have b2:=Blk.new (w.alloc (.cells #[V Z alg,V Z N,V Z mode,V Z 0,V Z 0,V Z room] 23)) (.cells #[V Z 0,V Z 0,V Z 0,V Z 0,V Z 0,V Z 0,V Z 0,V Z 0,V Z 0,V Z 0,V Z 0,V Z 0,V Z 0,V Z 0,V Z 0,V Z 0,V Z 0,V Z 0,V Z 0,V Z 0,V Z 0,V Z 0,V Z 0] 69)
 replace hX:=hX.alloc (.cells #[V Z 0,V Z 0,V Z 0,V Z 0,V Z 0,V Z 0,V Z 0,V Z 0,V Z 0,V Z 0,V Z 0,V Z 0,V Z 0,V Z 0,V Z 0,V Z 0,V Z 0,V Z 0,V Z 0,V Z 0,V Z 0,V Z 0,V Z 0] 69)
 simp only [World.size_alloc] at b2
 clear hk
 generalize lkC alg N rs=C at *
 generalize lkL alg rs=L at *
 go_enter Tryz.func42,Tryz.ntmps42
 go_wp2_with fail
 generalize (World.alloc w (.cells #[V Z alg,V Z N,V Z mode,V Z 0,V Z 0,V Z room] 23)).alloc (.cells #[V Z 0,V Z 0,V Z 0,V Z 0,V Z 0,V Z 0,V Z 0,V Z 0,V Z 0,V Z 0,V Z 0,V Z 0,V Z 0,V Z 0,V Z 0,V Z 0,V Z 0,V Z 0,V Z 0,V Z 0,V Z 0,V Z 0,V Z 0] 69)=W at *
 refine (hsz _).mono ?_
 rintro e w1 ⟨rfl,hx⟩
 have c_b1:=(b1.ext hx).cells
 replace b2:=b2.ext hx;replace hX:=hX.trans hx;clear hx b1 hsz
 go_upto_region 4 with fail
 refine wp_region_lit ?_
 refine wpList_plain rfl fun K hK=>?_
 unfold Oper.wp execOp
 go_simp
 refine hK _ _ ?_
 clear hK K
 refine wpList_plain rfl fun K hK=>?_
 unfold Oper.wp execOp
 go_simp
 refine hK _ _ ?_
 clear hK K
 refine wpList_plain rfl fun K hK=>?_
 unfold Oper.wp execOp
 go_simp
 refine hK _ _ ?_
 clear hK K
 refine wpList_plain rfl fun K hK=>?_
 unfold Oper.wp execOp
 go_simp
 refine hK _ _ ?_
 clear hK K
 refine wpList_plain rfl fun K hK=>?_
 unfold Oper.wp execOp
 go_simp
 refine hK _ _ ?_
 clear hK K
 refine wpList_plain rfl fun K hK=>?_
 unfold Oper.wp execOp
 go_simp
 refine hK _ _ ?_
 clear hK K
 obtain⟨OL,hOL⟩:∃ OL:List Value,OL=[V Z 0,V Z 0,V Z 0,V Z 0,V Z arg,V Z 0,V Z 0,V Z 0,V Z alg,V Z N,V Z mode,V Z 0,V Z 0,V Z room,V Z 0,V Z 0,V Z 0,V Z 0,V Z 0,V Z 0,V Z 0,V Z C,V Z L]:=⟨_,rfl⟩
 have hst:=there_blk b2
 refine wpList_store_mid rfl _ _ _ rfl (w.heap.size+1) 0 OL.toArray rfl (by rw [hOL];rfl) (by rw [hOL];exact hst) (by rw [hOL];kernel_rfl) (by rw [hOL];kernel_rfl) ?_
 have hz:=heap_setCells_all b2 OL (by rw [hOL];rfl)
 have hXs:=hX.setCells (Nat.le_succ w.heap.size) OL 0
 clear hst b2 hX c_b1
 generalize w1.setCells _ _ _=W6 at *
 refine wpList_nil ?_
 have hld:(loadVar 69 ⟨w.heap.size+1,0,none⟩).run Tryz.prog W6=.ok (.agg OL.toArray) W6:=run_loadVar_row _ _ _ _ _ _ _ hz Tryz.underlying69 rfl (by rw [hOL];kernel_rfl)
 rename_i hKK
 refine hKK _ _ ?_
 clear hKK
 refine wp_ret ?_
 refine bodyPost_ret (v:=.agg OL.toArray) ?_ rfl ⟨by rw [hOL],hXs⟩
 rw [results_cell1 (p:=4) (ty:=69) rfl]
 simp [asAddr,Result.andThen,hld,Act.put]
set_option maxRecDepth 100000 in
theorem may35_r (alg N0 mode base loc room:Int)(w:World):Calls Tryz.prog 40 #[.agg #[V Z alg,V Z N0,V Z mode,V Z base,V Z loc,V Z room]] w fun e w'=>(∃ b,e=.returned (.bool b)/\(b=true->∃ (N:Nat) (rs:List Reg),N0=N/\LkOk alg N mode 0 0 room rs/\N<=4/\¬ (N=1/\mode=2)/\(mode=1∨N<=2)))/\Ext w w':=by
 generalize hR:(fun (e:Ending) (w':World)=>(∃ b,e=.returned (.bool b)/\(b=true->∃ (N:Nat) (rs:List Reg),N0=N/\LkOk alg N mode 0 0 room rs/\N<=4/\¬ (N=1/\mode=2)/\(mode=1∨N<=2)))/\Ext w w')=R
 have hno:∀ w',Ext w w'->R (.returned (.bool false)) w':=fun w' h=>hR▸⟨⟨false,rfl,fun h=>by cases h⟩,h⟩
 have hyes:∀ w',Ext w w'->(∃ (N:Nat) (rs:List Reg),N0=N/\LkOk alg N mode 0 0 room rs/\N<=4/\¬ (N=1/\mode=2)/\(mode=1∨N<=2))->R (.returned (.bool true)) w':=fun w' h k=>hR▸⟨⟨true,rfl,fun _=>k⟩,h⟩
 clear hR
 have hf:=fun w=>lkfine_r alg N0 mode 0 0 room w
 have b1:=Blk.new w (.cells #[V Z alg,V Z N0,V Z mode,V Z 0,V Z 0,V Z room] 23)
 have hX:=(Ext.refl w).alloc (.cells #[V Z alg,V Z N0,V Z mode,V Z 0,V Z 0,V Z room] 23)
 go_enter Tryz.func40,Tryz.ntmps40
 go_wp2_with fail
 generalize World.alloc w _=W at *
 refine (hf _).mono ?_
 rintro e w1 ⟨⟨b,rfl,hb⟩,hx⟩
 have c_b1:=(b1.ext hx).cells
 replace hX:=hX.trans hx;clear hx b1 hf
 cases b with
 | false =>
   have hf:=hno _ hX
   clear hno hyes hb;go_wp2_with fail
   first | exact hf | (go_ret;exact hf)
 | true =>
   obtain⟨N,rs,rfl,hk⟩:=hb rfl
   clear hb
   by_cases n4:N<=4
   rotate_left
   · have d4:decide ((N:Int)<=4)=false:=by rw [decide_eq_false_iff_not];omega
     have hf:=hno _ hX
     clear hno hyes hk n4;go_wp2_with fail
     first | exact hf | (go_ret;exact hf)
   have d4:decide ((N:Int)<=4)=true:=by rw [decide_eq_true_eq];omega
   have hm:=hk.hmode
   by_cases m1:mode=1
   · have dm:(mode==1)=true:=by rw [beq_iff_eq];exact m1
     have hf:=hyes _ hX ⟨N,rs,rfl,hk,n4,fun h=>by omega,.inl m1⟩
     clear hno hyes n4 m1 hm;have hn:=hk.hn.1;clear hk
     have d1:decide ((1:Int)<(N:Int))=true∨decide ((1:Int)<(N:Int))=false:=by cases decide ((1:Int)<(N:Int)) <;> simp
     have d3:decide ((N:Int)<3)=true∨decide ((N:Int)<3)=false:=by cases decide ((N:Int)<3) <;> simp
     rcases d1 with d1 | d1 <;> rcases d3 with d3 | d3
     all_goals
      go_wp2_with fail
      first | exact hf | (go_ret;exact hf)
   · have dm:(mode==1)=false:=by rw [beq_eq_false_iff_ne];exact m1
     by_cases n1:1<N
     rotate_left
     · have d1:decide ((1:Int)<(N:Int))=false:=by rw [decide_eq_false_iff_not];omega
       have hf:=hno _ hX
       clear hno hyes hk n4 m1 hm n1;go_wp2_with fail
       first | exact hf | (go_ret;exact hf)
     have d1:decide ((1:Int)<(N:Int))=true:=by rw [decide_eq_true_eq];omega
     by_cases n3:N<3
     · have d3:decide ((N:Int)<3)=true:=by rw [decide_eq_true_eq];omega
       have hf:=hyes _ hX ⟨N,rs,rfl,hk,n4,fun h=>by omega,.inr (by omega)⟩
       clear hno hyes hk n4 m1 hm n1 n3;go_wp2_with fail
       first | exact hf | (go_ret;exact hf)
     · have d3:decide ((N:Int)<3)=false:=by rw [decide_eq_false_iff_not];omega
       have hf:=hno _ hX
       clear hno hyes hk n4 m1 hm n1 n3;go_wp2_with fail
       first | exact hf | (go_ret;exact hf)
theorem told35 (B p:Nat)(o:Bool)(S:TS)(e:Int)(w:World)(h:RAt B w p o S):Calls Tryz.prog 58 #[.pointer (some ⟨p,0,none⟩),V Z e] w fun r w'=>r=.returned (V Z (if o=true then 0 else e))/\Ext w w':=by
 obtain⟨_,_,_,_,_,hcc⟩:=h.cell
 cases o with
 | true =>
   go_enter Tryz.func58,Tryz.ntmps58
   go_wp2_with fail
   go_ret
   exact⟨rfl,Ext.refl _⟩
 | false =>
   go_enter Tryz.func58,Tryz.ntmps58
   go_wp2_with fail
   go_ret
   exact⟨rfl,Ext.refl _⟩
end Go.Proofs.YtbaajjkopdjbgaaGreat
namespace Kv
def zeros (n:Nat):List Int:=List.replicate n 0
end Kv
namespace Go.Proofs.YtbaajjkopdjbgaaGreat
open Go.RowKit Kv
theorem make_ints (l:Int)(k:Nat)(hl:l=k)(hk:k<=100000)(w:World) :
  (Instr.makeSlice 25 (V Z l) (V Z l)).run Tryz.prog w=.ok (.slice (some ⟨w.heap.size,0,none⟩) k k) (w.alloc (.cells ((zeros k).map (V Z)).toArray 3)):=by
 subst hl
 obtain⟨i0,hi,hz0,hz1,hz2⟩:=info_parts info_int
 have hr:=run_makeSlice (P:=Tryz.prog) w 25 3 i0 (V Z 0) Tryz.underlying25 hi hz0 .i64 .i64 k k (by omega) (by omega) (by rw [hz1];simp;omega) (by rw [hz2];omega) (by omega)
 rw [Int.toNat_natCast,hz1,Nat.mul_one] at hr
 have he:madeCells (V Z 0).cells k=((zeros k).map (V Z)).toArray:=by
  unfold zeros madeCells
  apply Array.ext'
  rw [List.map_replicate]
  apply List.ext_getElem?
  intro j
  by_cases hj:j<k
  · simp [hj,Nat.mod_one,Value.cells]
  · simp [hj]
 rw [hr,he]
theorem use35:LkUse 2 1 1 0 0 1 [] 0:=⟨⟨by decide,by decide,by decide,by decide,by decide,by decide,fun h=>absurd h (by decide),by decide,by decide⟩,by decide,by decide⟩
def rtailA (c:Int):Prog Int:=(rd (c+3)).bind fun t=>(wr (c+3) (wrap64 (t+1))).bind fun _=>.ret t
theorem rtailA_bind {β:Type}(c:Int)(f:Int->Prog β):(rtailA c).bind f=(rd (c+3)).bind fun t=>(wr (c+3) (wrap64 (t+1))).bind fun _=>f t:=by
 unfold rtailA
 simp only [Prog.bind_assoc]
 rfl
theorem rtailA_notes (c:Int):(rtailA c).Notes 0:=(notes_rd _).bind0 fun _=>(notes_wr _ _).bind0 fun _=>.ret _ _
def rmark (w:Bool):Int:=if w=true then 2 else 1
def rgetA (c t n:Int) (w:Bool):Prog Bool:=(if w=true then wr (c+1) 1 else wr c (wrap64 (n+1))).bind fun _=>(wr (c+2) (wrap64 (t+1))).bind fun _=>.ret true
def rturnA (c t:Int) (w:Bool):Prog Bool:=(rd (c+2)).bind fun h=>if h=t then (rd (c+1)).bind fun x=>if x=0 then (rd c).bind fun n=>if w=true/\n≠0 then .ret false else rgetA c t n w else .ret false else .ret false
theorem rgetA_notes (c t n:Int)(w:Bool):(rgetA c t n w).Notes 0:=by
 unfold rgetA
 refine Prog.Notes.bind0 ?_ fun _=>(notes_wr _ _).bind0 fun _=>.ret _ _
 split <;> exact notes_wr _ _
theorem rturnA_notes (c t:Int)(w:Bool):(rturnA c t w).Notes 0:=by
 refine (notes_rd _).bind0 fun h=>?_
 split
 · refine (notes_rd _).bind0 fun x=>?_
   split
   · refine (notes_rd _).bind0 fun n=>?_
     split
     · exact .ret _ _
     · exact rgetA_notes _ _ _ _
   · exact .ret _ _
 · exact .ret _ _
theorem rturnA_asks (c t:Int)(w:Bool):(rturnA c t w).Asks:=(asks_rd _).bind _
def rwaitA (I U:Prog Unit) (c t:Int) (w:Bool):Nat->Prog Unit
 | 0=>.ret ()
 | n+1=>(insideA I U (rturnA c t w)).bind fun g=>if g=true then .ret () else rwaitA I U c t w n
def rlockA (I U:Prog Unit) (c l:Int) (w:Bool) (n:Nat):Prog Int:=(gt l).bind fun g=>if g=0 then (insideA I U (rtailA c)).bind fun t=>(rwaitA I U c t w n).bind fun _=>(st l (rmark w)).bind fun _=>.ret 0 else .ret 10
def rlowA (c:Int) (w:Bool):Prog Unit:=if w=true then wr (c+1) 0 else (rd c).bind fun x=>wr c (max (x-1) 0)
theorem rlowA_notes (c:Int)(w:Bool):(rlowA c w).Notes 0:=by
 unfold rlowA
 split
 · exact notes_wr _ _
 · exact (notes_rd _).bind0 fun _=>notes_wr _ _
def runlockA (I U:Prog Unit) (c l:Int) (w:Bool):Prog Int:=(gt l).bind fun g=>if g=rmark w then (insideA I U (rlowA c w)).bind fun _=>(st l 0).bind fun _=>.ret 0 else .ret 9
def encT (x:Int × Bool):Value:=.tuple #[V Z x.1,.bool x.2]
set_option maxRecDepth 100000 in
theorem rinside_p (Q:Prog (Int × Bool))(K0:World->Prop)(F:FuncId)(caps:Array Value)(hcf:∀ (args:Array Value) (w:World),(callFunc F args).run Tryz.prog w=.ok (.enter F args) w)
  (B p N D:Nat)(S:TS)(arg alg mode base loc room c l:Int)(m:Nat)(rs:List Reg)(w:World)(h:Plays B w p S)(h0:K0 w)
  (hK0:∀ W W',KeepP B p W W'->K0 W->K0 W')
  (hk:LkUse alg N mode base loc room rs m)(hta:TameA S)(hD:S.left<D)(hn0:S.nts.length+10*S.left<=90000)(hQn:Q.Notes 0)
  (hdo:∀ S1 W,Plays B W p S1->K0 W->TameA S1->Calls Tryz.prog F caps W (Post encT B p W (Q.run S1))) :
  Calls Tryz.prog 156 #[.pointer (some ⟨p,0,none⟩),.agg #[V Z 0,V Z 0,V Z 0,V Z 0,V Z arg,V Z 0,V Z 0,V Z 0,V Z alg,V Z N,V Z mode,V Z base,V Z loc,V Z room,V Z 0,V Z 0,V Z 0,V Z 0,V Z 0,V Z 0,V Z 0,V Z c,V Z l],V Z m,.func (.func F) #[] caps] w (Post encT B p w ((insideA (inA (lkA D alg N base loc room rs m) D) (lkR alg N base loc rs m) Q).run S)):=by
 generalize hR:Post encT B p w ((insideA (inA (lkA D alg N base loc room rs m) D) (lkR alg N base loc rs m) Q).run S)=R
 have hO:Owes R encT B p w ((insideA (inA (lkA D alg N base loc room rs m) D) (lkR alg N base loc rs m) Q).run S):=hR▸owes _ _ _ _ _
 clear hR
 obtain⟨b1,hK,hP⟩:=h.entry (.cells #[V Z 0,V Z 0,V Z 0,V Z 0,V Z arg,V Z 0,V Z 0,V Z 0,V Z alg,V Z N,V Z mode,V Z base,V Z loc,V Z room,V Z 0,V Z 0,V Z 0,V Z 0,V Z 0,V Z 0,V Z 0,V Z c,V Z l] 69)
 have c_b1:=b1.cells;clear h
 have hin:=Hd fun S w hP hta hD hn=>in_p B p N D S alg mode base loc room m rs w hP hk hta hD hn
 have hout:=Hd fun S w hP hn=>out_p B p N S alg mode base loc room m rs w hP hk hn
 have hpay:=Hd (lkA_pays D alg N base loc room rs m D)
 unfold insideA at hO
 generalize inA (lkA D alg N base loc room rs m) D=I at *
 generalize lkR alg N base loc rs m=U at *
 have h0':=Hd (hK0 _ _ hK h0)
 have hOh:=Hd hO
 have hdoh:=Hd hdo
 clear hO h0 hdo
 go_enter Tryz.func156,Tryz.ntmps156
 go_wp2_with fail
 refine tstep hOh.out hK (hin.out S _ hP hta hD hn0) (fun _ h=>⟨rfl,h⟩) ?_
 clear hOh hK;intro u S1 w1 hr hP1 hk1 hK hO
 have hpy:=hpay.out S _ S1 hr hP1.1
 have h0:=Hd (hK0 _ _ hk1 h0'.out)
 replace b1:=b1.keep hk1;replace hta:=hta.run hr;have hOh:=Hd hO;clear hO hr hk1 c_b1 hin hpay hP h0';have c_b1:=b1.cells;go_wp2_with fail
 refine tstep hOh.out hK (hdoh.out S1 _ hP1 h0.out hta) (fun _ h=>⟨rfl,h⟩) ?_
 clear hOh hK hP1;intro v S2 w2 hr hP2 hk2 hK hO
 obtain⟨v1,v2⟩:=v
 replace b1:=b1.keep hk2
 have hn2:=hQn.run S1
 rw [hr] at hn2
 simp only at hn2
 have hOh:=Hd hO;clear hO hr hk2 c_b1 hdoh h0;have c_b1:=b1.cells
 rw [show encT (v1,v2)=.tuple #[V Z v1,.bool v2] from rfl]
 go_wp2_with fail
 refine tstep hOh.out hK (hout.out S2 _ hP2 (by omega)) (fun _ h=>⟨rfl,h⟩) ?_
 clear hOh hK hP2;intro u3 S3 w3 hr hP3 hk3 hK hO
 have hf:R (.returned (.tuple #[V Z v1,.bool v2])) w3:=hO.done (v:=(v1,v2)) hP3 hK
 clear hO hr hk3 hP3 hK c_b1 b1;go_wp2_with fail
 exact hf
theorem inside_map {α β γ:Type}(I U:Prog Unit)(Q:Prog α)(g:α->β)(f:β->Prog γ):(insideA I U (Q.bind fun x=>.ret (g x))).bind f=(insideA I U Q).bind fun x=>f (g x):=by
 rw [insideA_bind,insideA_bind]
 congr 1
 funext _
 rw [Prog.bind_assoc]
 rfl
def rtailT (c:Int):Prog (Int × Bool):=(rtailA c).bind fun t=>.ret (t,true)
def rturnT (c t:Int) (w:Bool):Prog (Int × Bool):=(rturnA c t w).bind fun g=>.ret (t,g)
def rlowT (c:Int) (w:Bool):Prog (Int × Bool):=(rlowA c w).bind fun _=>.ret (0,true)
theorem rtailT_notes (c:Int):(rtailT c).Notes 0:=(rtailA_notes c).bind0 fun _=>.ret _ _
theorem rturnT_notes (c t:Int)(w:Bool):(rturnT c t w).Notes 0:=(rturnA_notes c t w).bind0 fun _=>.ret _ _
theorem rlowT_notes (c:Int)(w:Bool):(rlowT c w).Notes 0:=(rlowA_notes c w).bind0 fun _=>.ret _ _
set_option maxRecDepth 100000 in
theorem rlock1_p (B p:Nat)(S:TS)(bm bo:Nat)(arg alg:Int)(N:Nat)(mode base loc room c l:Int)(w:World)(h:Plays B w p S)(hc:0<=c/\c<=40000)(hm:HeldP w p bm (.cells #[.pointer (some ⟨p,0,none⟩)] 33))(ho:HeldP w p bo (.cells #[V Z 0,V Z 0,V Z 0,V Z 0,V Z arg,V Z 0,V Z 0,V Z 0,V Z alg,V Z N,V Z mode,V Z base,V Z loc,V Z room,V Z 0,V Z 0,V Z 0,V Z 0,V Z 0,V Z 0,V Z 0,V Z c,V Z l] 69)) :
  Calls Tryz.prog 157 #[.pointer (some ⟨bm,0,none⟩),.pointer (some ⟨bo,0,none⟩)] w (Post encT B p w ((rtailT c).run S)):=by
 generalize hR:Post encT B p w ((rtailT c).run S)=R
 have hO:Owes R encT B p w ((rtailT c).run S):=hR▸owes _ _ _ _ _
 clear hR
 have hK:=Keep.refl [2,3,4] B p w
 have c_hm:=hm.cells;have c_ho:=ho.cells;have hP:=h;clear h
 have hw3:=IntWalk.i64_in (c+3) (by omega)
 unfold rtailT at hO;rw [rtailA_bind] at hO;have hOh:=Hd hO;clear hO
 go_enter Tryz.func157,Tryz.ntmps157
 go_wp2_with fail
 refine tstepA (notes_rd _) hOh.out hK (read_p B p S _ _ hP) (fun _ h=>⟨rfl,h⟩) ?_
 clear hOh hK hP;intro t S1 w1 hrun hlf hla hnn hP hk1 hK hO;replace hm:=hm.keep hk1;replace ho:=ho.keep hk1;clear hk1 hrun hlf hla hnn;clear c_hm c_ho;have c_hm:=hm.cells;have c_ho:=ho.cells
 obtain⟨t1,ht1⟩:∃ y,wrap64 (t+1)=y:=⟨_,rfl⟩
 have hwt:IntKind.i64.wrap (t+1)=t1:=by rw [<- ht1,IntKind.wrap_i64];unfold wrap64;omega
 rw [ht1] at hO;clear ht1;have hOh:=Hd hO;clear hO;go_wp2_with fail
 refine tstepA (notes_wr _ _) hOh.out hK (write_p B p S1 _ _ _ hP) (fun _ h=>⟨rfl,h⟩) ?_
 clear hOh hK hP;intro u S2 w2 hrun hlf hla hnn hP hk1 hK hO;replace hm:=hm.keep hk1;replace ho:=ho.keep hk1;clear hk1 hrun hlf hla hnn;clear c_hm c_ho;have c_hm:=hm.cells;have c_ho:=ho.cells
 have hf:R (.returned (.tuple #[V Z t,.bool true])) _:=hO.done (v:=(t,true)) hP hK
 clear hO hP hK hm ho;go_wp2_with fail
 first | with_reducible exact hf | exact hf | (go_ret2;exact hf)
set_option maxRecDepth 100000 in
theorem renterT_p (B p:Nat)(S:TS)(t:Int)(arg alg:Int)(N:Nat)(mode base loc room c l:Int)(w:World)(h:Plays B w p S)(hc:0<=c/\c<=40000) :
  Calls Tryz.prog 159 #[.pointer (some ⟨p,0,none⟩),.agg #[V Z 0,V Z 0,V Z 0,V Z 0,V Z arg,V Z 0,V Z 0,V Z 0,V Z alg,V Z N,V Z mode,V Z base,V Z loc,V Z room,V Z 0,V Z 0,V Z 0,V Z 0,V Z 0,V Z 0,V Z 0,V Z c,V Z l],V Z t,.bool true] w (Post encB B p w ((rturnA c t true).run S)):=by
 generalize hR:Post encB B p w ((rturnA c t true).run S)=R
 have hO:Owes R encB B p w ((rturnA c t true).run S):=hR▸owes _ _ _ _ _
 clear hR
 obtain⟨b1,hK,hP⟩:=h.entry (.cells #[V Z 0,V Z 0,V Z 0,V Z 0,V Z arg,V Z 0,V Z 0,V Z 0,V Z alg,V Z N,V Z mode,V Z base,V Z loc,V Z room,V Z 0,V Z 0,V Z 0,V Z 0,V Z 0,V Z 0,V Z 0,V Z c,V Z l] 69)
 have c_b1:=b1.cells;clear h
 have hw0:=IntWalk.i64_in (c+0) (by omega)
 have hwc:=IntWalk.i64_in c (by omega)
 have hw1:=IntWalk.i64_in (c+1) (by omega)
 have hw2:=IntWalk.i64_in (c+2) (by omega)
 obtain⟨t1,ht1⟩:∃ y,wrap64 (t+1)=y:=⟨_,rfl⟩
 have hwt:IntKind.i64.wrap (t+1)=t1:=by rw [<- ht1,IntKind.wrap_i64];unfold wrap64;omega
 unfold rturnA at hO;have hOh:=Hd hO;clear hO
 go_enter Tryz.func159,Tryz.ntmps159
 go_wp2_with fail
 refine tstepA (notes_rd _) hOh.out hK (read_p B p S _ _ hP) (fun _ h=>⟨rfl,h⟩) ?_
 clear hOh hK hP;intro hd S1 w1 hrun hlf hla hnn hP hk1 hK hO;replace b1:=b1.keep hk1;clear hk1 hrun hlf hla hnn;clear c_b1;have c_b1:=b1.cells
 by_cases he:hd=t
 rotate_left
 · have de:(hd != t)=true:=by rw [bne_iff_ne];exact he
   rw [if_neg he] at hO;clear he
   have hf:=hO.done hP hK
   clear hO hP hK b1 c_b1;go_wp2_with fail
   first | with_reducible exact hf | (go_simp;exact hf) | (go_ret;exact hf) | (go_ret2;exact hf)
 have de:(hd != t)=false:=by simpa using he
 have de2:(hd==t)=true:=by rw [beq_iff_eq];exact he
 rw [if_pos he] at hO;clear he;have hOh:=Hd hO;clear hO;go_wp2_with fail
 refine tstepA (notes_rd _) hOh.out hK (read_p B p S1 _ _ hP) (fun _ h=>⟨rfl,h⟩) ?_
 clear hOh hK hP;intro x S2 w2 hrun hlf hla hnn hP hk1 hK hO;replace b1:=b1.keep hk1;clear hk1 hrun hlf hla hnn;clear c_b1;have c_b1:=b1.cells
 by_cases hx:x=0
 rotate_left
 · have dx:(x != 0)=true:=by rw [bne_iff_ne];exact hx
   rw [if_neg hx] at hO;clear hx
   have hf:=hO.done hP hK
   clear hO hP hK b1 c_b1;go_wp2_with fail
   first | with_reducible exact hf | (go_simp;exact hf) | (go_ret;exact hf) | (go_ret2;exact hf)
 have dx:(x != 0)=false:=by simpa using hx
 have dx2:(x==0)=true:=by rw [beq_iff_eq];exact hx
 rw [if_pos hx] at hO;clear hx;have hOh:=Hd hO;clear hO;go_wp2_with fail
 refine tstepA (notes_rd _) hOh.out hK (read_p B p S2 _ _ hP) (fun _ h=>⟨rfl,h⟩) ?_
 clear hOh hK hP;intro n S3 w3 hrun hlf hla hnn hP hk1 hK hO;replace b1:=b1.keep hk1;clear hk1 hrun hlf hla hnn;clear c_b1;have c_b1:=b1.cells
 by_cases hn:n=0
 rotate_left
 · have dn:(n != 0)=true:=by rw [bne_iff_ne];exact hn
   rw [if_pos ⟨by trivial,hn⟩] at hO
   clear hn
   have hf:=hO.done hP hK
   clear hO hP hK b1 c_b1;go_wp2_with fail
   first | with_reducible exact hf | (go_simp;exact hf) | (go_ret;exact hf) | (go_ret2;exact hf)
 have dn:(n != 0)=false:=by simpa using hn
 rw [if_neg (fun h=>h.2 hn)] at hO
 clear hn;unfold rgetA at hO;rw [if_pos rfl,ht1] at hO;clear ht1;have hOh:=Hd hO;clear hO;go_wp2_with fail
 refine tstepA (notes_wr _ _) hOh.out hK (write_p B p S3 _ _ _ hP) (fun _ h=>⟨rfl,h⟩) ?_
 clear hOh hK hP;intro u S4 w4 hrun hlf hla hnn hP hk1 hK hO;replace b1:=b1.keep hk1;clear hk1 hrun hlf hla hnn;clear c_b1;have c_b1:=b1.cells;have hOh:=Hd hO;clear hO;go_wp2_with fail
 refine tstepA (notes_wr _ _) hOh.out hK (write_p B p S4 _ _ _ hP) (fun _ h=>⟨rfl,h⟩) ?_
 clear hOh hK hP;intro u S5 w5 hrun hlf hla hnn hP hk1 hK hO;replace b1:=b1.keep hk1;clear hk1 hrun hlf hla hnn;clear c_b1;have c_b1:=b1.cells
 have hf:=hO.done hP hK
 clear hO hP hK b1 c_b1;go_wp2_with fail
 first | with_reducible exact hf | (go_simp;exact hf) | (go_ret;exact hf) | (go_ret2;exact hf)
set_option maxRecDepth 100000 in
theorem renterF_p (B p:Nat)(S:TS)(t:Int)(arg alg:Int)(N:Nat)(mode base loc room c l:Int)(w:World)(h:Plays B w p S)(hc:0<=c/\c<=40000) :
  Calls Tryz.prog 159 #[.pointer (some ⟨p,0,none⟩),.agg #[V Z 0,V Z 0,V Z 0,V Z 0,V Z arg,V Z 0,V Z 0,V Z 0,V Z alg,V Z N,V Z mode,V Z base,V Z loc,V Z room,V Z 0,V Z 0,V Z 0,V Z 0,V Z 0,V Z 0,V Z 0,V Z c,V Z l],V Z t,.bool false] w (Post encB B p w ((rturnA c t false).run S)):=by
 generalize hR:Post encB B p w ((rturnA c t false).run S)=R
 have hO:Owes R encB B p w ((rturnA c t false).run S):=hR▸owes _ _ _ _ _
 clear hR
 obtain⟨b1,hK,hP⟩:=h.entry (.cells #[V Z 0,V Z 0,V Z 0,V Z 0,V Z arg,V Z 0,V Z 0,V Z 0,V Z alg,V Z N,V Z mode,V Z base,V Z loc,V Z room,V Z 0,V Z 0,V Z 0,V Z 0,V Z 0,V Z 0,V Z 0,V Z c,V Z l] 69)
 have c_b1:=b1.cells;clear h
 have hw0:=IntWalk.i64_in (c+0) (by omega)
 have hwc:=IntWalk.i64_in c (by omega)
 have hw1:=IntWalk.i64_in (c+1) (by omega)
 have hw2:=IntWalk.i64_in (c+2) (by omega)
 obtain⟨t1,ht1⟩:∃ y,wrap64 (t+1)=y:=⟨_,rfl⟩
 have hwt:IntKind.i64.wrap (t+1)=t1:=by rw [<- ht1,IntKind.wrap_i64];unfold wrap64;omega
 unfold rturnA at hO;have hOh:=Hd hO;clear hO
 go_enter Tryz.func159,Tryz.ntmps159
 go_wp2_with fail
 refine tstepA (notes_rd _) hOh.out hK (read_p B p S _ _ hP) (fun _ h=>⟨rfl,h⟩) ?_
 clear hOh hK hP;intro hd S1 w1 hrun hlf hla hnn hP hk1 hK hO;replace b1:=b1.keep hk1;clear hk1 hrun hlf hla hnn;clear c_b1;have c_b1:=b1.cells
 by_cases he:hd=t
 rotate_left
 · have de:(hd != t)=true:=by rw [bne_iff_ne];exact he
   rw [if_neg he] at hO;clear he
   have hf:=hO.done hP hK
   clear hO hP hK b1 c_b1;go_wp2_with fail
   first | with_reducible exact hf | (go_simp;exact hf) | (go_ret;exact hf) | (go_ret2;exact hf)
 have de:(hd != t)=false:=by simpa using he
 have de2:(hd==t)=true:=by rw [beq_iff_eq];exact he
 rw [if_pos he] at hO;clear he;have hOh:=Hd hO;clear hO;go_wp2_with fail
 refine tstepA (notes_rd _) hOh.out hK (read_p B p S1 _ _ hP) (fun _ h=>⟨rfl,h⟩) ?_
 clear hOh hK hP;intro x S2 w2 hrun hlf hla hnn hP hk1 hK hO;replace b1:=b1.keep hk1;clear hk1 hrun hlf hla hnn;clear c_b1;have c_b1:=b1.cells
 by_cases hx:x=0
 rotate_left
 · have dx:(x != 0)=true:=by rw [bne_iff_ne];exact hx
   rw [if_neg hx] at hO;clear hx
   have hf:=hO.done hP hK
   clear hO hP hK b1 c_b1;go_wp2_with fail
   first | with_reducible exact hf | (go_simp;exact hf) | (go_ret;exact hf) | (go_ret2;exact hf)
 have dx:(x != 0)=false:=by simpa using hx
 have dx2:(x==0)=true:=by rw [beq_iff_eq];exact hx
 rw [if_pos hx] at hO;clear hx;have hOh:=Hd hO;clear hO;go_wp2_with fail
 refine tstepA (notes_rd _) hOh.out hK (read_p B p S2 _ _ hP) (fun _ h=>⟨rfl,h⟩) ?_
 clear hOh hK hP;intro n S3 w3 hrun hlf hla hnn hP hk1 hK hO;replace b1:=b1.keep hk1;clear hk1 hrun hlf hla hnn;clear c_b1;have c_b1:=b1.cells
 rw [if_neg (fun h=>absurd h.1 (by decide))] at hO
 unfold rgetA at hO
 rw [if_neg (by decide),ht1] at hO
 clear ht1
 obtain⟨n1,hn1⟩:∃ y,wrap64 (n+1)=y:=⟨_,rfl⟩
 have hwn:IntKind.i64.wrap (n+1)=n1:=by rw [<- hn1,IntKind.wrap_i64];unfold wrap64;omega
 rw [hn1] at hO;clear hn1;have hOh:=Hd hO;clear hO;go_wp2_with fail
 refine tstepA (notes_wr _ _) hOh.out hK (write_p B p S3 _ _ _ hP) (fun _ h=>⟨rfl,h⟩) ?_
 clear hOh hK hP;intro u S4 w4 hrun hlf hla hnn hP hk1 hK hO;replace b1:=b1.keep hk1;clear hk1 hrun hlf hla hnn;clear c_b1;have c_b1:=b1.cells;have hOh:=Hd hO;clear hO;go_wp2_with fail
 refine tstepA (notes_wr _ _) hOh.out hK (write_p B p S4 _ _ _ hP) (fun _ h=>⟨rfl,h⟩) ?_
 clear hOh hK hP;intro u S5 w5 hrun hlf hla hnn hP hk1 hK hO;replace b1:=b1.keep hk1;clear hk1 hrun hlf hla hnn;clear c_b1;have c_b1:=b1.cells
 have hf:=hO.done hP hK
 clear hO hP hK b1 c_b1;go_wp2_with fail
 first | with_reducible exact hf | (go_simp;exact hf) | (go_ret;exact hf) | (go_ret2;exact hf)
theorem renter_p (B p:Nat)(S:TS)(t:Int)(wb:Bool)(arg alg:Int)(N:Nat)(mode base loc room c l:Int)(w:World)(h:Plays B w p S)(hc:0<=c/\c<=40000) :
  Calls Tryz.prog 159 #[.pointer (some ⟨p,0,none⟩),.agg #[V Z 0,V Z 0,V Z 0,V Z 0,V Z arg,V Z 0,V Z 0,V Z 0,V Z alg,V Z N,V Z mode,V Z base,V Z loc,V Z room,V Z 0,V Z 0,V Z 0,V Z 0,V Z 0,V Z 0,V Z 0,V Z c,V Z l],V Z t,.bool wb] w (Post encB B p w ((rturnA c t wb).run S)):=by
 cases wb
 · exact renterF_p B p S t arg alg N mode base loc room c l w h hc
 · exact renterT_p B p S t arg alg N mode base loc room c l w h hc
set_option maxRecDepth 100000 in
theorem rlock2_p (B p:Nat)(S:TS)(t:Int)(wb:Bool)(bt bm bo bw:Nat)(arg alg:Int)(N:Nat)(mode base loc room c l:Int)(w:World)(h:Plays B w p S)(hc:0<=c/\c<=40000)(ht:HeldP w p bt (.cells #[V Z t] 3))(hm:HeldP w p bm (.cells #[.pointer (some ⟨p,0,none⟩)] 33))(ho:HeldP w p bo (.cells #[V Z 0,V Z 0,V Z 0,V Z 0,V Z arg,V Z 0,V Z 0,V Z 0,V Z alg,V Z N,V Z mode,V Z base,V Z loc,V Z room,V Z 0,V Z 0,V Z 0,V Z 0,V Z 0,V Z 0,V Z 0,V Z c,V Z l] 69))(hw:HeldP w p bw (.cells #[.bool wb] 4)) :
  Calls Tryz.prog 158 #[.pointer (some ⟨bt,0,none⟩),.pointer (some ⟨bm,0,none⟩),.pointer (some ⟨bo,0,none⟩),.pointer (some ⟨bw,0,none⟩)] w (Post encT B p w ((rturnT c t wb).run S)):=by
 generalize hR:Post encT B p w ((rturnT c t wb).run S)=R
 have hO:Owes R encT B p w ((rturnT c t wb).run S):=hR▸owes _ _ _ _ _
 clear hR
 have hK:=Keep.refl [2,3,4] B p w
 have c_ht:=ht.cells;have c_hm:=hm.cells;have c_hw:=hw.cells;have hP:=h;clear h
 have hq:=Hd fun w hP=>renter_p B p S t wb arg alg N mode base loc room c l w hP hc
 unfold rturnT at hO
 go_enter Tryz.func158,Tryz.ntmps158
 go_upto_region 1 with fail
 replace hP:=hP.drew;replace hK:=hK.drew;replace ht:=ht.drew;replace hm:=hm.drew;replace ho:=ho.drew;replace hw:=hw.drew;clear c_ht c_hm c_hw
 have hS:∀ w',HeldP w' p bt (.cells #[V Z t] 3)->HeldP w' p bm (.cells #[.pointer (some ⟨p,0,none⟩)] 33)->HeldP w' p bw (.cells #[.bool wb] 4)->HeldP w' p bo (.cells #[V Z 0,V Z 0,V Z 0,V Z 0,V Z arg,V Z 0,V Z 0,V Z 0,V Z alg,V Z N,V Z mode,V Z base,V Z loc,V Z room,V Z 0,V Z 0,V Z 0,V Z 0,V Z 0,V Z 0,V Z 0,V Z c,V Z l] 69)->(w'.cell? ⟨bt,0,none⟩=some (V Z t)/\w'.cell? ⟨bm,0,none⟩=some (.pointer (some ⟨p,0,none⟩))/\w'.cell? ⟨bw,0,none⟩=some (.bool wb)/\w'.heap[bo]?=some (.cells #[V Z 0,V Z 0,V Z 0,V Z 0,V Z arg,V Z 0,V Z 0,V Z 0,V Z alg,V Z N,V Z mode,V Z base,V Z loc,V Z room,V Z 0,V Z 0,V Z 0,V Z 0,V Z 0,V Z 0,V Z 0,V Z c,V Z l] 69)):=fun w' h1 h2 h3 h4=>⟨h1.cells 0,h2.cells 0,h3.cells 0,h4.1⟩
 refine wp_region_held_drew (S:=fun w'=>w'.cell? ⟨bt,0,none⟩=some (V Z t)/\w'.cell? ⟨bm,0,none⟩=some (.pointer (some ⟨p,0,none⟩))/\w'.cell? ⟨bw,0,none⟩=some (.bool wb)/\w'.heap[bo]?=some (.cells #[V Z 0,V Z 0,V Z 0,V Z 0,V Z arg,V Z 0,V Z 0,V Z 0,V Z alg,V Z N,V Z mode,V Z base,V Z loc,V Z room,V Z 0,V Z 0,V Z 0,V Z 0,V Z 0,V Z 0,V Z 0,V Z c,V Z l] 69)) rfl (hS _ ht hm hw ho) (fun hHeld=>?_)
 refine tk 0 (v:=?_) rfl (by kernel_rfl) (fun _ _ _ h=>h) (by assumption) ?_ ?_
 rotate_left
 · (intro w hSw;(try dsimp only at hSw);go_simp;try with_reducible rfl)
 try simp only [put_pack]
 refine tk 1 (v:=?_) rfl (by kernel_rfl) (fun _ _ _ h=>h) (by assumption) ?_ ?_
 rotate_left
 · (intro w hSw;(try dsimp only at hSw);go_simp;try with_reducible rfl)
 try simp only [put_pack]
 refine tk 2 rfl (by kernel_rfl) (fun _ _ _ h=>h) (by assumption) (fun w hw=>obj_run rfl bo rfl hw.2.2.2 rfl) ?_
 try simp only [put_pack]
 refine tk 3 (v:=?_) rfl (by kernel_rfl) (fun _ _ _ h=>h) (by assumption) ?_ ?_
 rotate_left
 · (intro w hSw;(try dsimp only at hSw);go_simp;try with_reducible rfl)
 try simp only [put_pack]
 refine tk 4 (v:=?_) rfl (by kernel_rfl) (fun _ _ _ h=>h) (by assumption) ?_ ?_
 rotate_left
 · (intro w hSw;(try dsimp only at hSw);go_simp;try with_reducible rfl)
 try simp only [put_pack]
 refine wpAnyH_ready (rs:=[5]) (by kernel_rfl) (by simp) ?_
 refine AllReadyH.cons rfl (fun K hKK=>?_) (AllReadyH.nil)
 go_simp
 refine tstep hO hK (hq.out _ hP) (fun _ h=>⟨rfl,h⟩) ?_
 clear hO hK hP;intro g S1 w1 hrun hP hk1 hK hO
 have hS1:=hS _ (ht.keep hk1) (hm.keep hk1) (hw.keep hk1) (ho.keep hk1)
 clear hS ht hm hw ho hk1 hrun
 refine hKK.out _ _ hS1 (fun hHeld=>?_)
 clear hKK K
 try dsimp only
 refine tk 6 (v:=?_) rfl (by kernel_rfl) (fun _ _ _ h=>h) (by assumption) ?_ ?_
 rotate_left
 · (intro w hSw;(try dsimp only at hSw);go_simp;try with_reducible rfl)
 try simp only [put_pack]
 refine tk 7 (v:=?_) rfl (by kernel_rfl) (fun _ _ _ h=>h) (by assumption) ?_ ?_
 rotate_left
 · (intro w hSw;(try dsimp only at hSw);go_simp;try with_reducible rfl)
 try simp only [put_pack]
 refine wpAnyH_done (by kernel_rfl) ?_ _
 go_simp
 have hf:R (.returned (.tuple #[V Z t,.bool g])) _:=hO.done (v:=(t,g)) hP hK
 clear hO hP hK hS1;go_wp2_with fail
 first | with_reducible exact hf | exact hf | (go_ret2;exact hf)
theorem rmark_p (wb:Bool)(w:World):Calls Tryz.prog 160 #[.bool wb] w fun e w'=>e=.returned (V Z (rmark wb))/\w=w':=by
 cases wb
 all_goals
  go_enter Tryz.func160,Tryz.ntmps160
  go_wp2_with fail
  first | go_ret2 | go_ret
  exact⟨rfl,rfl⟩
set_option maxRecDepth 100000 in
theorem rlock_p (B p N D:Nat)(S:TS)(wb:Bool)(arg alg mode base loc room c l:Int)(m:Nat)(rs:List Reg)(w:World)(h:Plays B w p S)(hk:LkUse alg N mode base loc room rs m)(hta:TameA S)(hD:S.left<D)(hn0:S.nts.length+10*S.left<=90000)(hc:0<=c/\c<=40000) :
  Calls Tryz.prog 74 #[.pointer (some ⟨p,0,none⟩),.agg #[V Z 0,V Z 0,V Z 0,V Z 0,V Z arg,V Z 0,V Z 0,V Z 0,V Z alg,V Z N,V Z mode,V Z base,V Z loc,V Z room,V Z 0,V Z 0,V Z 0,V Z 0,V Z 0,V Z 0,V Z 0,V Z c,V Z l],V Z m,.bool wb] w (Post encI B p w ((rlockA (inA (lkA D alg N base loc room rs m) D) (lkR alg N base loc rs m) c l wb D).run S)):=by
 generalize hR:Post encI B p w ((rlockA (inA (lkA D alg N base loc room rs m) D) (lkR alg N base loc rs m) c l wb D).run S)=R
 have hO:Owes R encI B p w ((rlockA (inA (lkA D alg N base loc room rs m) D) (lkR alg N base loc rs m) c l wb D).run S):=hR▸owes _ _ _ _ _
 clear hR
 have hK:=Keep.refl [2,3,4] B p w
 have hP:=h
 have b1:=hP.held (.cells #[.pointer (some ⟨p,0,none⟩)] 33)
 replace hK:=hK.trans (Keep.alloc (.cells #[.pointer (some ⟨p,0,none⟩)] 33) hP.lt hP.le)
 replace hP:=hP.alloc (.cells #[.pointer (some ⟨p,0,none⟩)] 33)
 have b2:=hP.held (.cells #[V Z 0,V Z 0,V Z 0,V Z 0,V Z arg,V Z 0,V Z 0,V Z 0,V Z alg,V Z N,V Z mode,V Z base,V Z loc,V Z room,V Z 0,V Z 0,V Z 0,V Z 0,V Z 0,V Z 0,V Z 0,V Z c,V Z l] 69)
 simp only [World.size_alloc] at b2
 replace b1:=b1.alloc (.cells #[V Z 0,V Z 0,V Z 0,V Z 0,V Z arg,V Z 0,V Z 0,V Z 0,V Z alg,V Z N,V Z mode,V Z base,V Z loc,V Z room,V Z 0,V Z 0,V Z 0,V Z 0,V Z 0,V Z 0,V Z 0,V Z c,V Z l] 69) hP.lt
 replace hK:=hK.trans (Keep.alloc (.cells #[V Z 0,V Z 0,V Z 0,V Z 0,V Z arg,V Z 0,V Z 0,V Z 0,V Z alg,V Z N,V Z mode,V Z base,V Z loc,V Z room,V Z 0,V Z 0,V Z 0,V Z 0,V Z 0,V Z 0,V Z 0,V Z c,V Z l] 69) hP.lt hP.le)
 replace hP:=hP.alloc (.cells #[V Z 0,V Z 0,V Z 0,V Z 0,V Z arg,V Z 0,V Z 0,V Z 0,V Z alg,V Z N,V Z mode,V Z base,V Z loc,V Z room,V Z 0,V Z 0,V Z 0,V Z 0,V Z 0,V Z 0,V Z 0,V Z c,V Z l] 69)
 have b3:=hP.held (.cells #[.bool wb] 4)
 simp only [World.size_alloc] at b3
 replace b1:=b1.alloc (.cells #[.bool wb] 4) hP.lt
 replace b2:=b2.alloc (.cells #[.bool wb] 4) hP.lt
 replace hK:=hK.trans (Keep.alloc (.cells #[.bool wb] 4) hP.lt hP.le)
 replace hP:=hP.alloc (.cells #[.bool wb] 4)
 have c_b1:=b1.cells;have c_b2:=b2.cells;have c_b3:=b3.cells;clear h
 have hi1:=Hd fun (bm bo:Nat) (S:TS) (w:World) (hP:Plays B w p S) (hta:TameA S) (hD:S.left<D) (hn0:S.nts.length+10*S.left<=90000) (h1:HeldP w p bm (.cells #[.pointer (some ⟨p,0,none⟩)] 33)) (h2:HeldP w p bo (.cells #[V Z 0,V Z 0,V Z 0,V Z 0,V Z arg,V Z 0,V Z 0,V Z 0,V Z alg,V Z N,V Z mode,V Z base,V Z loc,V Z room,V Z 0,V Z 0,V Z 0,V Z 0,V Z 0,V Z 0,V Z 0,V Z c,V Z l] 69)) =>
  rinside_p (rtailT c) (fun W=>HeldP W p bm (.cells #[.pointer (some ⟨p,0,none⟩)] 33)/\HeldP W p bo (.cells #[V Z 0,V Z 0,V Z 0,V Z 0,V Z arg,V Z 0,V Z 0,V Z 0,V Z alg,V Z N,V Z mode,V Z base,V Z loc,V Z room,V Z 0,V Z 0,V Z 0,V Z 0,V Z 0,V Z 0,V Z 0,V Z c,V Z l] 69)) 157 #[.pointer (some ⟨bm,0,none⟩),.pointer (some ⟨bo,0,none⟩)] (fun _ _=>rfl) B p N D S arg alg mode base loc room c l m rs w hP ⟨h1,h2⟩ (fun W W' hk h=>⟨h.1.keep hk,h.2.keep hk⟩) hk hta hD hn0 (rtailT_notes c)
   (fun S1 W hP1 h1 _=>rlock1_p B p S1 bm bo arg alg N mode base loc room c l W hP1 hc h1.1 h1.2)
 have hi2:=Hd fun (t:Int) (bt bm bo bw:Nat) (S:TS) (w:World) (hP:Plays B w p S) (hta:TameA S) (hD:S.left<D) (hn0:S.nts.length+10*S.left<=90000) (h0:HeldP w p bt (.cells #[V Z t] 3)) (h1:HeldP w p bm (.cells #[.pointer (some ⟨p,0,none⟩)] 33)) (h2:HeldP w p bo (.cells #[V Z 0,V Z 0,V Z 0,V Z 0,V Z arg,V Z 0,V Z 0,V Z 0,V Z alg,V Z N,V Z mode,V Z base,V Z loc,V Z room,V Z 0,V Z 0,V Z 0,V Z 0,V Z 0,V Z 0,V Z 0,V Z c,V Z l] 69)) (h3:HeldP w p bw (.cells #[.bool wb] 4)) =>
  rinside_p (rturnT c t wb) (fun W=>HeldP W p bt (.cells #[V Z t] 3)/\HeldP W p bm (.cells #[.pointer (some ⟨p,0,none⟩)] 33)/\HeldP W p bo (.cells #[V Z 0,V Z 0,V Z 0,V Z 0,V Z arg,V Z 0,V Z 0,V Z 0,V Z alg,V Z N,V Z mode,V Z base,V Z loc,V Z room,V Z 0,V Z 0,V Z 0,V Z 0,V Z 0,V Z 0,V Z 0,V Z c,V Z l] 69)/\HeldP W p bw (.cells #[.bool wb] 4)) 158 #[.pointer (some ⟨bt,0,none⟩),.pointer (some ⟨bm,0,none⟩),.pointer (some ⟨bo,0,none⟩),.pointer (some ⟨bw,0,none⟩)] (fun _ _=>rfl) B p N D S arg alg mode base loc room c l m rs w hP ⟨h0,h1,h2,h3⟩ (fun W W' hk h=>⟨h.1.keep hk,h.2.1.keep hk,h.2.2.1.keep hk,h.2.2.2.keep hk⟩) hk hta hD hn0 (rturnT_notes c t wb)
   (fun S1 W hP1 h1 _=>rlock2_p B p S1 t wb bt bm bo bw arg alg N mode base loc room c l W hP1 hc h1.1 h1.2.1 h1.2.2.1 h1.2.2.2)
 have hpay:=Hd (lkA_pays D alg N base loc room rs m D)
 have hUn:=Hd (notes_lkR alg N base loc rs m)
 generalize (inA (lkA D alg N base loc room rs m) D)=I at *
 generalize (lkR alg N base loc rs m)=U at *
 have hp1:=Hd (insideA_pays hpay.out hUn.out (((asks_rd _).bind _ |> fun (h:(rtailT c).Asks)=>h).pays (rtailT_notes c)))
 have hp2:=Hd fun t=>insideA_pays hpay.out hUn.out (((rturnA_asks c t wb).bind _:(rturnT c t wb).Asks).pays (rturnT_notes c t wb))
 have ha2:=Hd fun t=>insideA_asks I U ((rturnA_asks c t wb).bind _:(rturnT c t wb).Asks)
 clear hk hpay hUn;unfold rlockA at hO;rw [run_gt] at hO;have hOh:=Hd hO;clear hO
 go_enter Tryz.func74,Tryz.ntmps74
 go_wp2_with fail
 generalize hzm:w.heap.size=zm at *
 generalize hzo:zm+1=zo at *
 generalize hzw:zo+1=zw at *
 clear hzm hzo hzw
 generalize World.alloc (World.alloc (World.alloc w _) _) _=W0 at *
 refine (get_p B p S l _ hP).mono ?_
 rintro e w' ⟨rfl,rfl⟩;have hO:=hOh.out;clear hOh
 generalize S.got l=g at hO ⊢
 by_cases hg:g=0
 rotate_left
 · have dg:(g != 0)=true:=by rw [bne_iff_ne];exact hg
   rw [if_neg hg] at hO;clear hg
   have hf:=hO.done hP hK
   clear hO hP hK b1 b2 b3 c_b1 c_b2 c_b3;go_wp2_with fail
   first | with_reducible exact hf | (go_simp;exact hf) | (go_ret;exact hf) | (go_ret2;exact hf)
 have dg:(g != 0)=false:=by simpa using hg
 obtain⟨F0,hF0⟩:∃ F0:Int->Prog Int,F0=fun t=>(rwaitA I U c t wb D).bind fun _=>(st l (rmark wb)).bind fun _=>.ret 0:=⟨_,rfl⟩
 rw [if_pos hg,<- hF0,<- inside_map I U (rtailA c) (fun t=>(t,true)) (fun x=>F0 x.1),<- show rtailT c=(rtailA c).bind fun t=>.ret (t,true) from rfl] at hO
 clear hg;replace hF0:=Hd hF0;have hOh:=Hd hO;clear hO
 go_upto_region 3 with fail
 refine wp_region_lit ?_
 refine wpList_plain rfl fun Kq hKq=>?_
 unfold Oper.wp execOp
 go_simp
 refine hKq _ _ ?_
 clear hKq Kq
 refine load_objS rfl _ rfl zo rfl b2.1 rfl ?_
 try simp only [put_pack]
 go_wp2_with fail
 refine tstep hOh.out hK (hi1.out _ _ S _ hP hta hD hn0 b1 b2) (fun _ h=>⟨rfl,h⟩) ?_
 clear hOh hK hP;intro x S1 w1 hr hP hk1 hK hO
 obtain⟨t,x2⟩:=x
 have hpy:=hp1.out S _ S1 hr hP.1
 have hlf:=Prog.run_left (insideA I U (rtailT c)) S
 rw [hr] at hlf
 simp only at hlf
 replace hta:=hta.run hr;replace b1:=b1.keep hk1;replace b2:=b2.keep hk1;replace b3:=b3.keep hk1
 replace hD:S1.left<D:=by omega
 replace hn0:S1.nts.length+10*S1.left<=90000:=by omega
 clear hr hk1 c_b1 c_b2 c_b3 hpy hlf hi1 hp1
 replace hO:Owes R encI B p w ((F0 t).run S1):=hO
 rw [hF0.out] at hO
 obtain⟨F,hF⟩:∃ F:Unit->Prog Int,F=fun _=>(st l (rmark wb)).bind fun _=>.ret 0:=⟨_,rfl⟩
 replace hO:Owes R encI B p w (((rwaitA I U c t wb D).bind F).run S1):=by rw [hF];exact hO
 have hFh:=Hd hF
 clear hF hF0;have c_b1:=b1.cells;have c_b2:=b2.cells;have c_b3:=b3.cells;have hOh:=Hd hO;clear hO
 rw [show encT (t,x2)=.tuple #[V Z t,.bool x2] from rfl]
 have b4:=hP.held (.cells #[V Z t] 3)
 replace b1:=b1.alloc (.cells #[V Z t] 3) hP.lt
 replace b2:=b2.alloc (.cells #[V Z t] 3) hP.lt
 replace b3:=b3.alloc (.cells #[V Z t] 3) hP.lt
 replace hK:=hK.trans (Keep.alloc (.cells #[V Z t] 3) hP.lt hP.le)
 replace hP:=hP.alloc (.cells #[V Z t] 3)
 go_wp2_with fail
 generalize hzt:w1.heap.size=zt at *
 generalize World.alloc w1 _=W1 at *
 clear hzt c_b1 c_b2 c_b3
 go_loopw [] (fun wr'=>∃ (n:Nat) (S2:TS),Plays B wr' p S2/\KeepP B p w wr'/\HeldP wr' p zt (.cells #[V Z t] 3)/\HeldP wr' p zm (.cells #[.pointer (some ⟨p,0,none⟩)] 33)/\HeldP wr' p zo (.cells #[V Z 0,V Z 0,V Z 0,V Z 0,V Z arg,V Z 0,V Z 0,V Z 0,V Z alg,V Z N,V Z mode,V Z base,V Z loc,V Z room,V Z 0,V Z 0,V Z 0,V Z 0,V Z 0,V Z 0,V Z 0,V Z c,V Z l] 69)/\HeldP wr' p zw (.cells #[.bool wb] 4)/\TameA S2/\S2.left<D/\S2.nts.length+10*S2.left<=90000/\S2.left<n/\Hid (Owes R encI B p w (((rwaitA I U c t wb n).bind F).run S2))) (fun wr'=>leftW 1 3 wr' p)
 case atStart=>exact⟨D,S1,hP,hK,b4,b1,b2,b3,hta,hD,hn0,hD,hOh⟩
 case round =>
  clear hP hK b1 b2 b3 b4 hta hD hn0 hOh
  obtain⟨n,S2,hP,hK,b4,b1,b2,b3,hta,hD,hn0,hn,hO⟩:=hrel
  replace hO:=hO.out
  have hlw:=Hd hP.left
  cases n with
  | zero=>omega
  | succ n =>
    rw [show rwaitA I U c t wb (n+1)=(insideA I U (rturnA c t wb)).bind fun g=>if g=true then .ret () else rwaitA I U c t wb n from rfl,Prog.bind_assoc] at hO
    replace hO:Owes R encI B p w (((insideA I U (rturnT c t wb)).bind fun x=>((fun g=>if g=true then .ret () else rwaitA I U c t wb n) x.2).bind F).run S2):=by
     rw [show rturnT c t wb=(rturnA c t wb).bind fun g=>.ret (t,g) from rfl,inside_map I U (rturnA c t wb) (fun g=>(t,g)) (fun x=>((fun g=>if g=true then .ret () else rwaitA I U c t wb n) x.2).bind F)]
     exact hO
    have hOh:=Hd hO;clear hO;have c_b1:=b1.cells
    go_upto_region 4 with fail
    refine wp_region_lit ?_
    refine wpList_plain rfl fun Kq hKq=>?_
    unfold Oper.wp execOp
    go_simp
    refine hKq _ _ ?_
    clear hKq Kq
    refine load_objS rfl _ rfl zo rfl b2.1 rfl ?_
    try simp only [put_pack]
    go_wp2_with fail
    clear c_b1
    refine tstep hOh.out hK (hi2.out t _ _ _ _ S2 _ hP hta hD hn0 b4 b1 b2 b3) (fun _ h=>⟨rfl,h⟩) ?_
    clear hOh hK hP;intro x S3 w3 hrun hP hk hK hO
    obtain⟨x1,g⟩:=x
    have hlw2:=Hd hP.left
    have hdec:=(ha2.out t).left hrun hP.1
    have hpy:=hp2.out t S2 _ S3 hrun hP.1
    replace b1:=b1.keep hk;replace b2:=b2.keep hk;replace b3:=b3.keep hk;replace b4:=b4.keep hk;replace hta:=hta.run hrun;clear hk hrun
    rw [show encT (x1,g)=.tuple #[V Z x1,.bool g] from rfl]
    cases g with
    | true =>
      replace hO:Owes R encI B p w ((F ()).run S3):=hO
      rw [hFh.out] at hO;clear hlw hlw2 hFh hi2 ha2 hp2 b4;have c_b1:=b1.cells;have c_b2:=b2.cells;have c_b3:=b3.cells;have hOh:=Hd hO;clear hO;go_wp2_with fail
      have hO:=hOh.out;clear hOh;replace hP:=hP.drew;replace hK:=hK.drew;replace b1:=b1.drew;replace b2:=b2.drew;replace b3:=b3.drew;clear c_b1 c_b2 c_b3
      have c_m:(_:World).cell? ⟨zm,0,none⟩=some (.pointer (some ⟨p,0,none⟩)):=b1.cells 0
      have c_o:(_:World).cell? ⟨zo,22,none⟩=some (V Z l):=b2.cells 22
      have c_w:(_:World).cell? ⟨zw,0,none⟩=some (.bool wb):=b3.cells 0
      go_region_held2 (fun w'=>w'.cell? ⟨zm,0,none⟩=some (.pointer (some ⟨p,0,none⟩))/\w'.cell? ⟨zo,22,none⟩=some (V Z l)/\w'.cell? ⟨zw,0,none⟩=some (.bool wb)) (first | with_reducible exact⟨c_m,c_o,c_w⟩ | go_keep)
       (first
         | (go_at_call 160
            refine (rmark_p wb _).mono ?_
            rintro e w' ⟨rfl,rfl⟩)
         | (go_at_call 132
            refine tstep hO hK (setO hP) (fun _ h=>⟨rfl,h⟩) ?_
            clear hO hK hP c_m c_o c_w;intro u S4 w4 hr hP hk1 hK hO;replace b1:=b1.keep hk1;replace b2:=b2.keep hk1;replace b3:=b3.keep hk1
            have c_m:(_:World).cell? ⟨zm,0,none⟩=some (.pointer (some ⟨p,0,none⟩)):=b1.cells 0
            have c_o:(_:World).cell? ⟨zo,22,none⟩=some (V Z l):=b2.cells 22
            have c_w:(_:World).cell? ⟨zw,0,none⟩=some (.bool wb):=b3.cells 0
            clear hr hk1))
      have hf:=hO.done hP hK
      clear hO hP hK b1 b2 b3 c_m c_o c_w;go_wp2_with fail
      first | with_reducible exact hf | (go_simp;exact hf) | (go_ret;exact hf) | (go_ret2;exact hf)
    | false =>
      replace hO:Owes R encI B p w (((rwaitA I U c t wb n).bind F).run S3):=hO
      have hOh:=Hd hO;clear hO;go_wp2_with fail
      refine⟨⟨n,S3,hP,hK,b4,b1,b2,b3,hta,by omega,by omega,by omega,hOh⟩,?_⟩
      rw [hlw.out,hlw2.out]
      omega
set_option maxRecDepth 100000 in
theorem runlock1T_p (B p:Nat)(S:TS)(bw bm bo:Nat)(arg alg:Int)(N:Nat)(mode base loc room c l:Int)(w:World)(h:Plays B w p S)(hta:TameA S)(hc:0<=c/\c<=40000)(hw:HeldP w p bw (.cells #[.bool true] 4))(hm:HeldP w p bm (.cells #[.pointer (some ⟨p,0,none⟩)] 33))(ho:HeldP w p bo (.cells #[V Z 0,V Z 0,V Z 0,V Z 0,V Z arg,V Z 0,V Z 0,V Z 0,V Z alg,V Z N,V Z mode,V Z base,V Z loc,V Z room,V Z 0,V Z 0,V Z 0,V Z 0,V Z 0,V Z 0,V Z 0,V Z c,V Z l] 69)) :
  Calls Tryz.prog 162 #[.pointer (some ⟨bw,0,none⟩),.pointer (some ⟨bm,0,none⟩),.pointer (some ⟨bo,0,none⟩)] w (Post encT B p w ((rlowT c true).run S)):=by
 generalize hR:Post encT B p w ((rlowT c true).run S)=R
 have hO:Owes R encT B p w ((rlowT c true).run S):=hR▸owes _ _ _ _ _
 clear hR
 have hK:=Keep.refl [2,3,4] B p w
 have c_hw:=hw.cells;have c_hm:=hm.cells;have c_ho:=ho.cells;have hP:=h;clear h
 have hw1:=IntWalk.i64_in (c+1) (by omega)
 have hwc:=IntWalk.i64_in c (by omega)
 have hw0:=IntWalk.i64_in (c+0) (by omega)
 unfold rlowT rlowA at hO
 rw [if_pos rfl] at hO;have hOh:=Hd hO;clear hO
 go_enter Tryz.func162,Tryz.ntmps162
 go_wp2_with fail
 refine tstepA (notes_wr _ _) hOh.out hK (write_p B p S _ _ _ hP) (fun _ h=>⟨rfl,h⟩) ?_
 clear hOh hK hP;intro u S3 w3 hrun hlf hla hnn hP hk1 hK hO;clear hk1 hrun hlf hla hnn c_hw c_hm c_ho
 have hf:R (.returned (.tuple #[V Z 0,.bool true])) _:=hO.done (v:=((0:Int),true)) hP hK
 clear hO hP hK hm ho hw;go_wp2_with fail
 first | with_reducible exact hf | exact hf | (go_ret2;exact hf)
set_option maxRecDepth 100000 in
theorem runlock1F_p (B p:Nat)(S:TS)(bw bm bo:Nat)(arg alg:Int)(N:Nat)(mode base loc room c l:Int)(w:World)(h:Plays B w p S)(hta:TameA S)(hc:0<=c/\c<=40000)(hw:HeldP w p bw (.cells #[.bool false] 4))(hm:HeldP w p bm (.cells #[.pointer (some ⟨p,0,none⟩)] 33))(ho:HeldP w p bo (.cells #[V Z 0,V Z 0,V Z 0,V Z 0,V Z arg,V Z 0,V Z 0,V Z 0,V Z alg,V Z N,V Z mode,V Z base,V Z loc,V Z room,V Z 0,V Z 0,V Z 0,V Z 0,V Z 0,V Z 0,V Z 0,V Z c,V Z l] 69)) :
  Calls Tryz.prog 162 #[.pointer (some ⟨bw,0,none⟩),.pointer (some ⟨bm,0,none⟩),.pointer (some ⟨bo,0,none⟩)] w (Post encT B p w ((rlowT c false).run S)):=by
 generalize hR:Post encT B p w ((rlowT c false).run S)=R
 have hO:Owes R encT B p w ((rlowT c false).run S):=hR▸owes _ _ _ _ _
 clear hR
 have hK:=Keep.refl [2,3,4] B p w
 have c_hw:=hw.cells;have c_hm:=hm.cells;have c_ho:=ho.cells;have hP:=h;clear h
 have hw1:=IntWalk.i64_in (c+1) (by omega)
 have hwc:=IntWalk.i64_in c (by omega)
 have hw0:=IntWalk.i64_in (c+0) (by omega)
 unfold rlowT rlowA at hO
 rw [if_neg (by decide),Prog.bind_assoc] at hO
 go_enter Tryz.func162,Tryz.ntmps162
 go_upto_region 3 with fail
 replace hP:=hP.drew;replace hK:=hK.drew;replace hm:=hm.drew;replace ho:=ho.drew;clear c_hw c_hm c_ho
 have hS:(_:World).cell? ⟨bm,0,none⟩=some (.pointer (some ⟨p,0,none⟩))/\(_:World).cell? ⟨bo,21,none⟩=some (V Z c):=⟨hm.cells 0,ho.cells 21⟩
 refine wp_region_held_drew (S:=fun w'=>w'.cell? ⟨bm,0,none⟩=some (.pointer (some ⟨p,0,none⟩))/\w'.cell? ⟨bo,21,none⟩=some (V Z c)) rfl hS (fun hHeld=>?_)
 refine tkb 0 ?_
 iterate 8
  refine tkn (v:=?_) rfl (by kernel_rfl) (fun _ _ _ h=>h) (by assumption) ?_ ?_
  rotate_left
  · (intro w hSw;(try dsimp only at hSw);go_simp;try with_reducible rfl)
  try simp only [put_pack]
 refine tke ?_
 refine wpAnyH_ready (rs:=[8]) (by kernel_rfl) (by simp) ?_
 refine AllReadyH.cons rfl (fun K hKK=>?_) (AllReadyH.nil)
 go_simp
 refine tstepA (notes_rd _) hO hK (read_p B p S _ _ hP) (fun _ h=>⟨rfl,h⟩) ?_
 clear hO hK hP hS;intro x S2 wS2 hrun hlf hla hnn hP hk1 hK hO;replace hm:=hm.keep hk1;replace ho:=ho.keep hk1
 have hS:(_:World).cell? ⟨bm,0,none⟩=some (.pointer (some ⟨p,0,none⟩))/\(_:World).cell? ⟨bo,21,none⟩=some (V Z c):=⟨hm.cells 0,ho.cells 21⟩
 have hxb:=rd_bd hta hrun
 have hwx:=IntWalk.i64_in (x-1) (by omega)
 clear hk1 hrun hla hlf hnn
 refine hKK.out _ _ hS (fun hHeld=>?_)
 clear hKK K
 try dsimp only
 refine tk 9 (v:=?_) rfl (by kernel_rfl) (fun _ _ _ h=>h) (by assumption) ?_ ?_
 rotate_left
 · (intro w hSw;(try dsimp only at hSw);go_simp;try with_reducible rfl)
 try simp only [put_pack]
 refine tk 10 (v:=?_) rfl (by kernel_rfl) (fun _ _ _ h=>h) (by assumption) ?_ ?_
 rotate_left
 · (intro w hSw;(try dsimp only at hSw);go_simp;try with_reducible rfl)
 try simp only [put_pack]
 refine wpAnyH_ready (rs:=[11]) (by kernel_rfl) (by simp) ?_
 refine AllReadyH.cons rfl (fun K hKK=>?_) (AllReadyH.nil)
 go_simp
 refine tstepA (notes_wr _ _) hO hK (write_p B p S2 _ _ _ hP) (fun _ h=>⟨rfl,h⟩) ?_
 clear hO hK hP hS;intro u S3 wS3 hrun hlf hla hnn hP hk1 hK hO;replace hm:=hm.keep hk1;replace ho:=ho.keep hk1
 have hS:(_:World).cell? ⟨bm,0,none⟩=some (.pointer (some ⟨p,0,none⟩))/\(_:World).cell? ⟨bo,21,none⟩=some (V Z c):=⟨hm.cells 0,ho.cells 21⟩
 clear hk1 hrun hla hlf hnn
 refine hKK.out _ _ hS (fun hHeld=>?_)
 clear hKK K
 try dsimp only
 refine wpAnyH_done (by kernel_rfl) ?_ _
 go_simp
 clear hS
 have hf:R (.returned (.tuple #[V Z 0,.bool true])) _:=hO.done (v:=((0:Int),true)) hP hK
 clear hO hP hK hm ho hw;go_wp2_with fail
 first | with_reducible exact hf | exact hf | (go_ret2;exact hf)
theorem runlock1_p (B p:Nat)(S:TS)(wb:Bool)(bw bm bo:Nat)(arg alg:Int)(N:Nat)(mode base loc room c l:Int)(w:World)(h:Plays B w p S)(hta:TameA S)(hc:0<=c/\c<=40000)(hw:HeldP w p bw (.cells #[.bool wb] 4))(hm:HeldP w p bm (.cells #[.pointer (some ⟨p,0,none⟩)] 33))(ho:HeldP w p bo (.cells #[V Z 0,V Z 0,V Z 0,V Z 0,V Z arg,V Z 0,V Z 0,V Z 0,V Z alg,V Z N,V Z mode,V Z base,V Z loc,V Z room,V Z 0,V Z 0,V Z 0,V Z 0,V Z 0,V Z 0,V Z 0,V Z c,V Z l] 69)) :
  Calls Tryz.prog 162 #[.pointer (some ⟨bw,0,none⟩),.pointer (some ⟨bm,0,none⟩),.pointer (some ⟨bo,0,none⟩)] w (Post encT B p w ((rlowT c wb).run S)):=by
 cases wb
 · exact runlock1F_p B p S bw bm bo arg alg N mode base loc room c l w h hta hc hw hm ho
 · exact runlock1T_p B p S bw bm bo arg alg N mode base loc room c l w h hta hc hw hm ho
set_option maxRecDepth 100000 in
theorem runlock_p (B p N D:Nat)(S:TS)(wb:Bool)(arg alg mode base loc room c l:Int)(m:Nat)(rs:List Reg)(w:World)(h:Plays B w p S)(hk:LkUse alg N mode base loc room rs m)(hta:TameA S)(hD:S.left<D)(hn0:S.nts.length+10*S.left<=90000)(hc:0<=c/\c<=40000) :
  Calls Tryz.prog 77 #[.pointer (some ⟨p,0,none⟩),.agg #[V Z 0,V Z 0,V Z 0,V Z 0,V Z arg,V Z 0,V Z 0,V Z 0,V Z alg,V Z N,V Z mode,V Z base,V Z loc,V Z room,V Z 0,V Z 0,V Z 0,V Z 0,V Z 0,V Z 0,V Z 0,V Z c,V Z l],V Z m,.bool wb] w (Post encI B p w ((runlockA (inA (lkA D alg N base loc room rs m) D) (lkR alg N base loc rs m) c l wb).run S)):=by
 generalize hR:Post encI B p w ((runlockA (inA (lkA D alg N base loc room rs m) D) (lkR alg N base loc rs m) c l wb).run S)=R
 have hO:Owes R encI B p w ((runlockA (inA (lkA D alg N base loc room rs m) D) (lkR alg N base loc rs m) c l wb).run S):=hR▸owes _ _ _ _ _
 clear hR
 have hK:=Keep.refl [2,3,4] B p w
 have hP:=h
 have b1:=hP.held (.cells #[.pointer (some ⟨p,0,none⟩)] 33)
 replace hK:=hK.trans (Keep.alloc (.cells #[.pointer (some ⟨p,0,none⟩)] 33) hP.lt hP.le)
 replace hP:=hP.alloc (.cells #[.pointer (some ⟨p,0,none⟩)] 33)
 have b2:=hP.held (.cells #[V Z 0,V Z 0,V Z 0,V Z 0,V Z arg,V Z 0,V Z 0,V Z 0,V Z alg,V Z N,V Z mode,V Z base,V Z loc,V Z room,V Z 0,V Z 0,V Z 0,V Z 0,V Z 0,V Z 0,V Z 0,V Z c,V Z l] 69)
 simp only [World.size_alloc] at b2
 replace b1:=b1.alloc (.cells #[V Z 0,V Z 0,V Z 0,V Z 0,V Z arg,V Z 0,V Z 0,V Z 0,V Z alg,V Z N,V Z mode,V Z base,V Z loc,V Z room,V Z 0,V Z 0,V Z 0,V Z 0,V Z 0,V Z 0,V Z 0,V Z c,V Z l] 69) hP.lt
 replace hK:=hK.trans (Keep.alloc (.cells #[V Z 0,V Z 0,V Z 0,V Z 0,V Z arg,V Z 0,V Z 0,V Z 0,V Z alg,V Z N,V Z mode,V Z base,V Z loc,V Z room,V Z 0,V Z 0,V Z 0,V Z 0,V Z 0,V Z 0,V Z 0,V Z c,V Z l] 69) hP.lt hP.le)
 replace hP:=hP.alloc (.cells #[V Z 0,V Z 0,V Z 0,V Z 0,V Z arg,V Z 0,V Z 0,V Z 0,V Z alg,V Z N,V Z mode,V Z base,V Z loc,V Z room,V Z 0,V Z 0,V Z 0,V Z 0,V Z 0,V Z 0,V Z 0,V Z c,V Z l] 69)
 have b3:=hP.held (.cells #[.bool wb] 4)
 simp only [World.size_alloc] at b3
 replace b1:=b1.alloc (.cells #[.bool wb] 4) hP.lt
 replace b2:=b2.alloc (.cells #[.bool wb] 4) hP.lt
 replace hK:=hK.trans (Keep.alloc (.cells #[.bool wb] 4) hP.lt hP.le)
 replace hP:=hP.alloc (.cells #[.bool wb] 4)
 have c_b1:=b1.cells;have c_b2:=b2.cells;have c_b3:=b3.cells;clear h
 have hi1:=Hd fun (bw bm bo:Nat) (S:TS) (w:World) (hP:Plays B w p S) (hta:TameA S) (hD:S.left<D) (hn0:S.nts.length+10*S.left<=90000) (h1:HeldP w p bm (.cells #[.pointer (some ⟨p,0,none⟩)] 33)) (h2:HeldP w p bo (.cells #[V Z 0,V Z 0,V Z 0,V Z 0,V Z arg,V Z 0,V Z 0,V Z 0,V Z alg,V Z N,V Z mode,V Z base,V Z loc,V Z room,V Z 0,V Z 0,V Z 0,V Z 0,V Z 0,V Z 0,V Z 0,V Z c,V Z l] 69)) (h3:HeldP w p bw (.cells #[.bool wb] 4)) =>
  rinside_p (rlowT c wb) (fun W=>HeldP W p bm (.cells #[.pointer (some ⟨p,0,none⟩)] 33)/\HeldP W p bo (.cells #[V Z 0,V Z 0,V Z 0,V Z 0,V Z arg,V Z 0,V Z 0,V Z 0,V Z alg,V Z N,V Z mode,V Z base,V Z loc,V Z room,V Z 0,V Z 0,V Z 0,V Z 0,V Z 0,V Z 0,V Z 0,V Z c,V Z l] 69)/\HeldP W p bw (.cells #[.bool wb] 4)) 162 #[.pointer (some ⟨bw,0,none⟩),.pointer (some ⟨bm,0,none⟩),.pointer (some ⟨bo,0,none⟩)] (fun _ _=>rfl) B p N D S arg alg mode base loc room c l m rs w hP ⟨h1,h2,h3⟩ (fun W W' hk h=>⟨h.1.keep hk,h.2.1.keep hk,h.2.2.keep hk⟩) hk hta hD hn0 (rlowT_notes c wb)
   (fun S1 W hP1 h1 ht1=>runlock1_p B p S1 wb bw bm bo arg alg N mode base loc room c l W hP1 ht1 hc h1.2.2 h1.1 h1.2.1)
 have hpay:=Hd (lkA_pays D alg N base loc room rs m D)
 have hUn:=Hd (notes_lkR alg N base loc rs m)
 generalize (inA (lkA D alg N base loc room rs m) D)=I at *
 generalize (lkR alg N base loc rs m)=U at *
 clear hk hpay hUn;unfold runlockA at hO;rw [run_gt] at hO;have hOh:=Hd hO;clear hO
 go_enter Tryz.func77,Tryz.ntmps77
 go_wp2_with fail
 generalize hzm:w.heap.size=zm at *
 generalize hzo:zm+1=zo at *
 generalize hzw:zo+1=zw at *
 clear hzm hzo hzw
 generalize World.alloc (World.alloc (World.alloc w _) _) _=W0 at *
 have hO:=hOh.out;clear hOh;replace hP:=hP.drew;replace hK:=hK.drew;replace b1:=b1.drew;replace b2:=b2.drew;replace b3:=b3.drew;clear c_b1 c_b2 c_b3
 have c_m:(_:World).cell? ⟨zm,0,none⟩=some (.pointer (some ⟨p,0,none⟩)):=b1.cells 0
 have c_o:(_:World).cell? ⟨zo,22,none⟩=some (V Z l):=b2.cells 22
 have c_w:(_:World).cell? ⟨zw,0,none⟩=some (.bool wb):=b3.cells 0
 go_region_held2 (fun w'=>w'.cell? ⟨zm,0,none⟩=some (.pointer (some ⟨p,0,none⟩))/\w'.cell? ⟨zo,22,none⟩=some (V Z l)/\w'.cell? ⟨zw,0,none⟩=some (.bool wb)) (first | with_reducible exact⟨c_m,c_o,c_w⟩ | go_keep)
  (first
    | (go_at_call 95
       refine (get_p B p S l _ hP).mono ?_
       rintro e w' ⟨rfl,rfl⟩)
    | (go_at_call 160
       refine (rmark_p wb _).mono ?_
       rintro e w' ⟨rfl,rfl⟩))
 generalize S.got l=g at hO ⊢
 by_cases hg:g=rmark wb
 rotate_left
 · have dg:(g != rmark wb)=true:=by rw [bne_iff_ne];exact hg
   rw [if_neg hg] at hO;clear hg
   have hf:=hO.done hP hK
   clear hO hP hK b1 b2 b3 c_m c_o c_w;go_wp2_with fail
   first | with_reducible exact hf | (go_simp;exact hf) | (go_ret;exact hf) | (go_ret2;exact hf)
 have dg:(g != rmark wb)=false:=by simpa using hg
 rw [if_pos hg,<- inside_map I U (rlowA c wb) (fun _=>((0:Int),true)) (fun _=>(st l 0).bind fun _=>.ret 0),<- show rlowT c wb=(rlowA c wb).bind fun _=>.ret (0,true) from rfl] at hO
 clear hg;have hOh:=Hd hO;clear hO;clear c_m c_o c_w;have c_b1:=b1.cells
 go_upto_region 3 with fail
 refine wp_region_lit ?_
 refine wpList_plain rfl fun Kq hKq=>?_
 unfold Oper.wp execOp
 go_simp
 refine hKq _ _ ?_
 clear hKq Kq
 refine load_objS rfl _ rfl zo rfl b2.1 rfl ?_
 try simp only [put_pack]
 go_wp2_with fail
 refine tstep hOh.out hK (hi1.out _ _ _ S _ hP hta hD hn0 b1 b2 b3) (fun _ h=>⟨rfl,h⟩) ?_
 clear hOh hK hP;intro x S1 w1 hr hP hk1 hK hO
 obtain⟨t,x2⟩:=x
 replace b1:=b1.keep hk1;replace b2:=b2.keep hk1;clear hr hk1 c_b1 hi1 b3;have c_b1:=b1.cells;have c_b2:=b2.cells;have hOh:=Hd hO;clear hO;go_wp2_with fail
 refine tstep hOh.out hK (setO hP) (fun _ h=>⟨rfl,h⟩) ?_
 clear hOh hK hP;intro u S2 w2 hr hP hk1 hK hO
 have hf:=hO.done hP hK
 clear hO hP hK hr hk1 b1 b2 c_b1 c_b2;go_wp2_with fail
 first | with_reducible exact hf | (go_simp;exact hf) | (go_ret;exact hf) | (go_ret2;exact hf)
end Go.Proofs.YtbaajjkopdjbgaaGreat
