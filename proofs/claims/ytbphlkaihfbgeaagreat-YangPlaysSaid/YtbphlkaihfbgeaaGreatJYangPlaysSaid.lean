/-
  YangPlays holds: whoever takes, leaves or plays one node of a Yang lock does what the document says, access by access, whatever it is answered.
-/
import Derived.Test.YtbphlkaihfbgeaaGreatJYangPlaysSaid6
import Derived.Deep.RegionLaw
import Derived.Deep.RegionHeld2
import Derived.Deep.DeepCutAuto
namespace Go.Proofs.YtbphlkaihfbgeaaGreat
open Go.RowKit Kv
set_option maxRecDepth 100000 in
set_option maxHeartbeats 2000000 in
theorem yacq_r (B p n me D:Nat)(o:Bool)(S:TS)(rs:List Reg)(A:Option Addr)(c:Nat)(w:World)(h:RAt B w p o S)(h1:1<=n)(hn:n<=8)(hme:me<n)(hall:YAll rs n)(hc1:rs.length<=c)(_hc2:c<=9223372036854775807)
  (hreg:rs≠[]->∃ b,A=some ⟨b,0,none⟩/\RegsAt [3,4,5] w p b rs)(hD:o=false->S.left<D) :
  Calls Tryz.prog 17 #[.pointer (some ⟨p,0,none⟩),.slice A rs.length c,.int .i64 n,.int .i64 me] w (RPost encU B p w (yAcq D rs n me) o S):=by
 generalize hR:RPost encU B p w (yAcq D rs n me) o S=R
 have hO:ROwes R encU B p w (yAcq D rs n me) o S:=hR▸rowes _ _ _ _ _ _ _
 clear hR
 unfold yAcq at hO
 have hmem:=fun y (hy:y∈pathL n me)=>pathL_mem (show n<=64 by omega) hme hy
 have hPth:=fun w=>rpath_r n me w h1 (show n<=64 by omega) hme
 have hlv:levels n<=3:=by
  have:∀ n:Nat,n<9->levels n<=3:=by decide +kernel
  exact this n (by omega)
 have hlen:=hall.len
 have hnode:=fun Y (h1:2<=Y) (h2:Y<2*2 ^ levels n)=>hall.node h1 h2
 have hle:=fun Y (h1:2<=Y) (h2:Y<2*2 ^ levels n)=>yo_le (n:=n) h1 h2
 have hP8:1<=2 ^ levels n/\2 ^ levels n<=8:=by
  have:∀ k:Nat,k<4->1<=2 ^ k/\2 ^ k<=8:=by decide
  exact this _ (by omega)
 have e:(2:Int) ^ levels n=((2 ^ levels n:Nat):Int):=by rw [Int.natCast_pow];rfl
 rw [e] at hmem
 have hll:(pathL n me).length<=128:=by
  have:=pathN_len (2 ^ levels n+me) (2 ^ levels n+me)
  unfold pathL
  omega
 have hrl:rs.length<=77:=by
  rw [hlen]
  exact Nat.le_trans (Nat.mul_le_mul (show 2 ^ levels n-1<=7 by omega) (show n+3<=11 by omega)) (by decide)
 clear e hlv hall
 generalize 2 ^ levels n=P at *
 generalize pathL n me=l at *
 have hmemh:=Lib.hid hmem
 have hnodeh:=Lib.hid hnode
 have hleh:=Lib.hid hle
 have hlenh:=Lib.hid hlen
 have hOh:=Lib.hid hO
 clear hmem hnode hle hlen hO
 go_enter Tryz.func17,Tryz.ntmps17
 go_wp2_with fail
 refine (hPth _).mono ?_
 rintro e w3 ⟨v3,rfl,hrow,hx3⟩
 obtain⟨A3,c3,rfl,hR⟩:=RowH.of_row (p:=p) (ix:=[3,4,5]) hrow (fun b hb=>h.fresh hx3 hb)
 have hK:=Keep.of_ext (ix:=[3,4,5]) (B:=B) hx3 h.lt h.le
 have hreg3:rs≠[]->∃ b,A=some ⟨b,0,none⟩/\RegsAt [3,4,5] w3 p b rs:=fun hne=>by
  obtain⟨b,e1,e2⟩:=hreg hne
  exact⟨b,e1,e2.extL hx3 h.lt⟩
 have hP:=h.ext hx3
 clear hreg hx3 hrow hPth h
 by_cases hl0:l=[]
 · subst hl0
   have hf:=hOh.out.ret (a:=()) hP hK
   clear hOh hmemh hR hreg3 hlenh
   go_wp2_with fail
   go_loopw [9] (fun i wr=>i=.int .i64 0/\w3=wr) (fun _ _=>0)
   case atStart=>exact⟨rfl,rfl⟩
   case round =>
    obtain⟨rfl,rfl⟩:=hrel
    go_wp2_with fail
    first | exact hf | (refine bodyPost_ret (results_none rfl _ _ _) rfl ?_;exact hf)
 obtain⟨g,cur,rfl,hg,hcur⟩:=hR hl0
 obtain⟨b,rfl,hl⟩:=hreg3 (by
  obtain⟨y,l',rfl⟩:∃ y l',l=y :: l':=by cases l with | nil=>exact absurd rfl hl0 | cons y l'=>exact⟨y,l',rfl⟩
  have h1:=hmemh.out y (List.mem_cons_self ..)
  have h2:=hlenh.out
  have h3:=hleh.out y.toNat (by omega) (by omega)
  intro hne
  rw [hne,List.length_nil] at h2
  omega)
 have hch:=Lib.hid hcur
 clear hreg3 hR hl0 hcur
 go_wp2_with fail
 go_loopw [9,10] (fun i _ wr=>∃ (j:Nat) (o2:Bool) (S2:TS),i=.int .i64 j/\j<=l.length/\RAt B wr p o2 S2/\KeepR B p w wr/\Held [3,4,5] wr p g (.cells cur 3)/\RegsAt [3,4,5] wr p b rs/\(o2=false->S2.left<D)/\Hid (ROwes R encU B p w (forP (fun (x:Int) (_:Unit)=>yEnter D rs (yo n x.toNat) n me (x.toNat % 2)) (l.drop j) ()) o2 S2)) (fun i _ _=>l.length-(intOf i).toNat)
 case atStart=>exact⟨0,o,S,rfl,by omega,hP,hK,hg,hl,hD,hOh⟩
 case round =>
  clear hP hK hg hl hD hOh
  obtain⟨j,o2,S2,rfl,hj,hP,hK,hg,hl,hD,hOh⟩:=hrel
  by_cases hjl:j<l.length
  · have djl:decide (j<l.length)=true:=by rw [decide_eq_true_eq];exact hjl
    obtain⟨y,hy⟩:∃ y,l[j]?=some y:=⟨_,List.getElem?_eq_getElem hjl⟩
    have hO:=hOh.out
    rw [List.drop_eq_getElem_cons hjl,show l[j]=y from by rw [List.getElem?_eq_getElem hjl] at hy;exact Option.some.inj hy] at hO
    have hyl:=Lib.hid hy
    have hym:=hmemh.out y (List.mem_of_getElem? hy)
    obtain⟨Y,rfl⟩:∃ Y:Nat,y=(Y:Int):=⟨y.toNat,by omega⟩
    have c_g:wr.cell? ⟨g,j,none⟩=some (.int .i64 (Y:Int)):=hg.at_ hch.out hy
    have hY2:2<=Y:=by omega
    have hYP:Y<2*P:=by omega
    obtain⟨k,hk⟩:∃ k,yo n Y=k:=⟨_,rfl⟩
    have hOk:Hid (ROwes R encU B p w (((yEnter D rs k n me (Y % 2))).bind fun _=>forP (fun (x:Int) (_:Unit)=>yEnter D rs (yo n x.toNat) n me (x.toNat % 2)) (l.drop (j+1)) ()) o2 S2):=Lib.hid (by rw [<- hk];exact hO)
    have hkl:k+(n+3)<=rs.length:=by
     have:=hleh.out Y hY2 hYP
     rw [<- hlenh.out,hk] at this
     exact this
    have hnd:=Lib.hid (hnodeh.out Y hY2 hYP)
    rw [hk] at hnd
    obtain⟨hf,hhf⟩:∃ hf:Nat,Y / 2=hf:=⟨_,rfl⟩
    obtain⟨hm,hhm⟩:∃ hm:Nat,hf-1=hm:=⟨_,rfl⟩
    have hq1:IntKind.i64.wrap ((Y:Int) / 2)=(hf:Int):=by rw [IntWalk.i64_in _ (by omega)];omega
    have hq2:(Y:Int).tmod 2=(Y:Int) % 2:=Int.tmod_eq_emod_of_nonneg (by omega)
    have hq3:IntKind.i64.wrap ((hf:Int)-1)=(hm:Int):=by rw [IntWalk.i64_in _ (by omega)];omega
    have hn3:=IntWalk.i64_in ((n:Int)+3) (by omega)
    have hkI:((n:Int)+3)*(hm:Int)=(k:Int):=by
     rw [<- hk]
     unfold yo
     rw [hhf,hhm,Nat.mul_comm,Int.natCast_mul]
     rfl
    have hq4:IntKind.i64.wrap (((n:Int)+3)*(hm:Int))=(k:Int):=by rw [hkI,IntWalk.i64_in _ (by omega)]
    have hq5:=IntWalk.i64_in ((k:Int)+(n:Int)) (by omega)
    have hq6:=IntWalk.i64_in ((k:Int)+(n:Int)+3) (by omega)
    have hj0:(0:Int)<=(j:Nat):=by omega
    have hj1:((j:Nat):Int)<(l.length:Int):=by omega
    clear hO hOh hy hk hkI hhf hhm
    go_upto_region 5 with fail
    clear hq1 hq3 hq4 hn3
    have hs0:(0:Int)<=(k:Int):=by omega
    have hs1:(k:Int)<=(k:Int)+(n:Int)+3:=by omega
    have hs2:(k:Int)+(n:Int)+3<=(c:Int):=by omega
    have hs3:((k:Int)+(n:Int)+3).toNat=k+n+3:=by omega
    have hs4:k+n+3-k=n+3:=by omega
    have hs5:¬ c=k:=by omega
    have c_gd:wr.drew.cell? ⟨g,j,none⟩=some (.int .i64 (Y:Int)):=c_g
    refine wp_region_held_drew (S:=fun w'=>w'.cell? ⟨g,j,none⟩=some (.int .i64 (Y:Int))) rfl c_gd (fun hHeld=>?_)
    replace hl:=hl.extL (Ext.refl wr).drew hP.lt
    replace hg:=hg.ext (Ext.refl wr).drew hP.lt
    replace hK:=hK.trans (Keep.of_ext (B:=B) (Ext.refl wr).drew hP.lt hP.le)
    replace hP:=hP.drew
    clear c_g
    refine tkb 0 ?_
    iterate 15
     refine tkn (v:=?_) rfl (by kernel_rfl) (fun _ _ _ h=>h) (by assumption) ?_ ?_
     rotate_left
     · (intro w hSw;(try dsimp only at hSw);go_simp;try with_reducible rfl)
     try simp only [put_pack]
    refine tke ?_
    refine wpAnyH_ready (rs:=[15]) (by kernel_rfl) (by simp) ?_
    refine AllReadyH.cons rfl (fun K hKK=>?_) (AllReadyH.nil)
    go_simp
    refine rstepL hOk.out hK (yenter_r B p n me (Y % 2) D k o2 _ S2 rs b _ _ hP hl hnd.out h1 hn hme (yodd Y) hD) ?_
    clear hK hP hOk
    intro u o3 S3 w5 hlf hlt hP hk1 hK hO
    have hD3:o3=false->S3.left<D:=fun ho=>by
     have:=hD (hlt ho).1
     omega
    replace hg:=hg.keep hk1
    replace hl:=hl.keep hk1
    clear hk1 hlf hlt hnd hD
    have hf:=Lib.hid hO
    clear hO
    refine hKK.out _ _ (hg.at_ hch.out hyl.out) (fun hHeld=>?_)
    clear hKK K hHeld c_gd hs0 hs1 hs2 hs3 hs4 hs5 hq2 hq5 hq6 hj0 hj1
    try dsimp only
    refine wpAnyH_done (by kernel_rfl) ?_ _
    go_simp
    go_wp2_with fail
    refine⟨⟨j+1,o3,S3,by go_num,by omega,hP,hK,hg,hl,hD3,hf⟩,?_⟩
    simp [intOf];omega
  · obtain rfl:j=l.length:=by omega
    have hO:=hOh.out
    rw [List.drop_length] at hO
    have hf:=hO.ret (a:=()) hP hK
    clear hO hOh hP hK hl hg
    go_wp2_with fail
    first | exact hf | (refine bodyPost_ret (results_none rfl _ _ _) rfl ?_;exact hf)
set_option maxRecDepth 100000 in
set_option maxHeartbeats 2000000 in
theorem yrel_r (B p n me:Nat)(o:Bool)(S:TS)(rs:List Reg)(A:Option Addr)(c:Nat)(w:World)(h:RAt B w p o S)(h1:1<=n)(hn:n<=8)(hme:me<n)(hall:YAll rs n)(hc1:rs.length<=c)(_hc2:c<=9223372036854775807)
  (hreg:rs≠[]->∃ b,A=some ⟨b,0,none⟩/\RegsAt [3,4,5] w p b rs) :
  Calls Tryz.prog 20 #[.pointer (some ⟨p,0,none⟩),.slice A rs.length c,.int .i64 n,.int .i64 me] w (RPost encU B p w (yRel rs n me) o S):=by
 generalize hR:RPost encU B p w (yRel rs n me) o S=R
 have hO:ROwes R encU B p w (yRel rs n me) o S:=hR▸rowes _ _ _ _ _ _ _
 clear hR
 unfold yRel at hO
 have hmem:=fun y (hy:y∈pathL n me)=>pathL_mem (show n<=64 by omega) hme hy
 have hPth:=fun w=>rpath_r n me w h1 (show n<=64 by omega) hme
 have hlv:levels n<=3:=by
  have:∀ n:Nat,n<9->levels n<=3:=by decide +kernel
  exact this n (by omega)
 have hlen:=hall.len
 have hnode:=fun Y (h1:2<=Y) (h2:Y<2*2 ^ levels n)=>hall.node h1 h2
 have hle:=fun Y (h1:2<=Y) (h2:Y<2*2 ^ levels n)=>yo_le (n:=n) h1 h2
 have hP8:1<=2 ^ levels n/\2 ^ levels n<=8:=by
  have:∀ k:Nat,k<4->1<=2 ^ k/\2 ^ k<=8:=by decide
  exact this _ (by omega)
 have e:(2:Int) ^ levels n=((2 ^ levels n:Nat):Int):=by rw [Int.natCast_pow];rfl
 rw [e] at hmem
 have hll:(pathL n me).length<=128:=by
  have:=pathN_len (2 ^ levels n+me) (2 ^ levels n+me)
  unfold pathL
  omega
 have hrl:rs.length<=77:=by
  rw [hlen]
  exact Nat.le_trans (Nat.mul_le_mul (show 2 ^ levels n-1<=7 by omega) (show n+3<=11 by omega)) (by decide)
 clear e hlv hall
 generalize 2 ^ levels n=P at *
 generalize pathL n me=l at *
 have hmemh:=Lib.hid hmem
 have hnodeh:=Lib.hid hnode
 have hleh:=Lib.hid hle
 have hlenh:=Lib.hid hlen
 have hOh:=Lib.hid hO
 clear hmem hnode hle hlen hO
 go_enter Tryz.func20,Tryz.ntmps20
 go_wp2_with fail
 refine (hPth _).mono ?_
 rintro e w3 ⟨v3,rfl,hrow,hx3⟩
 obtain⟨A3,c3,rfl,hR⟩:=RowH.of_row (p:=p) (ix:=[3,4,5]) hrow (fun b hb=>h.fresh hx3 hb)
 have hK:=Keep.of_ext (ix:=[3,4,5]) (B:=B) hx3 h.lt h.le
 have hreg3:rs≠[]->∃ b,A=some ⟨b,0,none⟩/\RegsAt [3,4,5] w3 p b rs:=fun hne=>by
  obtain⟨b,e1,e2⟩:=hreg hne
  exact⟨b,e1,e2.extL hx3 h.lt⟩
 have hP:=h.ext hx3
 clear hreg hx3 hrow hPth h
 by_cases hl0:l=[]
 · subst hl0
   have hf:=hOh.out.ret (a:=()) hP hK
   clear hOh hmemh hR hreg3 hlenh
   go_wp2_with fail
   go_loopw [9] (fun i wr=>i=.int .i64 (-1)/\w3=wr) (fun _ _=>0)
   case atStart=>exact⟨rfl,rfl⟩
   case round =>
    obtain⟨rfl,rfl⟩:=hrel
    go_wp2_with fail
    first | exact hf | (refine bodyPost_ret (results_none rfl _ _ _) rfl ?_;exact hf)
 obtain⟨g,cur,rfl,hg,hcur⟩:=hR hl0
 obtain⟨b,rfl,hl⟩:=hreg3 (by
  obtain⟨y,l',rfl⟩:∃ y l',l=y :: l':=by cases l with | nil=>exact absurd rfl hl0 | cons y l'=>exact⟨y,l',rfl⟩
  have h1:=hmemh.out y (List.mem_cons_self ..)
  have h2:=hlenh.out
  have h3:=hleh.out y.toNat (by omega) (by omega)
  intro hne
  rw [hne,List.length_nil] at h2
  omega)
 have hch:=Lib.hid hcur
 clear hreg3 hR hl0 hcur
 go_wp2_with fail
 go_loopw [9,10] (fun i _ wr=>∃ (q:Nat) (o2:Bool) (S2:TS),i=.int .i64 ((q:Int)-1)/\q<=l.length/\RAt B wr p o2 S2/\KeepR B p w wr/\Held [3,4,5] wr p g (.cells cur 3)/\RegsAt [3,4,5] wr p b rs/\Hid (ROwes R encU B p w (forP (fun (x:Int) (_:Unit)=>yLeave rs (yo n x.toNat) n me (x.toNat % 2)) (l.take q).reverse ()) o2 S2)) (fun i _ _=>(intOf i+1).toNat)
 case atStart=>exact⟨l.length,o,S,rfl,by omega,hP,hK,hg,hl,by rw [List.take_length];exact hOh⟩
 case round =>
  clear hP hK hg hl hOh
  obtain⟨q,o2,S2,rfl,hj,hP,hK,hg,hl,hOh⟩:=hrel
  cases q with
  | zero =>
    have dj:decide ((0:Int)<=((0:Nat):Int)-1)=false:=by decide
    have hO:=hOh.out
    have hf:=hO.ret (a:=()) hP hK
    clear hO hOh hP hK hl hg
    go_wp2_with fail
    first | exact hf | (refine bodyPost_ret (results_none rfl _ _ _) rfl ?_;exact hf)
  | succ j =>
    have hjl:j<l.length:=by omega
    have hjI:(((j+1:Nat):Int)-1)=(j:Int):=by omega
    rw [hjI]
    have dj:decide ((0:Int)<=(j:Int))=true:=by rw [decide_eq_true_eq];omega
    obtain⟨y,hy⟩:∃ y,l[j]?=some y:=⟨_,List.getElem?_eq_getElem hjl⟩
    have hO:=hOh.out
    rw [List.take_add_one,hy,List.reverse_append] at hO
    have hyl:=Lib.hid hy
    have hym:=hmemh.out y (List.mem_of_getElem? hy)
    obtain⟨Y,rfl⟩:∃ Y:Nat,y=(Y:Int):=⟨y.toNat,by omega⟩
    have c_g:wr.cell? ⟨g,j,none⟩=some (.int .i64 (Y:Int)):=hg.at_ hch.out hy
    have hY2:2<=Y:=by omega
    have hYP:Y<2*P:=by omega
    obtain⟨k,hk⟩:∃ k,yo n Y=k:=⟨_,rfl⟩
    have hOk:Hid (ROwes R encU B p w (((yLeave rs k n me (Y % 2))).bind fun _=>forP (fun (x:Int) (_:Unit)=>yLeave rs (yo n x.toNat) n me (x.toNat % 2)) (l.take j).reverse ()) o2 S2):=Lib.hid (by rw [<- hk];exact hO)
    have hkl:k+(n+3)<=rs.length:=by
     have:=hleh.out Y hY2 hYP
     rw [<- hlenh.out,hk] at this
     exact this
    have hnd:=Lib.hid (hnodeh.out Y hY2 hYP)
    rw [hk] at hnd
    obtain⟨hf,hhf⟩:∃ hf:Nat,Y / 2=hf:=⟨_,rfl⟩
    obtain⟨hm,hhm⟩:∃ hm:Nat,hf-1=hm:=⟨_,rfl⟩
    have hq1:IntKind.i64.wrap ((Y:Int) / 2)=(hf:Int):=by rw [IntWalk.i64_in _ (by omega)];omega
    have hq2:(Y:Int).tmod 2=(Y:Int) % 2:=Int.tmod_eq_emod_of_nonneg (by omega)
    have hq3:IntKind.i64.wrap ((hf:Int)-1)=(hm:Int):=by rw [IntWalk.i64_in _ (by omega)];omega
    have hn3:=IntWalk.i64_in ((n:Int)+3) (by omega)
    have hkI:((n:Int)+3)*(hm:Int)=(k:Int):=by
     rw [<- hk]
     unfold yo
     rw [hhf,hhm,Nat.mul_comm,Int.natCast_mul]
     rfl
    have hq4:IntKind.i64.wrap (((n:Int)+3)*(hm:Int))=(k:Int):=by rw [hkI,IntWalk.i64_in _ (by omega)]
    have hq5:=IntWalk.i64_in ((k:Int)+(n:Int)) (by omega)
    have hq6:=IntWalk.i64_in ((k:Int)+(n:Int)+3) (by omega)
    have hj0:(0:Int)<=(j:Nat):=by omega
    have hj1:((j:Nat):Int)<(l.length:Int):=by omega
    clear hO hOh hy hk hkI hhf hhm
    go_upto_region 5 with fail
    clear hq1 hq3 hq4 hn3
    have hs0:(0:Int)<=(k:Int):=by omega
    have hs1:(k:Int)<=(k:Int)+(n:Int)+3:=by omega
    have hs2:(k:Int)+(n:Int)+3<=(c:Int):=by omega
    have hs3:((k:Int)+(n:Int)+3).toNat=k+n+3:=by omega
    have hs4:k+n+3-k=n+3:=by omega
    have hs5:¬ c=k:=by omega
    have c_gd:wr.drew.cell? ⟨g,j,none⟩=some (.int .i64 (Y:Int)):=c_g
    refine wp_region_held_drew (S:=fun w'=>w'.cell? ⟨g,j,none⟩=some (.int .i64 (Y:Int))) rfl c_gd (fun hHeld=>?_)
    replace hl:=hl.extL (Ext.refl wr).drew hP.lt
    replace hg:=hg.ext (Ext.refl wr).drew hP.lt
    replace hK:=hK.trans (Keep.of_ext (B:=B) (Ext.refl wr).drew hP.lt hP.le)
    replace hP:=hP.drew
    clear c_g
    refine tkb 0 ?_
    iterate 15
     refine tkn (v:=?_) rfl (by kernel_rfl) (fun _ _ _ h=>h) (by assumption) ?_ ?_
     rotate_left
     · (intro w hSw;(try dsimp only at hSw);go_simp;try with_reducible rfl)
     try simp only [put_pack]
    refine tke ?_
    refine wpAnyH_ready (rs:=[15]) (by kernel_rfl) (by simp) ?_
    refine AllReadyH.cons rfl (fun K hKK=>?_) (AllReadyH.nil)
    go_simp
    refine rstepL hOk.out hK (yleave_r B p n me (Y % 2) k o2 _ S2 rs b _ _ hP hl hnd.out h1 hn hme (yodd Y)) ?_
    clear hK hP hOk
    intro u o3 S3 w5 hlf hlt hP hk1 hK hO
    replace hg:=hg.keep hk1
    replace hl:=hl.keep hk1
    clear hk1 hlf hlt hnd
    have hf:=Lib.hid hO
    clear hO
    refine hKK.out _ _ (hg.at_ hch.out hyl.out) (fun hHeld=>?_)
    clear hKK K hHeld c_gd hs0 hs1 hs2 hs3 hs4 hs5 hq2 hq5 hq6 hj0 hj1
    try dsimp only
    refine wpAnyH_done (by kernel_rfl) ?_ _
    go_simp
    have hw9:=IntWalk.i64_in ((j:Int)-1) (by omega)
    go_wp2_with fail
    refine⟨⟨j,o3,S3,by first | rfl | go_num,by omega,hP,hK,hg,hl,hf⟩,?_⟩
    simp [intOf]
end Go.Proofs.YtbphlkaihfbgeaaGreat
namespace Kv
theorem yplay_all {n:Nat}(h1:1<=n)(h8:n<=8){mode:Int}{rs:List Reg}(h:layM (yAllW n) n mode 3 2=some rs)(hm:¬ (mode=2/\n≠2)):YAll rs n:=by
 obtain⟨⟨m1,m2,n1,n2,_,_⟩,hwr,_⟩:=layM_args h
 by_cases e:mode=1
 · subst e
   obtain⟨rs',q1,q2,_⟩:=yang_lay n h1 h8
   rw [h] at q1
   obtain rfl:rs=rs':=by simpa using q1
   exact q2
 · obtain rfl:mode=2:=by omega
   refine⟨by rw [layM_len h,yAllW_len],fun i hi=>?_⟩
   obtain⟨q,hq⟩:∃ q,(yAllW n)[i]?=some q:=⟨_,List.getElem?_eq_getElem (by rw [<- layM_len h];exact hi)⟩
   obtain⟨r,hr,hl⟩:=layM_at h hq
   have hqw:=hwr q (List.mem_of_getElem? hq)
   obtain⟨a1,a2,a3⟩:=hl.ok ⟨n1,n2⟩ hqw
   have hw:=yAllW_wr q (List.mem_of_getElem? hq)
   obtain rfl:n=2:=by omega
   obtain⟨⟨b,c,rfl,_,_⟩,_⟩:=hl
   have hk:(regOf ((2:Nat):Int) 2 b c q).kind=7:=by
    show kindM 2 q.wr=7
    unfold kindM
    rw [if_pos rfl,hw,if_neg (by decide)]
   refine⟨_,hr,a1,a2,fun me=>.inr (.inr ⟨hk,?_⟩),?_⟩
   · rw [a2];decide
   · unfold cellsM
     rw [if_neg (by omega),if_neg (by omega),a2]
     decide
theorem YAll.first {rs:List Reg}{n:Nat}(h:YAll rs n)(h2:2<=n)(h8:n<=8):YRegs rs 0 n/\n+3<=rs.length:=by
 have hL:2<=2 ^ levels n:=by
  have:∀ n:Nat,n<9->2<=n->2<=2 ^ levels n:=by decide +kernel
  exact this n (by omega) h2
 have:=h.node (Y:=2) (by omega) (by omega)
 refine⟨by simpa [yo] using this,?_⟩
 rw [h.len]
 exact Nat.le_trans (by omega) (Nat.mul_le_mul_right (n+3) (show 1<=2 ^ levels n-1 by omega))
end Kv
namespace Go.Proofs.YtbphlkaihfbgeaaGreat
open Go.RowKit Kv
set_option maxRecDepth 100000 in
theorem ypcl1 (B p n t D:Nat)(S:TS)(A:Option Addr)(c bl bx bt:Nat)(rs:List Reg)(w:World)(h:Plays B w p S)(hl:rs≠[]->∃ b,A=some ⟨b,0,none⟩/\RegsAt [2,3,4] w p b rs)(he:YAll rs n)(h1:1<=n)(h8:n<=8)(ht:t<n)(hc1:rs.length<=c)(hc2:c<=9223372036854775807)(hta:TameA S)(hD:S.left<D)
  (c1:w.cell? ⟨bl,0,none⟩=some (.slice A rs.length c))(c2:w.cell? ⟨bx,0,none⟩=some (.int .i64 n))(c3:w.cell? ⟨bt,0,none⟩=some (.int .i64 t)) :
  Calls Tryz.prog 14 #[.pointer (some ⟨p,0,none⟩),.pointer (some ⟨bl,0,none⟩),.pointer (some ⟨bx,0,none⟩),.pointer (some ⟨bt,0,none⟩)] w (Post encI B p w (((yAcq D rs n t).bind fun _=>Prog.ret (0:Int)).run S)):=by
 have hq:=yacq_p B p n t D S rs A c w h h1 h8 ht he hc1 hc2 hl hta hD
 obtain⟨m,hm⟩:∃ m,rs.length=m:=⟨_,rfl⟩
 rw [hm] at hq c1
 clear hm hc1 he hl
 generalize hR:Post encI B p w ((((yAcq D rs n t).bind fun _=>Prog.ret (0:Int))).run S)=R
 have hO:Owes R encI B p w ((((yAcq D rs n t).bind fun _=>Prog.ret (0:Int))).run S):=hR▸owes _ _ _ _ _
 clear hR
 have hK:=Keep.refl [2,3,4] B p w
 go_enter Tryz.func14,Tryz.ntmps14
 go_wp2_with fail
 clear c1 c2 c3
 refine tstep hO hK hq (fun _ h=>⟨rfl,h⟩) ?_
 intro v S1 w1 hr hP1 hk1 hK1 hO1
 have hf:=hO1.done (v:=0) hP1 hK1
 clear hO1 hP1 hK1 hr hk1 hO h hK hq
 go_wp2_with fail
 first | exact hf | (go_ret;exact hf)
set_option maxRecDepth 100000 in
theorem ypcl2 (B p n t D:Nat)(S:TS)(A:Option Addr)(c bl bx bt:Nat)(rs:List Reg)(w:World)(h:Plays B w p S)(hl:rs≠[]->∃ b,A=some ⟨b,0,none⟩/\RegsAt [2,3,4] w p b rs)(he:YAll rs n)(h1:1<=n)(h8:n<=8)(ht:t<n)(hc1:rs.length<=c)(hc2:c<=9223372036854775807)(hta:TameA S)(hD:S.left<D)
  (c1:w.cell? ⟨bl,0,none⟩=some (.slice A rs.length c))(c2:w.cell? ⟨bx,0,none⟩=some (.int .i64 n))(c3:w.cell? ⟨bt,0,none⟩=some (.int .i64 t)) :
  Calls Tryz.prog 18 #[.pointer (some ⟨p,0,none⟩),.pointer (some ⟨bl,0,none⟩),.pointer (some ⟨bx,0,none⟩),.pointer (some ⟨bt,0,none⟩)] w (Post encI B p w (((yRel rs n t).bind fun _=>Prog.ret (0:Int)).run S)):=by
 have hq:=yrel_p B p n t D S rs A c w h h1 h8 ht he hc1 hc2 hl hta hD
 obtain⟨m,hm⟩:∃ m,rs.length=m:=⟨_,rfl⟩
 rw [hm] at hq c1
 clear hm hc1 he hl
 generalize hR:Post encI B p w ((((yRel rs n t).bind fun _=>Prog.ret (0:Int))).run S)=R
 have hO:Owes R encI B p w ((((yRel rs n t).bind fun _=>Prog.ret (0:Int))).run S):=hR▸owes _ _ _ _ _
 clear hR
 have hK:=Keep.refl [2,3,4] B p w
 go_enter Tryz.func18,Tryz.ntmps18
 go_wp2_with fail
 clear c1 c2 c3
 refine tstep hO hK hq (fun _ h=>⟨rfl,h⟩) ?_
 intro v S1 w1 hr hP1 hk1 hK1 hO1
 have hf:=hO1.done (v:=0) hP1 hK1
 clear hO1 hP1 hK1 hr hk1 hO h hK hq
 go_wp2_with fail
 first | exact hf | (go_ret;exact hf)
set_option maxRecDepth 100000 in
theorem ypcl3 (B p n t D sd:Nat)(Mode Side Me:Int)(vL vA:Value)(S:TS)(b c bl bx bt:Nat)(rs:List Reg)(w:World)(h:Plays B w p S)(hl:RegsAt [2,3,4] w p b rs)(he:YRegs rs 0 n)(h1:1<=n)(h8:n<=8)(ht:t<n)(hsd:(if Side=0 then 0 else 1)=sd)(hta:TameA S)(hD:S.left<D)
  (c1:HeldP w p bl (.cells #[.slice (some ⟨b,0,none⟩) (n+3) c] 29))(c2:HeldP w p bx (.cells #[.int .i64 n,.int .i64 Mode,.int .i64 Side,.int .i64 Me,vL,vA] 24))(c3:HeldP w p bt (.cells #[.int .i64 t] 3)) :
  Calls Tryz.prog 23 #[.pointer (some ⟨p,0,none⟩),.pointer (some ⟨bl,0,none⟩),.pointer (some ⟨bx,0,none⟩),.pointer (some ⟨bt,0,none⟩)] w (Post encI B p w (((yEnter D rs 0 n t sd).bind fun _=>(yLeave rs 0 n t sd).bind fun _=>Prog.ret (0:Int)).run S)):=by
 have hq1:=Lib.hid fun W S' (hP:Plays B W p S') (hk:KeepP B p w W) (hta:TameA S') (hD:S'.left<D)=>yenter_p B p n t sd D 0 Side S' rs b c W hP (hl.keep hk) he h1 h8 ht hsd hta hD
 have hq2:=Lib.hid fun W S' (hP:Plays B W p S') (hk:KeepP B p w W) (hta:TameA S') (hD:S'.left<D)=>yleave_p B p n t sd D 0 Side S' rs b c W hP (hl.keep hk) he h1 h8 ht hsd hta hD
 simp only [Nat.zero_mul] at hq1 hq2
 clear he hl hsd
 generalize hR:Post encI B p w (((yEnter D rs 0 n t sd).bind fun _=>(yLeave rs 0 n t sd).bind fun _=>Prog.ret (0:Int)).run S)=R
 have hO:Owes R encI B p w (((yEnter D rs 0 n t sd).bind fun _=>(yLeave rs 0 n t sd).bind fun _=>Prog.ret (0:Int)).run S):=hR▸owes _ _ _ _ _
 clear hR
 have hK:=Keep.refl [2,3,4] B p w
 have hP:=h
 have c_1:=c1.cells
 have c_2:=c2.cells
 have c_3:=c3.cells
 clear h
 go_enter Tryz.func23,Tryz.ntmps23
 go_wp2_with fail
 refine tstep hO hK (hq1.out _ _ hP hK hta hD) (fun _ h=>⟨rfl,h⟩) ?_
 clear hO hP
 intro v S1 w1 hr hP hk1 hK1 hO
 replace hta:=hta.run hr
 replace hD:=Nat.lt_of_le_of_lt (bind_ran (g:=fun u=>Prog.ret u) hr) hD
 replace c1:=c1.keep hk1
 replace c2:=c2.keep hk1
 replace c3:=c3.keep hk1
 clear hr hk1 hK c_1 c_2 c_3
 have c_1:=c1.cells
 have c_2:=c2.cells
 have c_3:=c3.cells
 go_wp2_with fail
 refine tstep hO hK1 (hq2.out _ _ hP hK1 hta hD) (fun _ h=>⟨rfl,h⟩) ?_
 clear hO hP
 intro v S2 w2 hr hP hk2 hK2 hO
 have hf:=hO.done (v:=0) hP hK2
 clear hO hP hK1 hK2 hr hk2 c1 c2 c3 c_1 c_2 c_3 hq1 hq2
 go_wp2_with fail
 first | exact hf | (go_ret;exact hf)
theorem ytame_bd (L:List Int):∀ v∈tameL L 1048576,0<=v/\v<=1048576:=by
 intro v hv
 unfold tameL at hv
 obtain⟨x,_,rfl⟩:=List.mem_map.1 hv
 have h1:=wrapI_bd x 1048576
 have h2:clamp 1048576 1099511627776=1048576:=by decide
 omega
theorem ypheld {w0 W:World}{B p bb:Nat}{S:TS}{o:Obj}(hb:Blk w0 bb o)(hx:Ext w0 W)(hP:Plays B W p S)(hB:w0.heap.size<=B):HeldP W p bb o:=by
 refine⟨hb.ext hx,fun ho=>?_⟩
 obtain⟨_,_,_,_,_,_,h⟩:=hP
 have:=(h.own ho).1
 have:=hb.lt
 omega
theorem yfine_no (N:Int)(h:N<1∨8<N):∀ W,Calls Tryz.prog 28 #[.int .i64 N] W fun e w'=>e=.returned (.bool false)/\W=w':=fun W=>by
 by_cases h1:N<1
 · have d1:decide (1<=N)=false:=by rw [decide_eq_false_iff_not];omega
   go_enter Tryz.func28,Tryz.ntmps28
   go_wp2_with fail
   go_ret
   exact⟨rfl,rfl⟩
 · have d1:decide (1<=N)=true:=by rw [decide_eq_true_eq];omega
   have d2:decide (N<=8)=false:=by rw [decide_eq_false_iff_not];omega
   go_enter Tryz.func28,Tryz.ntmps28
   go_wp2_with fail
   go_ret
   exact⟨rfl,rfl⟩
theorem ywants_no (N:Int)(h:N<1∨8<N)(w:World):Calls Tryz.prog 5 #[.int .i64 N] w fun e w'=>e=.returned (.slice none 0 0)/\Ext w w':=by
 have hf:=yfine_no N h
 go_enter Tryz.func5,Tryz.ntmps5
 go_wp2_with fail
 refine (hf _).mono ?_
 rintro e w2 ⟨rfl,rfl⟩
 go_wp2_with fail
 go_ret
 exact⟨rfl,Ext.refl w⟩
theorem yall_no (N:Int)(h:N<1∨8<N)(w:World):Calls Tryz.prog 4 #[.int .i64 N] w fun e w'=>e=.returned (.slice none 0 0)/\Ext w w':=by
 have hf:=yfine_no N h
 go_enter Tryz.func4,Tryz.ntmps4
 go_wp2_with fail
 refine (hf _).mono ?_
 rintro e w2 ⟨rfl,rfl⟩
 go_wp2_with fail
 go_ret
 exact⟨rfl,Ext.refl w⟩
set_option maxRecDepth 100000 in
set_option maxHeartbeats 4000000 in
theorem yplays_walk (N Mode Side Me:Int)(vL vA:Value)(Ll La:List Int)(w:World)(hL:Ints w vL Ll)(hA:Ints w vA La) :
  Calls Tryz.prog 3 #[.agg #[.int .i64 N,.int .i64 Mode,.int .i64 Side,.int .i64 Me,vL,vA]] w fun e w'=>e=.returned (.bool true)/\Ext w w':=by
 obtain⟨Al,cl,rfl,p1,p2⟩:=hL.slice
 obtain⟨Aa,ca,rfl,p3,p4⟩:=hA.slice
 have hmf:∀ (fn:Fn) (first cap:Array Value) (w:World),(Instr.makeFunc fn first cap).run Tryz.prog w=.ok (.func fn first cap) w:=fun _ _ _ _=>rfl
 clear hL
 by_cases hN:1<=N/\N<=8
 case neg =>
  -- [dev
  have hN2:N<1∨8<N:=by omega
  clear hN hA
  have hall:=yall_no N hN2
  have hwan:=ywants_no N hN2
  have hd:(decide (N<1)=true)∨(decide (N<1)=false/\decide (8<N)=true):=by
   rw [decide_eq_true_eq,decide_eq_false_iff_not,decide_eq_true_eq]
   omega
  clear hN2
  have hX:=Ext.refl w
  have b1:=Blk.new w (.cells #[.int .i64 N,.int .i64 Mode,.int .i64 Side,.int .i64 Me,.slice Al Ll.length cl,.slice Aa La.length ca] 24)
  replace hX:=hX.alloc (.cells #[.int .i64 N,.int .i64 Mode,.int .i64 Side,.int .i64 Me,.slice Al Ll.length cl,.slice Aa La.length ca] 24)
  have c_b1:=b1.cells
  go_enter Tryz.func3,Tryz.ntmps3
  rcases hd with d1 | ⟨d1,d2⟩
  · go_wp2_with fail
    generalize World.alloc w _=W0 at *
    have hE:=(Ext.refl W0).drew
    have hS:∀ w',Ext W0 w'->(∀ i,w'.cell? ⟨w.heap.size,i,none⟩=(#[.int .i64 N,.int .i64 Mode,.int .i64 Side,.int .i64 Me,.slice Al Ll.length cl,.slice Aa La.length ca]:Array Value)[i]?):=fun w' hx=>(b1.ext hx).cells
    go_region_held2 (fun w'=>∀ i,w'.cell? ⟨w.heap.size,i,none⟩=(#[.int .i64 N,.int .i64 Mode,.int .i64 Side,.int .i64 Me,.slice Al Ll.length cl,.slice Aa La.length ca]:Array Value)[i]?) (exact hS _ hE)
     (first
       | (go_at_call 4
          refine (hall _).mono ?_
          rintro e wA ⟨rfl,hxa⟩
          replace hE:=hE.trans hxa)
       | (go_at_call 5
          refine (hwan _).mono ?_
          rintro e wB ⟨rfl,hxb⟩
          replace hE:=hE.trans hxb)
       | (go_at_call 6
          refine (alive47 _).mono ?_
          rintro e wC ⟨rfl,hxc⟩
          replace hE:=hE.trans hxc))
    have hf:=Lib.hid (hX.trans hE)
    go_wp2_with fail
    go_ret
    exact⟨rfl,hf.out⟩
  · go_wp2_with fail
    generalize World.alloc w _=W0 at *
    have hE:=(Ext.refl W0).drew
    have hS:∀ w',Ext W0 w'->(∀ i,w'.cell? ⟨w.heap.size,i,none⟩=(#[.int .i64 N,.int .i64 Mode,.int .i64 Side,.int .i64 Me,.slice Al Ll.length cl,.slice Aa La.length ca]:Array Value)[i]?):=fun w' hx=>(b1.ext hx).cells
    go_region_held2 (fun w'=>∀ i,w'.cell? ⟨w.heap.size,i,none⟩=(#[.int .i64 N,.int .i64 Mode,.int .i64 Side,.int .i64 Me,.slice Al Ll.length cl,.slice Aa La.length ca]:Array Value)[i]?) (exact hS _ hE)
     (first
       | (go_at_call 4
          refine (hall _).mono ?_
          rintro e wA ⟨rfl,hxa⟩
          replace hE:=hE.trans hxa)
       | (go_at_call 5
          refine (hwan _).mono ?_
          rintro e wB ⟨rfl,hxb⟩
          replace hE:=hE.trans hxb)
       | (go_at_call 6
          refine (alive47 _).mono ?_
          rintro e wC ⟨rfl,hxc⟩
          replace hE:=hE.trans hxc))
    have hf:=Lib.hid (hX.trans hE)
    go_wp2_with fail
    go_ret
    exact⟨rfl,hf.out⟩
  -- dev]
 obtain⟨n,rfl⟩:∃ n:Nat,N=n:=⟨N.toNat,by omega⟩
 have n1:1<=n:=by omega
 have n8:n<=8:=by omega
 clear hN
 have d1:decide ((n:Int)<1)=false:=by rw [decide_eq_false_iff_not];omega
 have d1b:decide (n<1)=false:=by rw [decide_eq_false_iff_not];omega
 have d1c:decide (n=0)=false:=by rw [decide_eq_false_iff_not];omega
 have d2:decide ((8:Int)<(n:Int))=false:=by rw [decide_eq_false_iff_not];omega
 have d2b:decide (8<n)=false:=by rw [decide_eq_false_iff_not];omega
 have hX:=Ext.refl w
 have b1:=Blk.new w (.cells #[.int .i64 (n:Int),.int .i64 Mode,.int .i64 Side,.int .i64 Me,.slice Al Ll.length cl,.slice Aa La.length ca] 24)
 replace hX:=hX.alloc (.cells #[.int .i64 (n:Int),.int .i64 Mode,.int .i64 Side,.int .i64 Me,.slice Al Ll.length cl,.slice Aa La.length ca] 24)
 have c_b1:=b1.cells
 have hAh:=Lib.hid (hA.ext hX)
 clear hA
 go_enter Tryz.func3,Tryz.ntmps3
 go_wp2_with fail
 generalize World.alloc w _=W0 at *
 clear d1 d1b d1c d2 d2b
 have hE:=(Ext.refl W0).drew
 have hS:∀ w',Ext W0 w'->(∀ i,w'.cell? ⟨w.heap.size,i,none⟩=(#[.int .i64 (n:Int),.int .i64 Mode,.int .i64 Side,.int .i64 Me,.slice Al Ll.length cl,.slice Aa La.length ca]:Array Value)[i]?):=fun w' hx=>(b1.ext hx).cells
 go_region_held2 (fun w'=>∀ i,w'.cell? ⟨w.heap.size,i,none⟩=(#[.int .i64 (n:Int),.int .i64 Mode,.int .i64 Side,.int .i64 Me,.slice Al Ll.length cl,.slice Aa La.length ca]:Array Value)[i]?) (exact hS _ hE)
  (first
    | (go_at_call 4
       refine (yallw_p n _ n1 n8).mono ?_
       rintro e wA ⟨va,rfl,hWa,hxa⟩
       replace hE:=hE.trans hxa
       try replace hWb:=hWb.ext hxa)
    | (go_at_call 8
       refine (yallw_r n _ n1 n8).mono ?_
       rintro e wB ⟨vb,rfl,hWb,hxb⟩
       replace hE:=hE.trans hxb
       try replace hWa:=hWa.ext hxb)
    | (go_at_call 5
       refine (ywants_p n _ n1 n8).mono ?_
       rintro e wC ⟨vc,rfl,hWc,hxc⟩
       replace hE:=hE.trans hxc
       try replace hWd:=hWd.ext hxc)
    | (go_at_call 9
       refine (ywants_r n _ n1 n8).mono ?_
       rintro e wD ⟨vd,rfl,hWd,-,hxd⟩
       replace hE:=hE.trans hxd
       try replace hWc:=hWc.ext hxd)
    | (go_at_call_of 7 vc
       refine (same_w _ _ _ _ hWc hWd (by rw [yWants_len];omega)).mono ?_
       rintro e wF ⟨rfl,hxf⟩
       replace hE:=hE.trans hxf)
    | (go_at_call_of 7 va
       refine (same_w _ _ _ _ hWa hWb (by have:=yAllW_le n8;omega)).mono ?_
       rintro e wG ⟨rfl,hxg⟩
       replace hE:=hE.trans hxg))
 rename_i hh
 clear hh hS
 generalize hk0:(layM (yAllW n) (n:Int) Mode 3 2).getD []=rs
 obtain⟨KN,hKN⟩:∃ KN,(yAllW n).length=KN:=⟨_,rfl⟩
 have hWp:∀ W,Calls Tryz.prog 8 #[.int .i64 n] W fun e w'=>∃ A c,e=.returned (.slice A KN c)/\Ext W w'/\∀ W2,Ext w' W2->Calls Tryz.prog 10 #[.slice A KN c,.int .i64 n,.int .i64 Mode] W2 fun e w'=>∃ A c,e=.returned (.slice A rs.length c)/\rs.length<=c/\c<=9223372036854775807/\Ext W2 w'/\(rs≠[]->∃ b,A=some ⟨b,0,none⟩/\b<w'.heap.size/\(∀ (i:Nat) u,(rs.flatMap regVals)[i]?=some u->w'.cell? ⟨b,i,none⟩=some u)):=fun W=>by
  refine (yallw_r n W n1 n8).mono ?_
  rintro e w1 ⟨v1,rfl,hW,hx⟩
  obtain⟨A,c,rfl,z⟩:=id hW
  rw [hKN] at *
  refine⟨A,c,rfl,hx,fun W2 hx2=>(some_r _ _ (n:Int) Mode W2 (hW.ext hx2) (by have:=yAllW_le n8;omega)).mono ?_⟩
  rintro e w' ⟨v,rfl,hx3,hrow⟩
  rw [hk0] at hrow
  obtain⟨Ar,cr,rfl,r1,r2,hV⟩:=Recs.of_row hrow
  refine⟨Ar,cr,rfl,r1,r2,hx3,fun hne=>?_⟩
  obtain⟨b,e1,e2,e3⟩:=hV (by
   cases rs with
   | nil=>exact absurd rfl hne
   | cons r rs=>simp [regVals])
  exact⟨b,e1,e2,e3⟩
 have hb3:=b1.ext hE
 have hX3:=hX.trans hE
 replace hAh:=Lib.hid (hAh.out.ext hE)
 clear hX b1 hE
 clear hWa hWb hWc hWd
 have hk0h:=Lib.hid hk0
 have hKNh:=Lib.hid hKN
 clear hk0 hKN
 go_upto_region 5 with fail
 obtain⟨V0,hV0⟩:∃ V0,V0=wF:=⟨_,rfl⟩
 subst hV0
 have hS:∀ w',Ext V0 w'->(∀ i,w'.cell? ⟨w.heap.size,i,none⟩=(#[.int .i64 (n:Int),.int .i64 Mode,.int .i64 Side,.int .i64 Me,.slice Al Ll.length cl,.slice Aa La.length ca]:Array Value)[i]?):=fun w' hx=>(hb3.ext hx).cells
 go_cut [3] (fun s3 wx=>∃ bl A c,s3=.pointer (some ⟨bl,0,none⟩)/\rs.length<=c/\c<=9223372036854775807/\Ext V0 wx/\V0.heap.size<=bl/\Blk wx bl (.cells #[.slice A rs.length c] 29)/\(rs≠[]->∃ b,A=some ⟨b,0,none⟩/\b<wx.heap.size/\(∀ (i:Nat) u,(rs.flatMap regVals)[i]?=some u->wx.cell? ⟨b,i,none⟩=some u)))
 case first =>
  -- [dev
  skip
  have hWh:=Lib.hid hWp
  clear hWp
  refine wp_region_held_drew (S:=fun w'=>∀ i,w'.cell? ⟨w.heap.size,i,none⟩=(#[.int .i64 (n:Int),.int .i64 Mode,.int .i64 Side,.int .i64 Me,.slice Al Ll.length cl,.slice Aa La.length ca]:Array Value)[i]?) rfl (hS _ (Ext.refl _).drew) (fun hHeld=>?_)
  refine tk 0 (v:=?_) rfl (by kernel_rfl) (fun _ _ _ h=>h) (by assumption) ?_ ?_
  rotate_left
  · (intro w hSw;(try dsimp only at hSw);go_simp;try with_reducible rfl)
  try simp only [put_pack]
  refine tk 1 (v:=?_) rfl (by kernel_rfl) (fun _ _ _ h=>h) (by assumption) ?_ ?_
  rotate_left
  · (intro w hSw;(try dsimp only at hSw);go_simp;try with_reducible rfl)
  try simp only [put_pack]
  refine tkb 3 ?_
  iterate 4
   refine tkn (v:=?_) rfl (by kernel_rfl) (fun _ _ _ h=>h) (by assumption) ?_ ?_
   rotate_left
   · (intro w hSw;(try dsimp only at hSw);go_simp;try with_reducible rfl)
   try simp only [put_pack]
  refine tke ?_
  refine wpAnyH_ready (rs:=[2,8]) (by kernel_rfl) (by simp) ?_
  refine AllReadyH.cons rfl (fun K hKK=>?_) (AllReadyH.cons rfl (fun K hKK=>?_) (AllReadyH.nil))
  · go_simp
    refine (hWh.out _).mono ?_
    rintro e w1 ⟨A,c0,rfl,hx1,hs1⟩
    have hx1d:=(Ext.refl V0).drew.trans hx1
    refine hKK.out _ _ (hS _ hx1d) (fun hHeld=>?_)
    clear hKK K
    try dsimp only
    refine wpAnyH_ready (rs:=[7,8]) (by kernel_rfl) (by simp) ?_
    refine AllReadyH.cons rfl (fun K hKK=>?_) (AllReadyH.cons rfl (fun K hKK=>?_) (AllReadyH.nil))
    · go_simp
      refine (hs1 _ (Ext.refl _)).mono ?_
      rintro e w2 ⟨A,c,rfl,u1,u2,hx2,hreg⟩
      have hx3:=hx1d.trans hx2
      refine hKK.out _ _ (hS _ hx3) (fun hHeld=>?_)
      clear hKK K
      try dsimp only
      have hz:=Blk.new w2 (.cells #[.slice none 0 0] 29)
      have hxq:=hx3.alloc (.cells #[.slice none 0 0] 29)
      have hVz:V0.heap.size<=w2.heap.size:=hx3.size
      replace hreg:=fun hne:rs≠[]=>(hreg hne).imp fun b hb=>show A=some ⟨b,0,none⟩/\b<(w2.alloc (.cells #[.slice none 0 0] 29)).heap.size/\(∀ (i:Nat) u,(rs.flatMap regVals)[i]?=some u->(w2.alloc (.cells #[.slice none 0 0] 29)).cell? ⟨b,i,none⟩=some u) from ⟨hb.1,by have:=hb.2.1;simp;omega,fun i u hu=>(((Ext.refl w2).alloc (.cells #[.slice none 0 0] 29)).cell (p:=⟨b,i,none⟩) hb.2.1).trans (hb.2.2 i u hu)⟩
      refine wpAnyH_ready (rs:=[8]) (by kernel_rfl) (by simp) ?_
      refine AllReadyH.cons rfl (fun K hKK=>?_) (AllReadyH.nil)
      go_simp
      generalize w2.heap.size=bl at *
      generalize World.alloc w2 _=wq at *
      refine hKK.out _ _ (hS _ hxq) (fun hHeld=>?_)
      clear hKK K
      try dsimp only
      have c_hz:=hz.cells 0
      have hfz:=frozen_of_heap hz 0
      refine wpAnyH_ready (rs:=[9]) (by kernel_rfl) (by simp) ?_
      refine AllReadyH.cons rfl (fun K hKK=>?_) (AllReadyH.nil)
      simp only [List.getElem?_toArray,List.getElem?_cons_zero] at c_hz
      go_simp
      clear c_hz hfz
      obtain⟨z1,z2⟩:=box_end (v:=.slice A rs.length c) hz hxq hVz
      have hreg2:=fun hne:rs≠[]=>(hreg hne).imp fun b hb=>show A=some ⟨b,0,none⟩/\b<_/\_ from ⟨hb.1,(lay_end (v:=.slice A rs.length c) hz hxq hVz hb.2.1 hne hb.2.2).2.2⟩
      refine hKK.out _ _ (hS _ z1) (fun hHeld=>?_)
      clear hKK K
      try dsimp only
      refine wpAnyH_done (by kernel_rfl) ?_ _
      go_simp
      go_wp2_with fail
      go_meet
      exact⟨_,A,c,rfl,u1,u2,z1,hVz,z2,hreg2⟩
    · go_simp
      have hz:=Blk.new w1 (.cells #[.slice none 0 0] 29)
      have hxq:=hx1d.alloc (.cells #[.slice none 0 0] 29)
      have hs2:=hs1 _ ((Ext.refl w1).alloc (.cells #[.slice none 0 0] 29))
      have hVz:V0.heap.size<=w1.heap.size:=hx1d.size
      generalize w1.heap.size=bl at *
      generalize World.alloc w1 _=wq at *
      refine hKK.out _ _ (hS _ hxq) (fun hHeld=>?_)
      clear hKK K
      try dsimp only
      refine wpAnyH_ready (rs:=[7]) (by kernel_rfl) (by simp) ?_
      refine AllReadyH.cons rfl (fun K hKK=>?_) (AllReadyH.nil)
      go_simp
      refine (hs2).mono ?_
      rintro e w2 ⟨A,c,rfl,u1,u2,hx2,hreg⟩
      have hx3:=hxq.trans hx2
      refine hKK.out _ _ (hS _ hx3) (fun hHeld=>?_)
      clear hKK K
      try dsimp only
      replace hz:=hz.ext hx2
      replace hxq:=hx3
      have c_hz:=hz.cells 0
      have hfz:=frozen_of_heap hz 0
      refine wpAnyH_ready (rs:=[9]) (by kernel_rfl) (by simp) ?_
      refine AllReadyH.cons rfl (fun K hKK=>?_) (AllReadyH.nil)
      simp only [List.getElem?_toArray,List.getElem?_cons_zero] at c_hz
      go_simp
      clear c_hz hfz
      obtain⟨z1,z2⟩:=box_end (v:=.slice A rs.length c) hz hxq hVz
      have hreg2:=fun hne:rs≠[]=>(hreg hne).imp fun b hb=>show A=some ⟨b,0,none⟩/\b<_/\_ from ⟨hb.1,(lay_end (v:=.slice A rs.length c) hz hxq hVz hb.2.1 hne hb.2.2).2.2⟩
      refine hKK.out _ _ (hS _ z1) (fun hHeld=>?_)
      clear hKK K
      try dsimp only
      refine wpAnyH_done (by kernel_rfl) ?_ _
      go_simp
      go_wp2_with fail
      go_meet
      exact⟨_,A,c,rfl,u1,u2,z1,hVz,z2,hreg2⟩
  · go_simp
    have hz:Blk ((World.drew V0).alloc (.cells #[.slice none 0 0] 29)) V0.heap.size (.cells #[.slice none 0 0] 29):=Blk.new (World.drew V0) (.cells #[.slice none 0 0] 29)
    have hxq:=(Ext.refl V0).drew.alloc (.cells #[.slice none 0 0] 29)
    have hVz:V0.heap.size<=V0.heap.size:=Nat.le_refl _
    refine hKK.out _ _ (hS _ hxq) (fun hHeld=>?_)
    clear hKK K
    try dsimp only
    refine wpAnyH_ready (rs:=[2]) (by kernel_rfl) (by simp) ?_
    refine AllReadyH.cons rfl (fun K hKK=>?_) (AllReadyH.nil)
    go_simp
    refine (hWh.out _).mono ?_
    rintro e w1 ⟨A,c0,rfl,hx1,hs1⟩
    replace hz:=hz.ext hx1
    replace hxq:=hxq.trans hx1
    refine hKK.out _ _ (hS _ hxq) (fun hHeld=>?_)
    clear hKK K
    try dsimp only
    refine wpAnyH_ready (rs:=[7]) (by kernel_rfl) (by simp) ?_
    refine AllReadyH.cons rfl (fun K hKK=>?_) (AllReadyH.nil)
    go_simp
    refine (hs1 _ (Ext.refl _)).mono ?_
    rintro e w2 ⟨A,c,rfl,u1,u2,hx2,hreg⟩
    have hx3:=hxq.trans hx2
    refine hKK.out _ _ (hS _ hx3) (fun hHeld=>?_)
    clear hKK K
    try dsimp only
    replace hz:=hz.ext hx2
    replace hxq:=hx3
    have c_hz:=hz.cells 0
    have hfz:=frozen_of_heap hz 0
    refine wpAnyH_ready (rs:=[9]) (by kernel_rfl) (by simp) ?_
    refine AllReadyH.cons rfl (fun K hKK=>?_) (AllReadyH.nil)
    simp only [List.getElem?_toArray,List.getElem?_cons_zero] at c_hz
    go_simp
    clear c_hz hfz
    obtain⟨z1,z2⟩:=box_end (v:=.slice A rs.length c) hz hxq hVz
    have hreg2:=fun hne:rs≠[]=>(hreg hne).imp fun b hb=>show A=some ⟨b,0,none⟩/\b<_/\_ from ⟨hb.1,(lay_end (v:=.slice A rs.length c) hz hxq hVz hb.2.1 hne hb.2.2).2.2⟩
    refine hKK.out _ _ (hS _ z1) (fun hHeld=>?_)
    clear hKK K
    try dsimp only
    refine wpAnyH_done (by kernel_rfl) ?_ _
    go_simp
    go_wp2_with fail
    go_meet
    exact⟨_,A,c,rfl,u1,u2,z1,hVz,z2,hreg2⟩
  -- dev]
 case rest =>
 obtain⟨bl,A,c,rfl,u1,u2,hx0,hVl,kL,hreg⟩:=hcut
 clear hWp hS
 have kN:=hb3.ext hx0
 have hX4:=hX3.trans hx0
 replace hAh:=Lib.hid (hAh.out.ext hx0)
 clear hX3 hb3 hVl
 have hAlh:=Lib.hid (fun W=>show Calls Tryz.prog 8 #[.int .i64 n] W fun e w'=>∃ A c,e=.returned (.slice A KN c)/\Ext W w' from (yallw_r n W n1 n8).mono fun e w' h=>by
  obtain⟨v1,rfl,⟨A,c,rfl,_⟩,hx⟩:=h
  exact⟨A,c,by rw [hKNh.out],hx⟩)
 obtain⟨k,hk⟩:∃ k,rs.length=k:=⟨_,rfl⟩
 have u1h:=Lib.hid u1
 have u2h:=Lib.hid u2
 have hregh:=Lib.hid hreg
 rw [hk] at kL
 have hkh:=Lib.hid hk
 clear u1 u2 hreg hk
 have hE:=(Ext.refl wc).drew
 have hS:∀ w',Ext wc w'->w'.cell? ⟨bl,0,none⟩=some (.slice A k c)/\(∀ i,w'.cell? ⟨w.heap.size,i,none⟩=(#[.int .i64 (n:Int),.int .i64 Mode,.int .i64 Side,.int .i64 Me,.slice Al Ll.length cl,.slice Aa La.length ca]:Array Value)[i]?):=fun w' hx=>⟨(kL.ext hx).cells 0,(kN.ext hx).cells⟩
 by_cases hc1:k=KN
 case neg =>
  -- [dev
  have d3:((k:Int) != (KN:Int))=true:=by rw [bne_iff_ne];omega
  have d3b:(k != KN)=true:=by rw [bne_iff_ne];omega
  have d3c:(k==KN)=false:=by rw [beq_eq_false_iff_ne];exact hc1
  have d3d:((k:Int)==(KN:Int))=false:=by rw [beq_eq_false_iff_ne];omega
  have d3e:decide (k=KN)=false:=by rw [decide_eq_false_iff_not];exact hc1
  have d3f:decide ((k:Int)=(KN:Int))=false:=by rw [decide_eq_false_iff_not];omega
  go_upto_region 6 with fail
  refine wp_region_held_drew (S:=(fun w'=>w'.cell? ⟨bl,0,none⟩=some (.slice A k c)/\(∀ i,w'.cell? ⟨w.heap.size,i,none⟩=(#[.int .i64 (n:Int),.int .i64 Mode,.int .i64 Side,.int .i64 Me,.slice Al Ll.length cl,.slice Aa La.length ca]:Array Value)[i]?))) rfl (hS _ hE) (fun hHeld=>?_)
  refine tkb 0 ?_
  iterate 4
   refine tkn (v:=?_) rfl (by kernel_rfl) (fun _ _ _ h=>h) (by assumption) ?_ ?_
   rotate_left
   · (intro w hSw;(try dsimp only at hSw);go_simp;try with_reducible rfl)
   try simp only [put_pack]
  refine tke ?_
  refine wpAnyH_ready (rs:=[4]) (by kernel_rfl) (by simp) ?_
  refine AllReadyH.cons rfl (fun K hKK=>?_) (AllReadyH.nil)
  go_simp
  refine (hAlh.out _).mono ?_
  rintro e wH ⟨Ah,ch,rfl,hxh⟩
  replace hE:=hE.trans hxh
  refine hKK.out _ _ (hS _ hE) (fun hHeld=>?_)
  clear hKK K
  try dsimp only
  refine tkb 5 ?_
  iterate 3
   refine tkn (v:=?_) rfl (by kernel_rfl) (fun _ _ _ h=>h) (by assumption) ?_ ?_
   rotate_left
   · (intro w hSw;(try dsimp only at hSw);go_simp;try with_reducible rfl)
   try simp only [put_pack]
  refine tke ?_
  refine sk 8 rfl (by kernel_rfl) (fun _ _ _ h=>h) (by assumption) ?_
  try simp only [put_pack]
  refine sk 9 rfl (by kernel_rfl) (fun _ _ _ h=>h) (by assumption) ?_
  try simp only [put_pack]
  refine sk 10 rfl (by kernel_rfl) (fun _ _ _ h=>h) (by assumption) ?_
  try simp only [put_pack]
  refine sk 11 rfl (by kernel_rfl) (fun _ _ _ h=>h) (by assumption) ?_
  try simp only [put_pack]
  refine tk 12 (v:=?_) rfl (by kernel_rfl) (fun _ _ _ h=>h) (by assumption) ?_ ?_
  rotate_left
  · (intro w hSw;(try dsimp only at hSw);go_simp;try with_reducible rfl)
  try simp only [put_pack]
  refine tk 13 (v:=?_) rfl (by kernel_rfl) (fun _ _ _ h=>h) (by assumption) ?_ ?_
  rotate_left
  · (intro w hSw;(try dsimp only at hSw);go_simp;try with_reducible rfl)
  try simp only [put_pack]
  refine sk 14 rfl (by kernel_rfl) (fun _ _ _ h=>h) (by assumption) ?_
  try simp only [put_pack]
  refine sk 15 rfl (by kernel_rfl) (fun _ _ _ h=>h) (by assumption) ?_
  try simp only [put_pack]
  refine sk 16 rfl (by kernel_rfl) (fun _ _ _ h=>h) (by assumption) ?_
  try simp only [put_pack]
  refine sk 17 rfl (by kernel_rfl) (fun _ _ _ h=>h) (by assumption) ?_
  try simp only [put_pack]
  refine sk 18 rfl (by kernel_rfl) (fun _ _ _ h=>h) (by assumption) ?_
  try simp only [put_pack]
  refine sk 19 rfl (by kernel_rfl) (fun _ _ _ h=>h) (by assumption) ?_
  try simp only [put_pack]
  refine sk 20 rfl (by kernel_rfl) (fun _ _ _ h=>h) (by assumption) ?_
  try simp only [put_pack]
  refine sk 21 rfl (by kernel_rfl) (fun _ _ _ h=>h) (by assumption) ?_
  try simp only [put_pack]
  refine tk 22 (v:=?_) rfl (by kernel_rfl) (fun _ _ _ h=>h) (by assumption) ?_ ?_
  rotate_left
  · (intro w hSw;(try dsimp only at hSw);go_simp;try with_reducible rfl)
  try simp only [put_pack]
  refine wpAnyH_done (by kernel_rfl) ?_ _
  go_simp
  have hf:=Lib.hid (hX4.trans hE)
  go_wp2_with fail
  refine (alive47 _).mono ?_
  rintro e w7 ⟨rfl,hx7⟩
  have hf2:=Lib.hid (hf.out.trans hx7)
  go_wp2_with fail
  go_ret
  exact⟨rfl,hf2.out⟩
  -- dev]
 obtain rfl:KN=k:=hc1.symm
 have d3:((KN:Int) != (KN:Int))=false:=by simp
 by_cases hc2:1500<La.length
 case pos =>
  -- [dev
  have d4:decide ((1500:Int)<(La.length:Int))=true:=by rw [decide_eq_true_eq];omega
  have d4b:decide (1500<La.length)=true:=by rw [decide_eq_true_eq];omega
  clear hc1 hc2
  go_upto_region 6 with fail
  refine wp_region_held_drew (S:=(fun w'=>w'.cell? ⟨bl,0,none⟩=some (.slice A KN c)/\(∀ i,w'.cell? ⟨w.heap.size,i,none⟩=(#[.int .i64 (n:Int),.int .i64 Mode,.int .i64 Side,.int .i64 Me,.slice Al Ll.length cl,.slice Aa La.length ca]:Array Value)[i]?))) rfl (hS _ hE) (fun hHeld=>?_)
  refine tkb 0 ?_
  iterate 4
   refine tkn (v:=?_) rfl (by kernel_rfl) (fun _ _ _ h=>h) (by assumption) ?_ ?_
   rotate_left
   · (intro w hSw;(try dsimp only at hSw);go_simp;try with_reducible rfl)
   try simp only [put_pack]
  refine tke ?_
  refine wpAnyH_ready (rs:=[4]) (by kernel_rfl) (by simp) ?_
  refine AllReadyH.cons rfl (fun K hKK=>?_) (AllReadyH.nil)
  go_simp
  refine (hAlh.out _).mono ?_
  rintro e wH ⟨Ah,ch,rfl,hxh⟩
  replace hE:=hE.trans hxh
  refine hKK.out _ _ (hS _ hE) (fun hHeld=>?_)
  clear hKK K
  try dsimp only
  refine tkb 5 ?_
  iterate 9
   refine tkn (v:=?_) rfl (by kernel_rfl) (fun _ _ _ h=>h) (by assumption) ?_ ?_
   rotate_left
   · (intro w hSw;(try dsimp only at hSw);go_simp;try with_reducible rfl)
   try simp only [put_pack]
  refine tke ?_
  refine sk 14 rfl (by kernel_rfl) (fun _ _ _ h=>h) (by assumption) ?_
  try simp only [put_pack]
  refine sk 15 rfl (by kernel_rfl) (fun _ _ _ h=>h) (by assumption) ?_
  try simp only [put_pack]
  refine sk 16 rfl (by kernel_rfl) (fun _ _ _ h=>h) (by assumption) ?_
  try simp only [put_pack]
  refine sk 17 rfl (by kernel_rfl) (fun _ _ _ h=>h) (by assumption) ?_
  try simp only [put_pack]
  refine sk 18 rfl (by kernel_rfl) (fun _ _ _ h=>h) (by assumption) ?_
  try simp only [put_pack]
  refine sk 19 rfl (by kernel_rfl) (fun _ _ _ h=>h) (by assumption) ?_
  try simp only [put_pack]
  refine sk 20 rfl (by kernel_rfl) (fun _ _ _ h=>h) (by assumption) ?_
  try simp only [put_pack]
  refine sk 21 rfl (by kernel_rfl) (fun _ _ _ h=>h) (by assumption) ?_
  try simp only [put_pack]
  refine tk 22 (v:=?_) rfl (by kernel_rfl) (fun _ _ _ h=>h) (by assumption) ?_ ?_
  rotate_left
  · (intro w hSw;(try dsimp only at hSw);go_simp;try with_reducible rfl)
  try simp only [put_pack]
  refine wpAnyH_done (by kernel_rfl) ?_ _
  go_simp
  have hf:=Lib.hid (hX4.trans hE)
  go_wp2_with fail
  refine (alive47 _).mono ?_
  rintro e w7 ⟨rfl,hx7⟩
  have hf2:=Lib.hid (hf.out.trans hx7)
  go_wp2_with fail
  go_ret
  exact⟨rfl,hf2.out⟩
  -- dev]
 have d4:decide ((1500:Int)<(La.length:Int))=false:=by rw [decide_eq_false_iff_not];omega
 have d4b:decide (1500<La.length)=false:=by rw [decide_eq_false_iff_not];omega
 by_cases hc3:Mode=2/\n≠2
 case pos =>
  -- [dev
  obtain⟨hcm,hc4⟩:=hc3
  have d6:(Mode==2)=true:=by rw [beq_iff_eq];exact hcm
  have d5:((n:Int) != 2)=true:=by rw [bne_iff_ne];omega
  have d5b:(n != 2)=true:=by rw [bne_iff_ne];omega
  clear hc1 hc2 hc4 hcm
  go_upto_region 6 with fail
  refine wp_region_held_drew (S:=(fun w'=>w'.cell? ⟨bl,0,none⟩=some (.slice A KN c)/\(∀ i,w'.cell? ⟨w.heap.size,i,none⟩=(#[.int .i64 (n:Int),.int .i64 Mode,.int .i64 Side,.int .i64 Me,.slice Al Ll.length cl,.slice Aa La.length ca]:Array Value)[i]?))) rfl (hS _ hE) (fun hHeld=>?_)
  refine tkb 0 ?_
  iterate 4
   refine tkn (v:=?_) rfl (by kernel_rfl) (fun _ _ _ h=>h) (by assumption) ?_ ?_
   rotate_left
   · (intro w hSw;(try dsimp only at hSw);go_simp;try with_reducible rfl)
   try simp only [put_pack]
  refine tke ?_
  refine wpAnyH_ready (rs:=[4]) (by kernel_rfl) (by simp) ?_
  refine AllReadyH.cons rfl (fun K hKK=>?_) (AllReadyH.nil)
  go_simp
  refine (hAlh.out _).mono ?_
  rintro e wH ⟨Ah,ch,rfl,hxh⟩
  replace hE:=hE.trans hxh
  refine hKK.out _ _ (hS _ hE) (fun hHeld=>?_)
  clear hKK K
  try dsimp only
  refine tkb 5 ?_
  iterate 18
   refine tkn (v:=?_) rfl (by kernel_rfl) (fun _ _ _ h=>h) (by assumption) ?_ ?_
   rotate_left
   · (intro w hSw;(try dsimp only at hSw);go_simp;try with_reducible rfl)
   try simp only [put_pack]
  refine tke ?_
  refine wpAnyH_done (by kernel_rfl) ?_ _
  go_simp
  have hf:=Lib.hid (hX4.trans hE)
  go_wp2_with fail
  refine (alive47 _).mono ?_
  rintro e w7 ⟨rfl,hx7⟩
  have hf2:=Lib.hid (hf.out.trans hx7)
  go_wp2_with fail
  go_ret
  exact⟨rfl,hf2.out⟩
  -- dev]
 have heh:Hid (YAll rs n):=Lib.hid (by
  have h:=hk0h.out
  cases hl:layM (yAllW n) (n:Int) Mode 3 2 with
  | none =>
    rw [hl] at h
    obtain rfl:rs=[]:=h.symm
    have h1:=hkh.out
    have h2:=hKNh.out
    rw [yAllW_len] at h2
    exact⟨by rw [h1,h2],fun i hi=>absurd hi (by simp)⟩
  | some rs' =>
    rw [hl] at h
    obtain rfl:rs'=rs:=h
    exact yplay_all n1 n8 hl hc3)
 have hd5:(Mode==2)=false∨((Mode==2)=true/\((n:Int) != 2)=false/\(n != 2)=false):=by
  by_cases e:Mode=2
  · refine .inr ⟨by rw [beq_iff_eq];exact e,?_,?_⟩
    · rw [bne_eq_false_iff_eq];omega
    · rw [bne_eq_false_iff_eq];omega
  · exact .inl (by rw [beq_eq_false_iff_ne];exact e)
 have hc2h:=Lib.hid hc2
 clear hc1 hc2 hc3 hk0h
 go_upto_region 6 with fail
 go_cut [85] (fun s85 wx=>s85=.bool false/\Ext wc wx)
 case first =>
  -- [dev
  rcases hd5 with d5 | ⟨d5,d6,d6b⟩
  · refine wp_region_held_drew (S:=(fun w'=>w'.cell? ⟨bl,0,none⟩=some (.slice A KN c)/\(∀ i,w'.cell? ⟨w.heap.size,i,none⟩=(#[.int .i64 (n:Int),.int .i64 Mode,.int .i64 Side,.int .i64 Me,.slice Al Ll.length cl,.slice Aa La.length ca]:Array Value)[i]?))) rfl (hS _ hE) (fun hHeld=>?_)
    refine tkb 0 ?_
    iterate 4
     refine tkn (v:=?_) rfl (by kernel_rfl) (fun _ _ _ h=>h) (by assumption) ?_ ?_
     rotate_left
     · (intro w hSw;(try dsimp only at hSw);go_simp;try with_reducible rfl)
     try simp only [put_pack]
    refine tke ?_
    refine wpAnyH_ready (rs:=[4]) (by kernel_rfl) (by simp) ?_
    refine AllReadyH.cons rfl (fun K hKK=>?_) (AllReadyH.nil)
    go_simp
    refine (hAlh.out _).mono ?_
    rintro e wH ⟨Ah,ch,rfl,hxh⟩
    replace hE:=hE.trans hxh
    refine hKK.out _ _ (hS _ hE) (fun hHeld=>?_)
    clear hKK K
    try dsimp only
    refine tkb 5 ?_
    iterate 13
     refine tkn (v:=?_) rfl (by kernel_rfl) (fun _ _ _ h=>h) (by assumption) ?_ ?_
     rotate_left
     · (intro w hSw;(try dsimp only at hSw);go_simp;try with_reducible rfl)
     try simp only [put_pack]
    refine tke ?_
    refine sk 18 rfl (by kernel_rfl) (fun _ _ _ h=>h) (by assumption) ?_
    try simp only [put_pack]
    refine sk 19 rfl (by kernel_rfl) (fun _ _ _ h=>h) (by assumption) ?_
    try simp only [put_pack]
    refine sk 20 rfl (by kernel_rfl) (fun _ _ _ h=>h) (by assumption) ?_
    try simp only [put_pack]
    refine tk 21 (v:=?_) rfl (by kernel_rfl) (fun _ _ _ h=>h) (by assumption) ?_ ?_
    rotate_left
    · (intro w hSw;(try dsimp only at hSw);go_simp;try with_reducible rfl)
    try simp only [put_pack]
    refine tk 22 (v:=?_) rfl (by kernel_rfl) (fun _ _ _ h=>h) (by assumption) ?_ ?_
    rotate_left
    · (intro w hSw;(try dsimp only at hSw);go_simp;try with_reducible rfl)
    try simp only [put_pack]
    refine wpAnyH_done (by kernel_rfl) ?_ _
    go_simp
    have hf:=Lib.hid hE
    go_wp2_with fail
    go_meet
    exact⟨rfl,hf.out⟩
  · refine wp_region_held_drew (S:=(fun w'=>w'.cell? ⟨bl,0,none⟩=some (.slice A KN c)/\(∀ i,w'.cell? ⟨w.heap.size,i,none⟩=(#[.int .i64 (n:Int),.int .i64 Mode,.int .i64 Side,.int .i64 Me,.slice Al Ll.length cl,.slice Aa La.length ca]:Array Value)[i]?))) rfl (hS _ hE) (fun hHeld=>?_)
    refine tkb 0 ?_
    iterate 4
     refine tkn (v:=?_) rfl (by kernel_rfl) (fun _ _ _ h=>h) (by assumption) ?_ ?_
     rotate_left
     · (intro w hSw;(try dsimp only at hSw);go_simp;try with_reducible rfl)
     try simp only [put_pack]
    refine tke ?_
    refine wpAnyH_ready (rs:=[4]) (by kernel_rfl) (by simp) ?_
    refine AllReadyH.cons rfl (fun K hKK=>?_) (AllReadyH.nil)
    go_simp
    refine (hAlh.out _).mono ?_
    rintro e wH ⟨Ah,ch,rfl,hxh⟩
    replace hE:=hE.trans hxh
    refine hKK.out _ _ (hS _ hE) (fun hHeld=>?_)
    clear hKK K
    try dsimp only
    refine tkb 5 ?_
    iterate 18
     refine tkn (v:=?_) rfl (by kernel_rfl) (fun _ _ _ h=>h) (by assumption) ?_ ?_
     rotate_left
     · (intro w hSw;(try dsimp only at hSw);go_simp;try with_reducible rfl)
     try simp only [put_pack]
    refine tke ?_
    refine wpAnyH_done (by kernel_rfl) ?_ _
    go_simp
    have hf:=Lib.hid hE
    go_wp2_with fail
    go_meet
    exact⟨rfl,hf.out⟩
  -- dev]
 case rest =>
 clear d3 d4 d4b hd5 hS hE hAlh
 obtain⟨rfl,hE⟩:=hcut
 have x1:=hE
 replace hAh:=Lib.hid (hAh.out.ext hE)
 replace kN:=kN.ext hE
 replace kL:=kL.ext hE
 have hX5:=Lib.hid (hX4.trans hE)
 clear hE hX4 hx0
 have c_N:=kN.cells
 have hw1:=IntWalk.i64_in ((n:Int)-1) (by omega)
 have ht:=wrapI_bd Me ((n:Int)-1)
 rw [show clamp ((n:Int)-1) 1099511627776=(n:Int)-1 from by unfold clamp within;omega] at ht
 go_wp2_with fail
 refine (wrap_r Me ((n:Int)-1) _).mono ?_
 rintro e w' ⟨rfl,rfl⟩
 obtain⟨t,ht0⟩:∃ t:Nat,wrapI Me ((n:Int)-1)=t:=⟨(wrapI Me ((n:Int)-1)).toNat,by omega⟩
 rw [ht0] at ht ⊢
 have htn:t<n:=by omega
 clear ht ht0 hw1
 go_upto_region 9 with fail
 have kT:=Blk.new wc (.cells #[.int .i64 t] 3)
 replace kN:=kN.alloc (.cells #[.int .i64 t] 3)
 replace kL:=kL.alloc (.cells #[.int .i64 t] 3)
 replace x1:=x1.alloc (.cells #[.int .i64 t] 3)
 replace hAh:=Lib.hid (hAh.out.ext ((Ext.refl wc).alloc (.cells #[.int .i64 t] 3)))
 have hX6:=Lib.hid (hX5.out.alloc (.cells #[.int .i64 t] 3))
 clear c_N hX5
 generalize hbt:wc.heap.size=bt at *
 generalize World.alloc wc _=W1 at *
 have c_N:=kN.cells
 go_wp2_with fail
 refine (tame_r _ La 1048576 _ hAh.out).mono ?_
 rintro e WB ⟨va,rfl,hra,hxa⟩
 have hIa:=hra.ints
 have hba:=Lib.hid (fun b hb=>(hra.lt b hb).2)
 have la:(tameL La 1048576).length<=1500:=by have:=hc2h.out;unfold tameL;simp;omega
 have htah:Hid (TameA (TS0 [] (tameL La 1048576))):=Lib.hid (ytame_bd La)
 generalize tameL La 1048576=a at *
 obtain⟨Aq,cq,rfl,_,_⟩:=hIa.slice
 have hIah:=Lib.hid hIa
 have kNB:=Lib.hid (kN.ext hxa)
 have kLB:=Lib.hid (kL.ext hxa)
 have kTB:=Lib.hid (kT.ext hxa)
 replace x1:=x1.trans hxa
 have hXB:=Lib.hid (hX6.out.trans hxa)
 have hregB:=Lib.hid (fun hne:rs≠[]=>(hregh.out hne).imp fun b hb=>show A=some ⟨b,0,none⟩/\b<WB.heap.size/\(∀ (i:Nat) u,(rs.flatMap regVals)[i]?=some u->WB.cell? ⟨b,i,none⟩=some u) from ⟨hb.1,Nat.lt_of_lt_of_le hb.2.1 x1.size,fun i u hu=>(x1.cell (p:=⟨b,i,none⟩) hb.2.1).trans (hb.2.2 i u hu)⟩)
 obtain⟨D,hD⟩:∃ D,D=a.length+1:=⟨_,rfl⟩
 have hleft:Hid ((TS0 [] a).left<D):=Lib.hid (by unfold TS.left TS0;simp;omega)
 have hDh:=Lib.hid hD
 clear hra hIa kN kL kT c_N hxa x1 hregh hX6 hAh hD
 have y0:=Ext.refl WB
 have z:=Ext.refl WB
 obtain⟨T1,hT1⟩:∃ T:Prog Int,T=((yAcq D rs n t).bind fun _=>Prog.ret (0:Int)):=⟨_,rfl⟩
 have hPl:=play_int 14 #[.pointer (some ⟨bl,0,none⟩),.pointer (some ⟨w.heap.size,0,none⟩),.pointer (some ⟨bt,0,none⟩)] T1 none 0 [] Aq cq a WB (Ints.nil _) (by simp) (hIah.out.ext y0) (by unfold maxAns;omega) (fun k hk=>Nat.lt_of_lt_of_le (hba.out k hk) y0.size) (fun _ _=>rfl) (fun W' p hxW hP=>by
  rw [hT1]
  exact ypcl1 _ p n t D _ A c bl w.heap.size bt rs W' hP (fun hne=>by
   obtain⟨b,e1,e2,e3⟩:=hregB.out hne
   exact⟨b,e1,regsP e2 e3 (y0.trans hxW) hP y0.size⟩) heh.out n1 n8 htn u1h.out u2h.out htah.out hleft.out (by rw [hkh.out];exact (kLB.out.ext (y0.trans hxW)).cells 0) ((kNB.out.ext (y0.trans hxW)).cells 0) ((kTB.out.ext (y0.trans hxW)).cells 0))
 obtain⟨r1,hr1⟩:∃ r,T1.run (TS0 [] a)=r:=⟨_,rfl⟩
 rw [hr1] at hPl
 go_wp2_with fail
 refine hPl.mono ?_
 clear hPl
 rintro e wp1 ⟨v,rfl,hO,hxp⟩
 generalize r1.1.getD 0=q1
 obtain⟨A13,c13,B13,d13,E13,k13,m13,rfl⟩:=hO.parts
 go_upto_region 11 with fail
 have g1:=Blk.new wp1 (.cells #[.bool r1.fst.isSome,.slice A13 r1.snd.acc.length c13,.slice B13 r1.snd.nts.length d13,.slice E13 m13 k13] 36)
 have hxo:=hxp.alloc (.cells #[.bool r1.fst.isSome,.slice A13 r1.snd.acc.length c13,.slice B13 r1.snd.nts.length d13,.slice E13 m13 k13] 36)
 have hOh:=Lib.hid (hO.ext ((Ext.refl wp1).alloc (.cells #[.bool r1.fst.isSome,.slice A13 r1.snd.acc.length c13,.slice B13 r1.snd.nts.length d13,.slice E13 m13 k13] 36)))
 replace y0:=y0.trans hxo
 replace z:=z.trans hxo
 clear hO hxp hxo
 generalize hbo1:wp1.heap.size=bo1 at *
 generalize World.alloc wp1 _=V1 at *
 clear hbo1
 go_wp2_with fail
 refine (new_any none 0 [] Aq cq a V1 (Ints.nil _) (hIah.out.ext y0) (by simp) (by unfold maxAns;omega) (fun k hk=>Nat.lt_of_lt_of_le (hba.out k hk) y0.size)).mono ?_
 rintro e wn1 ⟨pm1,rfl,hR,hxn⟩
 have c_N:=(kNB.out.ext (y0.trans hxn)).cells
 have c_L:=(kLB.out.ext (y0.trans hxn)).cells
 have c_T:=(kTB.out.ext (y0.trans hxn)).cells
 go_wp2_with fail
 have hq:=yacq_r V1.heap.size pm1 n t D false (TS0 [] a) rs A c wn1 hR n1 n8 htn heh.out u1h.out u2h.out (fun hne=>by
   obtain⟨b,e1,e2,e3⟩:=hregB.out hne
   exact⟨b,e1,regsR e2 e3 (y0.trans hxn) hR y0.size⟩) (fun _=>hleft.out)
 rw [hkh.out] at hq
 refine hq.mono ?_
 clear hq
 rintro e wq1 ⟨u1,o1,S1,rfl,hRef,hR9,hK9⟩
 have hxq:=Below.trans hxn hK9.below
 have hrun:=(Ref.bind (f:=fun _=>Prog.ret (0:Int)) hRef (Ref.ret (0:Int) o1 S1)).outcome
 rw [<- hT1,hr1] at hrun
 have hsome:r1.1.isSome=!o1:=by rw [hrun];cases o1 <;> rfl
 have hS2:r1.2=S1:=by rw [hrun]
 have hO9:=hOh.out.ext hxq
 rw [hsome,hS2] at hO9 g1
 clear hrun hsome hS2 hr1 hT1 hOh c_N c_L c_T hxn
 replace g1:=Lib.hid (g1.ext hxq)
 have y1:=y0.trans hxq
 clear z
 have hOp1:=Lib.hid hO9
 have hRp1:=Lib.hid hR9
 clear hO9 hR9 hRef hR hK9 hxq y0
 have z:=Ext.refl wq1
 obtain⟨T2,hT2⟩:∃ T:Prog Int,T=((yRel rs n t).bind fun _=>Prog.ret (0:Int)):=⟨_,rfl⟩
 have hPl:=play_int 18 #[.pointer (some ⟨bl,0,none⟩),.pointer (some ⟨w.heap.size,0,none⟩),.pointer (some ⟨bt,0,none⟩)] T2 none 0 [] Aq cq a wq1 (Ints.nil _) (by simp) (hIah.out.ext y1) (by unfold maxAns;omega) (fun k hk=>Nat.lt_of_lt_of_le (hba.out k hk) y1.size) (fun _ _=>rfl) (fun W' p hxW hP=>by
  rw [hT2]
  exact ypcl2 _ p n t D _ A c bl w.heap.size bt rs W' hP (fun hne=>by
   obtain⟨b,e1,e2,e3⟩:=hregB.out hne
   exact⟨b,e1,regsP e2 e3 (y1.trans hxW) hP y1.size⟩) heh.out n1 n8 htn u1h.out u2h.out htah.out hleft.out (by rw [hkh.out];exact (kLB.out.ext (y1.trans hxW)).cells 0) ((kNB.out.ext (y1.trans hxW)).cells 0) ((kTB.out.ext (y1.trans hxW)).cells 0))
 obtain⟨r2,hr2⟩:∃ r,T2.run (TS0 [] a)=r:=⟨_,rfl⟩
 rw [hr2] at hPl
 go_wp2_with fail
 refine hPl.mono ?_
 clear hPl
 rintro e wp2 ⟨v,rfl,hO,hxp⟩
 generalize r2.1.getD 0=q2
 obtain⟨A23,c23,B23,d23,E23,k23,m23,rfl⟩:=hO.parts
 go_upto_region 14 with fail
 have g2:=Blk.new wp2 (.cells #[.bool r2.fst.isSome,.slice A23 r2.snd.acc.length c23,.slice B23 r2.snd.nts.length d23,.slice E23 m23 k23] 36)
 have hxo:=hxp.alloc (.cells #[.bool r2.fst.isSome,.slice A23 r2.snd.acc.length c23,.slice B23 r2.snd.nts.length d23,.slice E23 m23 k23] 36)
 have hOh:=Lib.hid (hO.ext ((Ext.refl wp2).alloc (.cells #[.bool r2.fst.isSome,.slice A23 r2.snd.acc.length c23,.slice B23 r2.snd.nts.length d23,.slice E23 m23 k23] 36)))
 replace y1:=y1.trans hxo
 replace z:=z.trans hxo
 clear hO hxp hxo
 generalize hbo2:wp2.heap.size=bo2 at *
 generalize World.alloc wp2 _=V2 at *
 clear hbo2
 go_wp2_with fail
 refine (new_any none 0 [] Aq cq a V2 (Ints.nil _) (hIah.out.ext y1) (by simp) (by unfold maxAns;omega) (fun k hk=>Nat.lt_of_lt_of_le (hba.out k hk) y1.size)).mono ?_
 rintro e wn2 ⟨pm2,rfl,hR,hxn⟩
 have c_N:=(kNB.out.ext (y1.trans hxn)).cells
 have c_L:=(kLB.out.ext (y1.trans hxn)).cells
 have c_T:=(kTB.out.ext (y1.trans hxn)).cells
 go_wp2_with fail
 have hq:=yrel_r V2.heap.size pm2 n t false (TS0 [] a) rs A c wn2 hR n1 n8 htn heh.out u1h.out u2h.out (fun hne=>by
   obtain⟨b,e1,e2,e3⟩:=hregB.out hne
   exact⟨b,e1,regsR e2 e3 (y1.trans hxn) hR y1.size⟩)
 rw [hkh.out] at hq
 refine hq.mono ?_
 clear hq
 rintro e wq2 ⟨u2,o2,S2,rfl,hRef,hR9,hK9⟩
 have hxq:=Below.trans hxn hK9.below
 have hrun:=(Ref.bind (f:=fun _=>Prog.ret (0:Int)) hRef (Ref.ret (0:Int) o2 S2)).outcome
 rw [<- hT2,hr2] at hrun
 have hsome:r2.1.isSome=!o2:=by rw [hrun];cases o2 <;> rfl
 have hS2:r2.2=S2:=by rw [hrun]
 have hO9:=hOh.out.ext hxq
 rw [hsome,hS2] at hO9 g2
 clear hrun hsome hS2 hr2 hT2 hOh c_N c_L c_T hxn
 replace g2:=Lib.hid (g2.ext hxq)
 have y2:=y1.trans hxq
 replace g1:=Lib.hid (g1.out.ext (z.trans hxq))
 replace hOp1:=Lib.hid (hOp1.out.ext (z.trans hxq))
 replace hRp1:=Lib.hid (hRp1.out.ext (z.trans hxq))
 clear z
 have hOp2:=Lib.hid hO9
 have hRp2:=Lib.hid hR9
 clear hO9 hR9 hRef hR hK9 hxq y1
 have c_N:=(kNB.out.ext y2).cells
 by_cases hn1:n=1
 case pos =>
  -- [dev
  have d7:((n:Int)==1)=true:=by rw [beq_iff_eq];omega
  have d7b:(n==1)=true:=by rw [beq_iff_eq];omega
  have hXf:=Lib.hid (hXB.out.trans y2)
  clear hn1 y2
  go_wp2_with fail
  clear c_N
  have hE:=(Ext.refl wq2).drew
  have hS:∀ w',Ext wq2 w'->(∀ i,w'.cell? ⟨bo1,i,none⟩=(#[.bool (!o1),.slice A13 S1.acc.length c13,.slice B13 S1.nts.length d13,.slice E13 m13 k13]:Array Value)[i]?)/\(∀ i,w'.cell? ⟨bo2,i,none⟩=(#[.bool (!o2),.slice A23 S2.acc.length c23,.slice B23 S2.nts.length d23,.slice E23 m23 k23]:Array Value)[i]?):=fun w' hx=>⟨(g1.out.ext hx).cells,(g2.out.ext hx).cells⟩
  go_region_held2 (fun w'=>(∀ i,w'.cell? ⟨bo1,i,none⟩=(#[.bool (!o1),.slice A13 S1.acc.length c13,.slice B13 S1.nts.length d13,.slice E13 m13 k13]:Array Value)[i]?)/\(∀ i,w'.cell? ⟨bo2,i,none⟩=(#[.bool (!o2),.slice A23 S2.acc.length c23,.slice B23 S2.nts.length d23,.slice E23 m23 k23]:Array Value)[i]?)) (exact hS _ hE)
   (first
     | (go_at_call_of 22 (Value.pointer (some (⟨pm1,0,none⟩:Addr)))
        refine (dout_r _ pm1 o1 S1 _ (hRp1.out.ext hE)).mono ?_
        rintro e wd1 ⟨v1,rfl,hOx1,hxd⟩
        replace hE:=hE.trans hxd)
     | (go_at_call_of 21 v1
        refine (same_r _ _ (!o1) S1 _ (hOp1.out.ext hE) hOx1).mono ?_
        rintro e wf1 ⟨rfl,hxf⟩
        replace hE:=hE.trans hxf)
     | (go_at_call_of 22 (Value.pointer (some (⟨pm2,0,none⟩:Addr)))
        refine (dout_r _ pm2 o2 S2 _ (hRp2.out.ext hE)).mono ?_
        rintro e wd2 ⟨v2,rfl,hOx2,hxd⟩
        replace hE:=hE.trans hxd)
     | (go_at_call_of 21 v2
        refine (same_r _ _ (!o2) S2 _ (hOp2.out.ext hE) hOx2).mono ?_
        rintro e wf2 ⟨rfl,hxf⟩
        replace hE:=hE.trans hxf)
     | (go_at_call 6
        refine (alive47 _).mono ?_
        rintro e wg ⟨rfl,hxg⟩
        replace hE:=hE.trans hxg))
  have hf:=Lib.hid (hXf.out.trans hE)
  go_wp2_with fail
  go_ret
  exact⟨rfl,hf.out⟩
  -- dev]
 have d7:((n:Int)==1)=false:=by rw [beq_eq_false_iff_ne];omega
 have d7b:(n==1)=false:=by rw [beq_eq_false_iff_ne];omega
 have hn2:2<=n:=by omega
 obtain⟨hyr,hlr⟩:=heh.out.first hn2 n8
 obtain⟨b,rfl,e2,e3⟩:=hregB.out (by rintro rfl;simp at hlr)
 have e3h:=Lib.hid e3
 have hyrh:=Lib.hid hyr
 have h3c:n+3<=c:=Nat.le_trans hlr u1h.out
 have h3k:n+3<=KN:=by rw [<- hkh.out];exact hlr
 have hw3:=IntWalk.i64_in ((n:Int)+3) (by omega)
 have hc2:=u2h.out
 have c_L:=(kLB.out.ext y2).cells
 clear e3 hyr hlr hregB hn1
 go_upto_region 19 with fail
 have kL2:=Blk.new wq2 (.cells #[.slice (some ⟨b,0,none⟩) (n+3) c] 29)
 have x9:=(Ext.refl wq2).alloc (.cells #[.slice (some ⟨b,0,none⟩) (n+3) c] 29)
 replace y2:=y2.trans x9
 replace g1:=Lib.hid (g1.out.ext x9)
 replace g2:=Lib.hid (g2.out.ext x9)
 replace hOp1:=Lib.hid (hOp1.out.ext x9)
 replace hOp2:=Lib.hid (hOp2.out.ext x9)
 replace hRp1:=Lib.hid (hRp1.out.ext x9)
 replace hRp2:=Lib.hid (hRp2.out.ext x9)
 clear x9 c_N c_L h3c h3k hw3 hc2 hn2
 generalize hbl2:wq2.heap.size=bl2 at *
 generalize World.alloc wq2 _=W9 at *
 clear hbl2
 replace kL2:=Lib.hid kL2
 obtain⟨sd,hsd⟩:∃ sd:Nat,(if Side=0 then 0 else 1)=sd:=⟨_,rfl⟩
 have hsdh:=Lib.hid hsd
 clear hsd
 have z:=Ext.refl W9
 obtain⟨T3,hT3⟩:∃ T:Prog Int,T=((yEnter D rs 0 n t sd).bind fun _=>(yLeave rs 0 n t sd).bind fun _=>Prog.ret (0:Int)):=⟨_,rfl⟩
 have hPl:=play_int 23 #[.pointer (some ⟨bl2,0,none⟩),.pointer (some ⟨w.heap.size,0,none⟩),.pointer (some ⟨bt,0,none⟩)] T3 none 0 [] Aq cq a W9 (Ints.nil _) (by simp) (hIah.out.ext y2) (by unfold maxAns;omega) (fun k hk=>Nat.lt_of_lt_of_le (hba.out k hk) y2.size) (fun _ _=>rfl) (fun W' p hxW hP=>by
  rw [hT3]
  exact ypcl3 _ p n t D sd Mode Side Me _ _ _ b c bl2 w.heap.size bt rs W' hP (regsP e2 e3h.out (y2.trans hxW) hP y2.size) hyrh.out n1 n8 htn hsdh.out htah.out hleft.out (ypheld (kL2.out.ext z) hxW hP (Nat.le_refl _)) (ypheld (kNB.out.ext y2) hxW hP (Nat.le_refl _)) (ypheld (kTB.out.ext y2) hxW hP (Nat.le_refl _)))
 obtain⟨r3,hr3⟩:∃ r,T3.run (TS0 [] a)=r:=⟨_,rfl⟩
 rw [hr3] at hPl
 go_wp2_with fail
 refine hPl.mono ?_
 clear hPl
 rintro e wp3 ⟨v,rfl,hO,hxp⟩
 generalize r3.1.getD 0=q3
 obtain⟨A33,c33,B33,d33,E33,k33,m33,rfl⟩:=hO.parts
 go_upto_region 20 with fail
 have g3:=Blk.new wp3 (.cells #[.bool r3.fst.isSome,.slice A33 r3.snd.acc.length c33,.slice B33 r3.snd.nts.length d33,.slice E33 m33 k33] 36)
 have hxo:=hxp.alloc (.cells #[.bool r3.fst.isSome,.slice A33 r3.snd.acc.length c33,.slice B33 r3.snd.nts.length d33,.slice E33 m33 k33] 36)
 have hOh:=Lib.hid (hO.ext ((Ext.refl wp3).alloc (.cells #[.bool r3.fst.isSome,.slice A33 r3.snd.acc.length c33,.slice B33 r3.snd.nts.length d33,.slice E33 m33 k33] 36)))
 replace y2:=y2.trans hxo
 replace z:=z.trans hxo
 clear hO hxp hxo
 generalize hbo3:wp3.heap.size=bo3 at *
 generalize World.alloc wp3 _=V3 at *
 clear hbo3
 go_wp2_with fail
 refine (new_any none 0 [] Aq cq a V3 (Ints.nil _) (hIah.out.ext y2) (by simp) (by unfold maxAns;omega) (fun k hk=>Nat.lt_of_lt_of_le (hba.out k hk) y2.size)).mono ?_
 rintro e wn3 ⟨pm3,rfl,hR,hxn⟩
 have c_N:=(kNB.out.ext (y2.trans hxn)).cells
 have c_L:=(kL2.out.ext (z.trans hxn)).cells
 have c_T:=(kTB.out.ext (y2.trans hxn)).cells
 go_wp2_with fail
 have hq:=yenter_r V3.heap.size pm3 n t sd D 0 false Side (TS0 [] a) rs b c wn3 hR (regsR e2 e3h.out (y2.trans hxn) hR y2.size) hyrh.out n1 n8 htn hsdh.out (fun _=>hleft.out)
 rw [Nat.zero_mul] at hq
 refine hq.mono ?_
 clear hq
 rintro e we ⟨u3,o3,S3,rfl,hRef,hR9,hK9⟩
 have hxe:=Below.trans hxn hK9.below
 clear c_N c_L c_T hR
 have c_N:=(kNB.out.ext (y2.trans hxe)).cells
 have c_L:=(kL2.out.ext (z.trans hxe)).cells
 have c_T:=(kTB.out.ext (y2.trans hxe)).cells
 go_wp2_with fail
 have hq:=yleave_r V3.heap.size pm3 n t sd 0 o3 Side S3 rs b c we hR9 (regsR e2 e3h.out (y2.trans hxe) hR9 y2.size) hyrh.out n1 n8 htn hsdh.out
 rw [Nat.zero_mul] at hq
 refine hq.mono ?_
 clear hq
 rintro e wq3 ⟨u4,o4,S4,rfl,hRef2,hR10,hK10⟩
 have hxq:=Below.trans hxe hK10.below
 have hrun:=(Ref.bind (f:=fun _=>(yLeave rs 0 n t sd).bind fun _=>Prog.ret (0:Int)) hRef (Ref.bind (f:=fun _=>Prog.ret (0:Int)) hRef2 (Ref.ret (0:Int) o4 S4))).outcome
 rw [<- hT3,hr3] at hrun
 have hsome:r3.1.isSome=!o4:=by rw [hrun];cases o4 <;> rfl
 have hS2:r3.2=S4:=by rw [hrun]
 have hO9:=hOh.out.ext hxq
 rw [hsome,hS2] at hO9 g3
 clear hrun hsome hS2 hr3 hT3 hOh c_N c_L c_T hxn
 replace g3:=Lib.hid (g3.ext hxq)
 have y3:=y2.trans hxq
 replace g1:=Lib.hid (g1.out.ext (z.trans hxq))
 replace hOp1:=Lib.hid (hOp1.out.ext (z.trans hxq))
 replace hRp1:=Lib.hid (hRp1.out.ext (z.trans hxq))
 replace g2:=Lib.hid (g2.out.ext (z.trans hxq))
 replace hOp2:=Lib.hid (hOp2.out.ext (z.trans hxq))
 replace hRp2:=Lib.hid (hRp2.out.ext (z.trans hxq))
 clear z
 have hOp3:=Lib.hid hO9
 have hRp3:=Lib.hid hR10
 have hXf:=Lib.hid (hXB.out.trans y3)
 clear hO9 hR9 hR10 hRef hRef2 hK9 hK10 hxe hxq y2 y3 d7 d7b
 go_wp2_with fail
 have hE:=(Ext.refl wq3).drew
 have hS:∀ w',Ext wq3 w'->(∀ i,w'.cell? ⟨bo1,i,none⟩=(#[.bool (!o1),.slice A13 S1.acc.length c13,.slice B13 S1.nts.length d13,.slice E13 m13 k13]:Array Value)[i]?)/\(∀ i,w'.cell? ⟨bo2,i,none⟩=(#[.bool (!o2),.slice A23 S2.acc.length c23,.slice B23 S2.nts.length d23,.slice E23 m23 k23]:Array Value)[i]?)/\(∀ i,w'.cell? ⟨bo3,i,none⟩=(#[.bool (!o4),.slice A33 S4.acc.length c33,.slice B33 S4.nts.length d33,.slice E33 m33 k33]:Array Value)[i]?):=fun w' hx=>⟨(g1.out.ext hx).cells,(g2.out.ext hx).cells,(g3.out.ext hx).cells⟩
 go_region_held2 (fun w'=>(∀ i,w'.cell? ⟨bo1,i,none⟩=(#[.bool (!o1),.slice A13 S1.acc.length c13,.slice B13 S1.nts.length d13,.slice E13 m13 k13]:Array Value)[i]?)/\(∀ i,w'.cell? ⟨bo2,i,none⟩=(#[.bool (!o2),.slice A23 S2.acc.length c23,.slice B23 S2.nts.length d23,.slice E23 m23 k23]:Array Value)[i]?)/\(∀ i,w'.cell? ⟨bo3,i,none⟩=(#[.bool (!o4),.slice A33 S4.acc.length c33,.slice B33 S4.nts.length d33,.slice E33 m33 k33]:Array Value)[i]?)) (exact hS _ hE)
  (first
    | (go_at_call_of 22 (Value.pointer (some (⟨pm1,0,none⟩:Addr)))
       refine (dout_r _ pm1 o1 S1 _ (hRp1.out.ext hE)).mono ?_
       rintro e wd1 ⟨v1,rfl,hOx1,hxd⟩
       replace hE:=hE.trans hxd)
    | (go_at_call_of 21 v1
       refine (same_r _ _ (!o1) S1 _ (hOp1.out.ext hE) hOx1).mono ?_
       rintro e wf1 ⟨rfl,hxf⟩
       replace hE:=hE.trans hxf)
    | (go_at_call_of 22 (Value.pointer (some (⟨pm2,0,none⟩:Addr)))
       refine (dout_r _ pm2 o2 S2 _ (hRp2.out.ext hE)).mono ?_
       rintro e wd2 ⟨v2,rfl,hOx2,hxd⟩
       replace hE:=hE.trans hxd)
    | (go_at_call_of 21 v2
       refine (same_r _ _ (!o2) S2 _ (hOp2.out.ext hE) hOx2).mono ?_
       rintro e wf2 ⟨rfl,hxf⟩
       replace hE:=hE.trans hxf)
    | (go_at_call_of 22 (Value.pointer (some (⟨pm3,0,none⟩:Addr)))
       refine (dout_r _ pm3 o4 S4 _ (hRp3.out.ext hE)).mono ?_
       rintro e wd3 ⟨v3,rfl,hOx3,hxd⟩
       replace hE:=hE.trans hxd)
    | (go_at_call_of 21 v3
       refine (same_r _ _ (!o4) S4 _ (hOp3.out.ext hE) hOx3).mono ?_
       rintro e wf3 ⟨rfl,hxf⟩
       replace hE:=hE.trans hxf)
    | (go_at_call 6
       refine (alive47 _).mono ?_
       rintro e wg ⟨rfl,hxg⟩
       replace hE:=hE.trans hxg))
 have hf:=Lib.hid (hXf.out.trans hE)
 go_wp2_with fail
 go_ret
 exact⟨rfl,hf.out⟩
end Go.Proofs.YtbphlkaihfbgeaaGreat
namespace Go.Proofs.YtbphlkaihfbgeaaGreat.yangPlays
open Go.ChangeShapes Go.WideShapes Go.ChangeAt Go.RowKit Kv
set_option maxRecDepth 100000 in
theorem main (H:Type)(enc:TypeId × Value->H)(W:World)(base:Nat)(args:Array Value)(ds:List (DataW H))(p:List MemPlace)
  (hval:∀ (j:Nat) t v,Tryz.f3.params[j]?=some t->args[j]?=some v->Value.okWide Tryz.prog W .any base t v)
  (hA:DataW.TrodAll enc Tryz.prog W 0 (fun _=>true) true Tryz.f3.params.toList args.toList ds p)(_hL:laidMetH Tryz.prog Rows.yangPlaysRow.laid W) :
  Calls Tryz.prog 3 args W fun e w'=>e=.returned (.bool true)/\Ext W w':=by
 rw [Tryz.params3] at hA hval
 obtain⟨v0,vs0,d0,ds0,p0,q0,hargs,rfl,rfl,h0,r0⟩:=trodAll_cons hA
 obtain⟨rfl,rfl,rfl⟩:=trodAll_nil r0
 obtain rfl:args=#[v0]:=by cases args;simp_all
 obtain⟨c0,c1,c2,c3,c4,c5,y0,y1,y2,y3,y4,y5,m,rfl,g0,g1,g2,g3,g4,g5⟩:=open_agg6 Tryz.underlying24 (by kernel_rfl) (by kernel_rfl) (hval 0 24 v0 rfl rfl) h0
 obtain⟨x0,e0,-,-⟩:=DataW.trod_int Tryz.underlying3 g0
 obtain⟨x1,e1,-,-⟩:=DataW.trod_int Tryz.underlying3 g1
 obtain⟨x2,e2,-,-⟩:=DataW.trod_int Tryz.underlying3 g2
 obtain⟨x3,e3,-,-⟩:=DataW.trod_int Tryz.underlying3 g3
 obtain⟨Ll,hL,-⟩:=ints_trod g4
 obtain⟨La,hLa,-⟩:=ints_trod g5
 simp at e0 e1 e2 e3
 subst e0 e1 e2 e3
 exact yplays_walk x0 x1 x2 x3 c4 c5 Ll La W hL hLa
end Go.Proofs.YtbphlkaihfbgeaaGreat.yangPlays
namespace Go.Proofs.YtbphlkaihfbgeaaGreat.yangPlays
open Go.ChangeShapes Go.WideShapes Go.ChangeAt Go.RowKit
theorem laidOut:laidOutB Tryz.prog=true:=by kernel_rfl
set_option maxRecDepth 100000 in
theorem contract (H:Type)(enc:TypeId × Value->H)(W:World)(base:Nat)(args:Array Value)(ds gs:List (DataW H))(before:List MemPlace)
  (hval:∀ (j:Nat) t v,Tryz.f3.params[j]?=some t->args[j]?=some v->Value.okWide Tryz.prog W .any base t v)
  (hW:DataW.Whole enc Tryz.prog Tryz.f3.params.toList Rows.yangPlaysSpec.vars false W args.toList ds gs before)(hL:laidMetH Tryz.prog Rows.yangPlaysRow.laid W) :
  Calls Tryz.prog 3 args W fun e W'=>∃ v,e=.returned v/\Rows.yangPlaysSpec.post enc Tryz.prog Tryz.f3 false true false false W args v W':=by
 refine (main H enc W base args ds before hval (by obtain⟨p,q,hA,hV,hpq,_,_⟩:=hW;obtain⟨_,rfl⟩:=trodVars_none hV;rw [List.append_nil] at hpq;subst hpq;exact hA) hL).mono fun e W' ⟨he,hg⟩=>⟨_,he,?_⟩
 refine law_post (tb:=4) laidOut ?_ (by kernel_rfl) Tryz.underlying4 rfl ?_ hW hg
 · rw [Tryz.params3]
   intro t ht
   simp only [List.mem_cons,List.not_mem_nil,or_false] at ht
   rcases ht with rfl <;> exact⟨by kernel_rfl,of_decide_eq_true (by kernel_rfl)⟩
 · intro ds hl
   rw [Tryz.params3] at hl
   match ds,hl with
   | [d0],_=>rfl
set_option maxRecDepth 100000 in
theorem laid_met (os:Os):laidMet Tryz.prog Rows.yangPlaysRow.laid (((World.holding Tryz.prog os ⟨#[],#[],[]⟩)).forCall (fun _ _=>0) ⟨#[],#[.agg #[.int .i64 0,.int .i64 0,.int .i64 0,.int .i64 0,.slice none 0 0,.slice none 0 0]],[]⟩).memory :=
 laidMet_of_run' 8 (by kernel_rfl) (by kernel_rfl)
set_option maxRecDepth 100000 in
theorem reads (os:Os){H:Type}(enc:TypeId × Value->H):∃ places,DataW.whole enc Tryz.prog (((World.holding Tryz.prog os ⟨#[],#[],[]⟩)).forCall (fun _ _=>0) ⟨#[],#[.agg #[.int .i64 0,.int .i64 0,.int .i64 0,.int .i64 0,.slice none 0 0,.slice none 0 0]],[]⟩).memory Tryz.f3.params.toList Rows.yangPlaysSpec.vars false (#[.agg #[.int .i64 0,.int .i64 0,.int .i64 0,.int .i64 0,.slice none 0 0,.slice none 0 0]]:Array Value).toList 8=some ([.agg [.lit (.int .i64 0),.lit (.int .i64 0),.lit (.int .i64 0),.lit (.int .i64 0),.nil,.nil]],[],places) :=
 ⟨[],by kernel_rfl⟩
set_option maxRecDepth 100000 in
theorem lifted (os:Os)(started:os.Started)(H:Type)(enc:TypeId × Value->H)(F:Stop.Interp) :
  ReturnsInHanded {} Tryz.checked os 3 .any ((OpenSpec.ofChange Rows.yangPlaysSpec).preRow enc Tryz.prog Tryz.f3 Rows.yangPlaysRow.domain false Rows.yangPlaysRow.laid) (((OpenSpec.ofChange Rows.yangPlaysSpec).at F).post enc Tryz.prog Tryz.f3 false true false false):=by
 obtain⟨places,hx⟩:=reads os enc
 refine returnsInHanded_of_row (C:=Tryz.checked) (s:=(OpenSpec.ofChange Rows.yangPlaysSpec)) own started (by kernel_rfl) Tryz.func3
  (witness_row_at (enc:=enc) (C:=Tryz.checked) false (World.holding Tryz.prog os ⟨#[],#[],[]⟩) #[.agg #[.int .i64 0,.int .i64 0,.int .i64 0,.int .i64 0,.slice none 0 0,.slice none 0 0]] rfl (by kernel_rfl) (by kernel_rfl) (by kernel_rfl)
    (OpenSpec.preRow_of_cond 8 hx (by kernel_rfl) (fun k hk=>by cases hk) (by kernel_rfl) (laid_met os))) ?_
 intro W base args ds gs before hval hW _ _ _ hL _ _
 exact contract H enc W base args ds gs before hval hW hL
theorem c1:(Rows.yangPlaysRow.inPlace==Tryz.pinned.checked.prog.inPlace 3)=true:=by kernel_rfl
theorem c2:(Rows.yangPlaysRow.unfollowed==Tryz.pinned.checked.prog.unfollowed 3)=true:=by kernel_rfl
theorem c3:(Rows.yangPlaysRow.recurses==Tryz.pinned.checked.prog.recurses 3)=true:=by kernel_rfl
theorem c4:(Rows.yangPlaysRow.named==Tryz.pinned.checked.prog.varsNamed 3)=true:=by kernel_rfl
theorem closed:joinedFacts Tryz.pinned.checked.prog 3 Tryz.f3 (OpenSpec.ofChange Rows.yangPlaysSpec).bare Rows.yangPlaysRow=true:=by
 unfold joinedFacts
 simp only [Bool.and_eq_true]
 repeat' refine And.intro ?_ ?_
 all_goals first | with_reducible exact c1 | with_reducible exact c2 | with_reducible exact c3 | with_reducible exact c4 | kernel_rfl
theorem said:Rows.YangPlaysSaid :=
 OpenClaim.holds_of_cond 3 Tryz.f3 rfl rfl rfl rfl rfl rfl rfl ⟨rfl,rfl,rfl,rfl,rfl⟩ rfl rfl rfl rfl rfl (by kernel_rfl) Tryz.func3 closed
  (of_decide_eq_true (by kernel_rfl)) (by unfold Func.isWrapper;first | (rw [if_pos (by decide +kernel)];kernel_rfl) | (rw [if_neg (by decide +kernel)];exact⟨rfl,rfl⟩))
  (fun os started H enc _ F=>by rw [OpenClaim.pre_eq_preRow];exact lifted os started H enc F)
end Go.Proofs.YtbphlkaihfbgeaaGreat.yangPlays
