/-
  RwRowSaid: part 5 of its proof.
-/
import Derived.Test.YtbaajjkopdjbgaaGreatJRwRowSaid4
import Derived.Laws.AppendOwnNone
open Go.Value renaming int -> V
open Go.IntKind renaming i64 -> Z
namespace Go.Proofs.YtbaajjkopdjbgaaGreat
open Go.RowKit Kv
set_option maxRecDepth 100000 in
theorem tregs_o3 (b c n o:Nat)(len:Nat)(w:World)(h1:1<=n)(h2:n*3<=len)(h3:len<=c)(h4:c<=9223372036854775807)(h5:len<=1000000) :
  Calls Tryz.prog 173 #[.slice (some ⟨b,o*7,none⟩) len c,.agg #[.func (.func 235) #[] #[],.func (.func 236) #[] #[],.func (.func 237) #[] #[]],V Z n] w fun e w'=>∃ c',e=.returned (.slice (some ⟨b,(o+3*(n-1))*7,none⟩) 3 c')/\3<=c'/\c'<=9223372036854775807/\Ext w w':=by
 obtain⟨k,rfl⟩:∃ k,n=k+1:=⟨n-1,by omega⟩
 rw [Nat.add_sub_cancel]
 have w1:=IntWalk.i64_in (((k+1:Nat):Int)-1) (by omega)
 have w2:=IntWalk.i64_in ((((k+1:Nat):Int)-1)*3) (by omega)
 have w3:=IntWalk.i64_in (((k+1:Nat):Int)*3) (by omega)
 have d1:decide ((len:Int)<((k:Int)+1)*3)=false:=by rw [decide_eq_false_iff_not];omega
 have hX:=Ext.refl w
 have b1:=Blk.new w (.cells #[.func (.func 235) #[] #[],.func (.func 236) #[] #[],.func (.func 237) #[] #[]] 147)
 replace hX:=hX.alloc (.cells #[.func (.func 235) #[] #[],.func (.func 236) #[] #[],.func (.func 237) #[] #[]] 147)
 have c_b1:=b1.cells
 go_enter Tryz.func173,Tryz.ntmps173
 go_wp2_with fail
 refine (awants_p _).mono ?_
 rintro e w2 ⟨v2,rfl,hr2,hx3⟩
 obtain⟨A,c2,rfl,r1,r2,-⟩:=hr2
 rw [List.length_replicate]
 replace hX:=hX.trans hx3;clear hx3;go_wp2_with fail
 go_ret
 exact⟨c-k*3,by rw [show (k+1)*3-k*3=3 from by omega,show o*7+k*3*7=(o+3*k)*7 from by omega];rfl,by omega,by omega,hX⟩
theorem node_enter_o3 (B p D n:Nat)(S:TS)(rs T:List Reg)(o:Nat)(hT:T=rs.drop o)(x me:Int)(b c:Nat)(w:World)(h:Plays B w p S)(hl:RegsAt [2,3,4] w p b rs)(hall:∀ r∈T,r.ok/\me<r.n/\r.told me)(hm0:0<=me)(hn:x / 2=n)(hn1:1<=n)(hn2:n*3<=T.length)(hD:S.left<D)(_hc4:3<=c)(_hc5:c<=9223372036854775807) :
  Calls Tryz.prog 236 #[.pointer (some ⟨p,0,none⟩),.slice (some ⟨b,(o+3*(n-1))*7,none⟩) 3 c,V Z (x % 2),V Z me] w (Post encU B p w ((nodeE 3 D T me x).run S)):=by
 have hsh:∀ i,i<T.length->rs[o+i]?=some (nthR T i):=fun i hi=>by
  have:=nthR_of (rs:=T) (i:=i) hi
  rw [hT,List.getElem?_drop] at this
  rw [hT]
  exact this
 unfold nodeE
 rw [if_neg (by decide),hn,Int.toNat_natCast]
 obtain⟨k0,l0,t0⟩:=hall _ (List.mem_of_getElem? (nthR_of (rs:=T) (i:=3*(n-1)) (by omega)))
 obtain⟨k1,l1,t1⟩:=hall _ (List.mem_of_getElem? (nthR_of (rs:=T) (i:=3*(n-1)+1) (by omega)))
 obtain⟨k2,l2,t2⟩:=hall _ (List.mem_of_getElem? (nthR_of (rs:=T) (i:=3*(n-1)+2) (by omega)))
 exact arbn_enter_p B p D S _ _ _ (x % 2) me b c (o+3*(n-1)) rs w h hl ⟨hsh (3*(n-1)) (by omega),hsh (3*(n-1)+1) (by omega),hsh (3*(n-1)+2) (by omega)⟩ k0 k1 k2 hm0 l0 l1 l2 t0 t1 hD
theorem node_leave_o3 (B p n:Nat)(S:TS)(rs T:List Reg)(o:Nat)(hT:T=rs.drop o)(x me:Int)(b c:Nat)(w:World)(h:Plays B w p S)(hl:RegsAt [2,3,4] w p b rs)(hall:∀ r∈T,r.ok/\me<r.n/\r.told me)(hm0:0<=me)(hn:x / 2=n)(hn1:1<=n)(hn2:n*3<=T.length) :
  Calls Tryz.prog 237 #[.pointer (some ⟨p,0,none⟩),.slice (some ⟨b,(o+3*(n-1))*7,none⟩) 3 c,V Z (x % 2),V Z me] w (Post encU B p w ((nodeL 3 T me x).run S)):=by
 have hsh:∀ i,i<T.length->rs[o+i]?=some (nthR T i):=fun i hi=>by
  have:=nthR_of (rs:=T) (i:=i) hi
  rw [hT,List.getElem?_drop] at this
  rw [hT]
  exact this
 unfold nodeL
 rw [hn,Int.toNat_natCast]
 obtain⟨k0,l0,t0⟩:=hall _ (List.mem_of_getElem? (nthR_of (rs:=T) (i:=3*(n-1)) (by omega)))
 obtain⟨k1,l1,t1⟩:=hall _ (List.mem_of_getElem? (nthR_of (rs:=T) (i:=3*(n-1)+1) (by omega)))
 obtain⟨k2,l2,t2⟩:=hall _ (List.mem_of_getElem? (nthR_of (rs:=T) (i:=3*(n-1)+2) (by omega)))
 exact arbn_leave_p B p S _ _ (nthR T (3*(n-1)+2)) (x % 2) me b c (o+3*(n-1)) rs w h hl ⟨hsh (3*(n-1)) (by omega),hsh (3*(n-1)+1) (by omega),hsh (3*(n-1)+2) (by omega)⟩ k0 k1 hm0 l0 l1
set_option maxRecDepth 100000 in
set_option maxHeartbeats 2000000 in
theorem climb_o3 (B p D:Nat)(S:TS)(kind:Int)(m place:Nat)(me:Int)(rs T:List Reg)(o:Nat)(hT:T=rs.drop o)(A:Option Addr)(c:Nat)(w:World)(h:Plays B w p S)(hk:kind≠7)(h1:1<=m)(h2:m<=64)(h3:place<m)(hlen:T.length=3*(2 ^ levels m-1))(hc1:T.length<=c)(hc2:c<=9223372036854775807)
  (hreg:T≠[]->∃ b,A=some ⟨b,o*7,none⟩/\RegsAt [2,3,4] w p b rs)(hall:∀ r∈T,r.ok/\me<r.n/\r.told me)(hm0:0<=me)(hD:S.left<D) :
  Calls Tryz.prog 91 #[.pointer (some ⟨p,0,none⟩),.slice A T.length c,V Z kind,V Z m,V Z place,V Z me] w (Post encU B p w ((forP (fun x _=>nodeE 3 D T me x) (pathL m place) ()).run S)):=by
 generalize hR:Post encU B p w ((forP (fun x _=>nodeE 3 D T me x) (pathL m place) ()).run S)=R
 have hO:Owes R encU B p w ((forP (fun x _=>nodeE 3 D T me x) (pathL m place) ()).run S):=hR▸owes _ _ _ _ _
 clear hR
 have hTh:=Hd hT
 clear hT
 have hmem:=fun y (hy:y∈pathL m place)=>pathL_mem h2 h3 hy
 have hPth:=fun w=>path_p m place w h1 h2 h3
 have hlv:=lev_le h2
 obtain⟨p1,p2⟩:=pow_le hlv
 have e:(2:Int) ^ levels m=((2 ^ levels m:Nat):Int):=by rw [Int.natCast_pow];rfl
 rw [e] at hmem
 have hll:(pathL m place).length<=128:=by
  have:=pathN_len (2 ^ levels m+place) (2 ^ levels m+place)
  unfold pathL
  omega
 clear e hlv
 generalize 2 ^ levels m=P at *
 generalize pathL m place=l at *
 have hn:nodeV kind=.agg #[.func (.func 235) #[] #[],.func (.func 236) #[] #[],.func (.func 237) #[] #[]]:=by unfold nodeV;rw [if_neg hk];rfl
 have hN:=fun w=>nodeOf_p kind w
 rw [hn] at hN
 have hmemh:=Hd hmem
 have hallh:=Hd hall
 have hlenh:=Hd hlen
 have hOh:=Hd hO;clear hn hk hmem hall hlen hO
 go_enter Tryz.func91,Tryz.ntmps91
 go_wp2_with fail
 refine (hN _).mono ?_
 rintro e w2 ⟨rfl,hx2⟩
 have hK:=Keep.of_ext (ix:=[2,3,4]) (B:=B) hx2 h.lt h.le
 have hP:=h.ext hx2
 have hreg2:T≠[]->∃ b,A=some ⟨b,o*7,none⟩/\RegsAt [2,3,4] w2 p b rs:=fun hne=>by
  obtain⟨b,e1,e2⟩:=hreg hne
  exact⟨b,e1,e2.extL hx2 h.lt⟩
 clear hx2 h hreg
 have bx:=hP.held (.cells #[.func (.func 235) #[] #[],.func (.func 236) #[] #[],.func (.func 237) #[] #[]] 147)
 replace hK:=hK.trans (Keep.alloc (.cells #[.func (.func 235) #[] #[],.func (.func 236) #[] #[],.func (.func 237) #[] #[]] 147) hP.lt hP.le)
 have hreg3:T≠[]->∃ b,A=some ⟨b,o*7,none⟩/\RegsAt [2,3,4] (w2.alloc (.cells #[.func (.func 235) #[] #[],.func (.func 236) #[] #[],.func (.func 237) #[] #[]] 147)) p b rs:=fun hne=>by
  obtain⟨b,e1,e2⟩:=hreg2 hne
  exact⟨b,e1,e2.extL ((Ext.refl w2).alloc (.cells #[.func (.func 235) #[] #[],.func (.func 236) #[] #[],.func (.func 237) #[] #[]] 147)) hP.lt⟩
 replace hP:=hP.alloc (.cells #[.func (.func 235) #[] #[],.func (.func 236) #[] #[],.func (.func 237) #[] #[]] 147)
 clear hreg2;go_wp2_with fail
 generalize w2.heap.size=z at *
 generalize w2.alloc _=W at *
 refine (hPth _).mono ?_
 rintro e w3 ⟨v3,rfl,hrow,hx3⟩
 obtain⟨A3,c3,rfl,hR⟩:=RowH.of_row (p:=p) (ix:=[2,3,4]) hrow (fun b hb=>hP.fresh hx3 hb)
 replace hK:=hK.trans (Keep.of_ext hx3 hP.lt hP.le)
 replace bx:=bx.ext hx3 hP.lt
 have hreg:T≠[]->∃ b,A=some ⟨b,o*7,none⟩/\RegsAt [2,3,4] w3 p b rs:=fun hne=>by
  obtain⟨b,e1,e2⟩:=hreg3 hne
  exact⟨b,e1,e2.extL hx3 hP.lt⟩
 replace hP:=hP.ext hx3;clear hreg3 hx3 hrow hPth hN
 by_cases hl0:l=[]
 · subst hl0
   have hf:=hOh.out.done (v:=()) hP hK
   clear hOh hmemh hR hreg hallh hlenh;go_wp2_with fail
   go_loopw [21] (fun i wr=>i=V Z 0/\w3=wr) (fun _ _=>0)
   case atStart=>exact⟨rfl,rfl⟩
   case round =>
    obtain⟨rfl,rfl⟩:=hrel
    go_wp2_with fail
    first | exact hf | (refine bodyPost_ret (results_none rfl _ _ _) rfl ?_;exact hf)
 obtain⟨g,cur,rfl,hg,hcur⟩:=hR hl0
 obtain⟨b,rfl,hl⟩:=hreg (by
  obtain⟨y,l',rfl⟩:∃ y l',l=y :: l':=by cases l with | nil=>exact absurd rfl hl0 | cons y l'=>exact⟨y,l',rfl⟩
  have h1:=hmemh.out y (List.mem_cons_self ..)
  have h2:=hlenh.out;intro hne;rw [hne,List.length_nil] at h2
  omega)
 have hch:=Hd hcur
 clear hreg hR hl0 hcur;go_wp2_with fail
 go_loopw [21] (fun i wr=>∃ (j:Nat) (S2:TS),i=V Z j/\j<=l.length/\Plays B wr p S2/\KeepP B p w wr/\HeldP wr p z (.cells #[.func (.func 235) #[] #[],.func (.func 236) #[] #[],.func (.func 237) #[] #[]] 147)/\HeldP wr p g (.cells cur 3)/\RegsAt [2,3,4] wr p b rs/\S2.left<D/\Hid (Owes R encU B p w ((forP (fun x _=>nodeE 3 D T me x) (l.drop j) ()).run S2))) (fun i _=>l.length-(intOf i).toNat)
 case atStart=>exact⟨0,S,rfl,by omega,hP,hK,bx,hg,hl,hD,hOh⟩
 case round =>
  clear hP hK bx hg hl hD hOh
  obtain⟨j,S2,rfl,hj,hP,hK,bx,hg,hl,hD,hOh⟩:=hrel
  by_cases hjl:j<l.length
  · obtain⟨y,hy⟩:∃ y,l[j]?=some y:=⟨_,List.getElem?_eq_getElem hjl⟩
    have hym:=hmemh.out y (List.mem_of_getElem? hy)
    obtain⟨Y,rfl⟩:∃ Y:Nat,y=(Y:Int):=⟨y.toNat,by omega⟩
    have c_g:=hg.at_ hch.out hy
    have hO:=hOh.out
    rw [List.drop_eq_getElem_cons hjl,show l[j]=(Y:Int) from by rw [List.getElem?_eq_getElem hjl] at hy;exact Option.some.inj hy] at hO
    have hOk:Hid (Owes R encU B p w (((nodeE 3 D T me (Y:Int)).bind fun _=>forP (fun x _=>nodeE 3 D T me x) (l.drop (j+1)) ()).run S2)):=Hd hO
    clear hO hOh hy
    have hn2:Y / 2*3<=T.length:=by have:=hlenh.out;omega
    have hn1:1<=Y / 2:=by omega
    have hlen9:T.length<=1000000:=by have:=hlenh.out;omega
    have hrg:=fun w=>tregs_o3 b c (Y / 2) o T.length w hn1 hn2 hc1 hc2 hlen9
    have hq1:IntKind.i64.wrap ((Y:Int) / 2)=((Y / 2:Nat):Int):=by rw [IntWalk.i64_in _ (by omega)];omega
    have hq2:(Y:Int).tmod 2=(Y:Int) % 2:=Int.tmod_eq_emod_of_nonneg (by omega)
    go_wp2_with fail
    have hS:∀ w',HeldP w' p z (.cells #[.func (.func 235) #[] #[],.func (.func 236) #[] #[],.func (.func 237) #[] #[]] 147)->(∀ i,w'.cell? ⟨z,i,none⟩=(#[.func (.func 235) #[] #[],.func (.func 236) #[] #[],.func (.func 237) #[] #[]]:Array Value)[i]?):=fun w' x=>x.cells
    have c_bx:=bx.cells
    refine wp_region_held_drew (S:=fun w'=>∀ i,w'.cell? ⟨z,i,none⟩=(#[.func (.func 235) #[] #[],.func (.func 236) #[] #[],.func (.func 237) #[] #[]]:Array Value)[i]?) rfl (hS _ bx) (fun hHeld=>?_)
    replace hl:=hl.extL (Ext.refl wr).drew hP.lt
    replace hP:=hP.drew;replace hK:=hK.drew;replace bx:=bx.drew;replace hg:=hg.drew
    refine tkb 0 ?_
    iterate 7
     refine tkn (v:=?_) rfl (by kernel_rfl) (fun _ _ _ h=>h) (by assumption) ?_ ?_
     rotate_left
     · (intro w hSw;(try dsimp only at hSw);go_simp;try with_reducible rfl)
     try simp only [put_pack]
    refine tke ?_
    refine tkb 8 ?_
    iterate 3
     refine tkn (v:=?_) rfl (by kernel_rfl) (fun _ _ _ h=>h) (by assumption) ?_ ?_
     rotate_left
     · (intro w hSw;(try dsimp only at hSw);go_simp;try with_reducible rfl)
     try simp only [put_pack]
    refine tke ?_
    refine wpAnyH_ready (rs:=[7]) (by kernel_rfl) (by simp) ?_
    refine AllReadyH.cons rfl (fun K hKK=>?_) (AllReadyH.nil)
    go_simp
    refine (hrg _).mono ?_
    rintro e w4 ⟨c',rfl,q1,q2,hx⟩
    replace bx:=bx.ext hx hP.lt;replace hg:=hg.ext hx hP.lt;replace hl:=hl.extL hx hP.lt;replace hK:=hK.trans (Keep.of_ext hx hP.lt hP.le);replace hP:=hP.ext hx;clear hx hrg c_g c_bx
    refine hKK.out _ _ (hS _ bx) (fun hHeld=>?_)
    clear hKK K
    try dsimp only
    refine wpAnyH_ready (rs:=[11]) (by kernel_rfl) (by simp) ?_
    refine AllReadyH.cons rfl (fun K hKK=>?_) (AllReadyH.nil)
    go_simp
    refine tstepL hOk.out hK (node_enter_o3 B p D (Y / 2) S2 rs T o hTh.out Y me b c' _ hP hl hallh.out hm0 (by omega) hn1 hn2 hD q1 q2) (fun _ h=>⟨rfl,h⟩) ?_
    clear hK hP hOk;intro u S3 w5 hlf _ hP hk1 hK hO;replace hD:=Nat.lt_of_le_of_lt hlf hD;replace bx:=bx.keep hk1;replace hg:=hg.keep hk1;replace hl:=hl.keep hk1;clear hk1 hlf
    refine hKK.out _ _ (hS _ bx) (fun hHeld=>?_)
    clear hKK K
    try dsimp only
    refine wpAnyH_done (by kernel_rfl) ?_ _
    go_simp
    have hf:=Hd hO
    clear hO hS;go_wp2_with fail
    refine⟨⟨j+1,S3,by go_num,by omega,hP,hK,bx,hg,hl,hD,hf⟩,?_⟩
    simp [intOf];omega
  · obtain rfl:j=l.length:=by omega
    have hO:=hOh.out;rw [List.drop_length] at hO
    have hf:=hO.done (v:=()) hP hK
    clear hO hOh hP hK hl hg bx;go_wp2_with fail
    first | exact hf | (refine bodyPost_ret (results_none rfl _ _ _) rfl ?_;exact hf)
set_option maxRecDepth 100000 in
set_option maxHeartbeats 2000000 in
theorem down_o3 (B p:Nat)(S:TS)(kind:Int)(m place:Nat)(me:Int)(rs T:List Reg)(o:Nat)(hT:T=rs.drop o)(A:Option Addr)(c:Nat)(w:World)(h:Plays B w p S)(hk:kind≠7)(h1:1<=m)(h2:m<=64)(h3:place<m)(hlen:T.length=3*(2 ^ levels m-1))(hc1:T.length<=c)(hc2:c<=9223372036854775807)
  (hreg:T≠[]->∃ b,A=some ⟨b,o*7,none⟩/\RegsAt [2,3,4] w p b rs)(hall:∀ r∈T,r.ok/\me<r.n/\r.told me)(hm0:0<=me) :
  Calls Tryz.prog 94 #[.pointer (some ⟨p,0,none⟩),.slice A T.length c,V Z kind,V Z m,V Z place,V Z me] w (Post encU B p w ((forP (fun x _=>nodeL 3 T me x) (pathL m place).reverse ()).run S)):=by
 generalize hR:Post encU B p w ((forP (fun x _=>nodeL 3 T me x) (pathL m place).reverse ()).run S)=R
 have hO:Owes R encU B p w ((forP (fun x _=>nodeL 3 T me x) (pathL m place).reverse ()).run S):=hR▸owes _ _ _ _ _
 clear hR
 have hTh:=Hd hT
 clear hT
 have hmem:=fun y (hy:y∈pathL m place)=>pathL_mem h2 h3 hy
 have hPth:=fun w=>path_p m place w h1 h2 h3
 have hlv:=lev_le h2
 obtain⟨p1,p2⟩:=pow_le hlv
 have e:(2:Int) ^ levels m=((2 ^ levels m:Nat):Int):=by rw [Int.natCast_pow];rfl
 rw [e] at hmem
 have hll:(pathL m place).length<=128:=by
  have:=pathN_len (2 ^ levels m+place) (2 ^ levels m+place)
  unfold pathL
  omega
 clear e hlv
 generalize 2 ^ levels m=P at *
 generalize pathL m place=l at *
 have hn:nodeV kind=.agg #[.func (.func 235) #[] #[],.func (.func 236) #[] #[],.func (.func 237) #[] #[]]:=by unfold nodeV;rw [if_neg hk];rfl
 have hN:=fun w=>nodeOf_p kind w
 rw [hn] at hN
 have hmemh:=Hd hmem
 have hallh:=Hd hall
 have hlenh:=Hd hlen
 have hOh:=Hd hO;clear hn hk hmem hall hlen hO
 go_enter Tryz.func94,Tryz.ntmps94
 go_wp2_with fail
 refine (hN _).mono ?_
 rintro e w2 ⟨rfl,hx2⟩
 have hK:=Keep.of_ext (ix:=[2,3,4]) (B:=B) hx2 h.lt h.le
 have hP:=h.ext hx2
 have hreg2:T≠[]->∃ b,A=some ⟨b,o*7,none⟩/\RegsAt [2,3,4] w2 p b rs:=fun hne=>by
  obtain⟨b,e1,e2⟩:=hreg hne
  exact⟨b,e1,e2.extL hx2 h.lt⟩
 clear hx2 h hreg
 have bx:=hP.held (.cells #[.func (.func 235) #[] #[],.func (.func 236) #[] #[],.func (.func 237) #[] #[]] 147)
 replace hK:=hK.trans (Keep.alloc (.cells #[.func (.func 235) #[] #[],.func (.func 236) #[] #[],.func (.func 237) #[] #[]] 147) hP.lt hP.le)
 have hreg3:T≠[]->∃ b,A=some ⟨b,o*7,none⟩/\RegsAt [2,3,4] (w2.alloc (.cells #[.func (.func 235) #[] #[],.func (.func 236) #[] #[],.func (.func 237) #[] #[]] 147)) p b rs:=fun hne=>by
  obtain⟨b,e1,e2⟩:=hreg2 hne
  exact⟨b,e1,e2.extL ((Ext.refl w2).alloc (.cells #[.func (.func 235) #[] #[],.func (.func 236) #[] #[],.func (.func 237) #[] #[]] 147)) hP.lt⟩
 replace hP:=hP.alloc (.cells #[.func (.func 235) #[] #[],.func (.func 236) #[] #[],.func (.func 237) #[] #[]] 147)
 clear hreg2;go_wp2_with fail
 generalize w2.heap.size=z at *
 generalize w2.alloc _=W at *
 refine (hPth _).mono ?_
 rintro e w3 ⟨v3,rfl,hrow,hx3⟩
 go_wp2_with fail
 refine (reverse_p hx3 hrow (by omega)).mono ?_
 rintro e w4 ⟨rfl,hx4,hrow4⟩
 obtain⟨A3,c3,rfl,hR⟩:=RowH.of_row (p:=p) (ix:=[2,3,4]) hrow4 (fun b hb=>hP.fresh hx4 hb)
 replace hK:=hK.trans (Keep.of_ext hx4 hP.lt hP.le)
 replace bx:=bx.ext hx4 hP.lt;clear hrow hx3
 have hreg:T≠[]->∃ b,A=some ⟨b,o*7,none⟩/\RegsAt [2,3,4] w4 p b rs:=fun hne=>by
  obtain⟨b,e1,e2⟩:=hreg3 hne
  exact⟨b,e1,e2.extL hx4 hP.lt⟩
 replace hP:=hP.ext hx4;clear hreg3 hx4 hrow4 hPth hN
 have hmem2:∀ y∈l.reverse,2<=y/\y<2*((P:Nat):Int):=fun y hy=>hmemh.out y (List.mem_reverse.1 hy)
 replace hll:l.reverse.length<=128:=by rw [List.length_reverse];exact hll
 generalize l.reverse=l2 at *
 clear hmemh
 have hmemh:=Hd hmem2
 clear hmem2
 by_cases hl0:l2=[]
 · subst hl0
   have hf:=hOh.out.done (v:=()) hP hK
   clear hOh hmemh hR hreg hallh hlenh;go_wp2_with fail
   go_loopw [25] (fun i wr=>i=V Z 0/\w4=wr) (fun _ _=>0)
   case atStart=>exact⟨rfl,rfl⟩
   case round =>
    obtain⟨rfl,rfl⟩:=hrel
    go_wp2_with fail
    first | exact hf | (refine bodyPost_ret (results_none rfl _ _ _) rfl ?_;exact hf)
 obtain⟨g,cur,rfl,hg,hcur⟩:=hR hl0
 obtain⟨b,rfl,hl⟩:=hreg (by
  obtain⟨y,l2',rfl⟩:∃ y l2',l2=y :: l2':=by cases l2 with | nil=>exact absurd rfl hl0 | cons y l2'=>exact⟨y,l2',rfl⟩
  have h1:=hmemh.out y (List.mem_cons_self ..)
  have h2:=hlenh.out;intro hne;rw [hne,List.length_nil] at h2
  omega)
 have hch:=Hd hcur
 clear hreg hR hl0 hcur;go_wp2_with fail
 go_loopw [25] (fun i wr=>∃ (j:Nat) (S2:TS),i=V Z j/\j<=l2.length/\Plays B wr p S2/\KeepP B p w wr/\HeldP wr p z (.cells #[.func (.func 235) #[] #[],.func (.func 236) #[] #[],.func (.func 237) #[] #[]] 147)/\HeldP wr p g (.cells cur 3)/\RegsAt [2,3,4] wr p b rs/\Hid (Owes R encU B p w ((forP (fun x _=>nodeL 3 T me x) (l2.drop j) ()).run S2))) (fun i _=>l2.length-(intOf i).toNat)
 case atStart=>exact⟨0,S,rfl,by omega,hP,hK,bx,hg,hl,hOh⟩
 case round =>
  clear hP hK bx hg hl hOh
  obtain⟨j,S2,rfl,hj,hP,hK,bx,hg,hl,hOh⟩:=hrel
  by_cases hjl:j<l2.length
  · obtain⟨y,hy⟩:∃ y,l2[j]?=some y:=⟨_,List.getElem?_eq_getElem hjl⟩
    have hym:=hmemh.out y (List.mem_of_getElem? hy)
    obtain⟨Y,rfl⟩:∃ Y:Nat,y=(Y:Int):=⟨y.toNat,by omega⟩
    have c_g:=hg.at_ hch.out hy
    have hO:=hOh.out
    rw [List.drop_eq_getElem_cons hjl,show l2[j]=(Y:Int) from by rw [List.getElem?_eq_getElem hjl] at hy;exact Option.some.inj hy] at hO
    have hOk:Hid (Owes R encU B p w (((nodeL 3 T me (Y:Int)).bind fun _=>forP (fun x _=>nodeL 3 T me x) (l2.drop (j+1)) ()).run S2)):=Hd hO
    clear hO hOh hy
    have hn2:Y / 2*3<=T.length:=by have:=hlenh.out;omega
    have hn1:1<=Y / 2:=by omega
    have hlen9:T.length<=1000000:=by have:=hlenh.out;omega
    have hrg:=fun w=>tregs_o3 b c (Y / 2) o T.length w hn1 hn2 hc1 hc2 hlen9
    have hq1:IntKind.i64.wrap ((Y:Int) / 2)=((Y / 2:Nat):Int):=by rw [IntWalk.i64_in _ (by omega)];omega
    have hq2:(Y:Int).tmod 2=(Y:Int) % 2:=Int.tmod_eq_emod_of_nonneg (by omega)
    go_wp2_with fail
    have hS:∀ w',HeldP w' p z (.cells #[.func (.func 235) #[] #[],.func (.func 236) #[] #[],.func (.func 237) #[] #[]] 147)->(∀ i,w'.cell? ⟨z,i,none⟩=(#[.func (.func 235) #[] #[],.func (.func 236) #[] #[],.func (.func 237) #[] #[]]:Array Value)[i]?):=fun w' x=>x.cells
    have c_bx:=bx.cells
    refine wp_region_held_drew (S:=fun w'=>∀ i,w'.cell? ⟨z,i,none⟩=(#[.func (.func 235) #[] #[],.func (.func 236) #[] #[],.func (.func 237) #[] #[]]:Array Value)[i]?) rfl (hS _ bx) (fun hHeld=>?_)
    replace hl:=hl.extL (Ext.refl wr).drew hP.lt
    replace hP:=hP.drew;replace hK:=hK.drew;replace bx:=bx.drew;replace hg:=hg.drew
    refine tkb 0 ?_
    iterate 7
     refine tkn (v:=?_) rfl (by kernel_rfl) (fun _ _ _ h=>h) (by assumption) ?_ ?_
     rotate_left
     · (intro w hSw;(try dsimp only at hSw);go_simp;try with_reducible rfl)
     try simp only [put_pack]
    refine tke ?_
    refine tkb 8 ?_
    iterate 3
     refine tkn (v:=?_) rfl (by kernel_rfl) (fun _ _ _ h=>h) (by assumption) ?_ ?_
     rotate_left
     · (intro w hSw;(try dsimp only at hSw);go_simp;try with_reducible rfl)
     try simp only [put_pack]
    refine tke ?_
    refine wpAnyH_ready (rs:=[7]) (by kernel_rfl) (by simp) ?_
    refine AllReadyH.cons rfl (fun K hKK=>?_) (AllReadyH.nil)
    go_simp
    refine (hrg _).mono ?_
    rintro e w4 ⟨c',rfl,q1,q2,hx⟩
    replace bx:=bx.ext hx hP.lt;replace hg:=hg.ext hx hP.lt;replace hl:=hl.extL hx hP.lt;replace hK:=hK.trans (Keep.of_ext hx hP.lt hP.le);replace hP:=hP.ext hx;clear hx hrg c_g c_bx
    refine hKK.out _ _ (hS _ bx) (fun hHeld=>?_)
    clear hKK K
    try dsimp only
    refine wpAnyH_ready (rs:=[11]) (by kernel_rfl) (by simp) ?_
    refine AllReadyH.cons rfl (fun K hKK=>?_) (AllReadyH.nil)
    go_simp
    refine tstepL hOk.out hK (node_leave_o3 B p (Y / 2) S2 rs T o hTh.out Y me b c' _ hP hl hallh.out hm0 (by omega) hn1 hn2) (fun _ h=>⟨rfl,h⟩) ?_
    clear hK hP hOk;intro u S3 w5 hlf _ hP hk1 hK hO;replace bx:=bx.keep hk1;replace hg:=hg.keep hk1;replace hl:=hl.keep hk1;clear hk1 hlf
    refine hKK.out _ _ (hS _ bx) (fun hHeld=>?_)
    clear hKK K
    try dsimp only
    refine wpAnyH_done (by kernel_rfl) ?_ _
    go_simp
    have hf:=Hd hO
    clear hO hS;go_wp2_with fail
    refine⟨⟨j+1,S3,by go_num,by omega,hP,hK,bx,hg,hl,hf⟩,?_⟩
    simp [intOf];omega
  · obtain rfl:j=l2.length:=by omega
    have hO:=hOh.out;rw [List.drop_length] at hO
    have hf:=hO.done (v:=()) hP hK
    clear hO hOh hP hK hl hg bx;go_wp2_with fail
    first | exact hf | (refine bodyPost_ret (results_none rfl _ _ _) rfl ?_;exact hf)
end Go.Proofs.YtbaajjkopdjbgaaGreat
namespace Kv
def filWant (N i:Nat):Want:=if i<N then ⟨i,N⟩ else ⟨-1,N⟩
def filWants (N:Nat):List Want:=(List.range (2*N-1)).map (filWant N)
def fastWant (N i:Nat):Want:=if i<2 then ⟨-1,N⟩ else ⟨i-2,1⟩
def fastWants (N:Nat):List Want:=(List.range (N+2)).map (fastWant N)
def bwWant (N i:Nat):Want:=if i=0 then ⟨-1,1⟩ else if i<=N then ⟨i-1,1⟩ else ⟨i-1-N,4*N⟩
def bwWants (N:Nat):List Want:=(List.range (2*N+1)).map (bwWant N)
end Kv
namespace Go.Proofs.YtbaajjkopdjbgaaGreat
open Go.RowKit Kv
def wantRow (f:Nat->Want) (n:Nat):List Value:=((List.range n).map f).flatMap wantVals
theorem wants_succ (f:Nat->Want)(j:Nat):wantRow f (j+1)=wantRow f j++wantVals (f j):=by
 unfold wantRow
 rw [List.range_succ,List.map_append,List.flatMap_append]
 simp
theorem wants_row {w:World}{B:Nat}{v:Value}{n:Nat}{f:Nat->Want}(h:w.ownsRow B 179 2 v n (wantRow f n)):WantsAt w v ((List.range n).map f):=by
 have:=Recs.of_row h
 unfold WantsAt
 rw [List.length_map,List.length_range]
 exact this
set_option maxRecDepth 100000 in
theorem filwants_p (N:Nat)(w:World)(h1:1<=N)(h2:N<=8):Calls Tryz.prog 188 #[V Z N] w fun e w'=>∃ v,e=.returned v/\WantsAt w' v (filWants N)/\Ext w w':=by
 have hmx:min (max (N:Int) 1) 8=N:=by omega
 go_enter Tryz.func188,Tryz.ntmps188
 go_wp2_with fail
 go_loopw [3,9] (fun v i wr=>∃ j:Nat,i=V Z j/\j<=N/\wr.ownsRow w.heap.size 179 2 v j (wantRow (filWant N) j)/\Ext w wr) (fun _ i _=>N-(intOf i).toNat)
 case atStart=>exact⟨0,rfl,by omega,World.ownsRow_nil _ _ _ _,Ext.refl _⟩
 case round =>
  obtain⟨j,rfl,hj,hown,hE⟩:=hrel
  by_cases hl:j<N
  · go_wp2_with (at_builtin;refine append_rec info_want Tryz.underlying102 rfl (by decide) (by decide) rfl _ _ rfl _ j _ [V Z j,V Z N] hE hown rfl rfl rfl (by simp [Value.oneCell']) (by omega) ?_)
    intro v' w' ho hx _
    have hoh:=Hd ho
    clear hown ho;go_wp2_with fail
    refine⟨⟨j+1,by go_num,by omega,?_,hx⟩,?_⟩
    · rw [show (j+1)=j+1 from by omega,wants_succ]
      rw [show filWant N (j)=⟨(j:Int),(N:Int)⟩ from by unfold filWant;rw [if_pos hl]]
      exact hoh.out
    · simp [intOf];omega
  · obtain rfl:j=N:=by omega
    have hsub:=IntWalk.i64_in ((j:Int)-1) (by omega)
    have hE0:=Hd hE
    have hown0:=Hd hown
    clear hown hE;go_wp2_with fail
    clear hmx hsub
    go_loopw [3,21] (fun v i wr=>∃ k:Nat,i=V Z k/\k<=j-1/\wr.ownsRow w.heap.size 179 2 v (j+k) (wantRow (filWant j) (j+k))/\Ext w wr) (fun _ i _=>(j-1)-(intOf i).toNat)
    case atStart=>exact⟨0,rfl,by omega,hown0.out,hE0.out⟩
    case round =>
     clear hown0 hE0
     obtain⟨k,rfl,hk,hown,hE⟩:=hrel
     by_cases hl:k<j-1
     · have dl:decide ((k:Int)<(j:Int)-1)=true:=by rw [decide_eq_true_eq];omega
       go_wp2_with (at_builtin;refine append_rec info_want Tryz.underlying102 rfl (by decide) (by decide) rfl _ _ rfl _ (j+k) _ [V Z (-1),V Z j] hE hown rfl rfl rfl (by simp [Value.oneCell']) (by omega) ?_)
       intro v' w' ho hx _
       have hoh:=Hd ho
       clear hown ho;go_wp2_with fail
       refine⟨⟨k+1,by go_num,by omega,?_,hx⟩,?_⟩
       · rw [show j+(k+1)=(j+k)+1 from by omega,wants_succ]
         rw [show filWant j (j+k)=⟨-1,(j:Int)⟩ from by unfold filWant;rw [if_neg (by omega)]]
         exact hoh.out
       · simp [intOf];omega
     · have dl:decide ((k:Int)<(j:Int)-1)=false:=by rw [decide_eq_false_iff_not];omega
       obtain rfl:k=j-1:=by omega
       have hownh:=Hd hown
       clear hown;go_wp2_with fail
       go_ret
       refine⟨_,rfl,?_,hE⟩
       have:=hownh.out
       rw [show j+(j-1)=2*j-1 from by omega] at this
       exact wants_row this
set_option maxRecDepth 100000 in
theorem filwants_r (N:Nat)(w:World)(h1:1<=N)(h2:N<=8):Calls Tryz.prog 178 #[V Z N] w fun e w'=>∃ v,e=.returned v/\WantsAt w' v (filWants N)/\Ext w w':=by
 have hN:nM (N:Int)=N:=nM_id (by omega) (by omega)
 have hw2:=IntWalk.i64_in (2*(N:Int)) (by omega)
 have hw3:=IntWalk.i64_in (2*(N:Int)-1) (by omega)
 go_enter Tryz.func178,Tryz.ntmps178
 go_wp2_with fail
 refine (rn_any ⟨0,0,0,N,0,0,0⟩ _).mono ?_
 rintro e w1 ⟨rfl,hX⟩
 simp only
 rw [hN]
 clear hN
 have hX0:=Hd hX
 clear hX;go_wp2_with fail
 go_loopw [4,5] (fun v i wr=>∃ j:Nat,i=V Z j/\j<=2*N-1/\wr.ownsRow w.heap.size 179 2 v j (wantRow (filWant N) j)/\Ext w wr) (fun _ i _=>(2*N-1)-(intOf i).toNat)
 case atStart=>exact⟨0,rfl,by omega,World.ownsRow_nil _ _ _ _,hX0.out⟩
 case round =>
  clear hX0
  obtain⟨j,rfl,hj,hown,hE⟩:=hrel
  by_cases hl:j<2*N-1
  · have dl:decide ((j:Int)<2*(N:Int)-1)=true:=by rw [decide_eq_true_eq];omega
    by_cases hn:j<N
    · go_wp2_with (at_builtin;refine append_rec info_want Tryz.underlying102 rfl (by decide) (by decide) rfl _ _ rfl _ j _ [V Z j,V Z N] hE hown rfl rfl rfl (by simp [Value.oneCell']) (by omega) ?_)
      intro v' w' ho hx _
      have hoh:=Hd ho
      clear hown ho;go_wp2_with fail
      refine⟨⟨j+1,by go_num,by omega,?_,hx⟩,?_⟩
      · rw [show (j+1)=j+1 from by omega,wants_succ]
        rw [show filWant N (j)=⟨(j:Int),(N:Int)⟩ from by unfold filWant;rw [if_pos hn]]
        exact hoh.out
      · simp [intOf];omega
    · go_wp2_with (at_builtin;refine append_rec info_want Tryz.underlying102 rfl (by decide) (by decide) rfl _ _ rfl _ j _ [V Z (-1),V Z N] hE hown rfl rfl rfl (by simp [Value.oneCell']) (by omega) ?_)
      intro v' w' ho hx _
      have hoh:=Hd ho
      clear hown ho;go_wp2_with fail
      refine⟨⟨j+1,by go_num,by omega,?_,hx⟩,?_⟩
      · rw [show (j+1)=j+1 from by omega,wants_succ]
        rw [show filWant N (j)=⟨-1,(N:Int)⟩ from by unfold filWant;rw [if_neg hn]]
        exact hoh.out
      · simp [intOf];omega
  · have dl:decide ((j:Int)<2*(N:Int)-1)=false:=by rw [decide_eq_false_iff_not];omega
    obtain rfl:j=2*N-1:=by omega
    have hownh:=Hd hown
    clear hown;go_wp2_with fail
    go_ret
    exact⟨_,rfl,wants_row hownh.out,hE⟩
set_option maxRecDepth 100000 in
theorem fastwants_p (N:Nat)(w:World)(h1:1<=N)(h2:N<=8):Calls Tryz.prog 191 #[V Z N] w fun e w'=>∃ v,e=.returned v/\WantsAt w' v (fastWants N)/\Ext w w':=by
 have hmx:min (max (N:Int) 1) 8=N:=by omega
 have hr0:=Hd (row_new w [V Z (-1),V Z N,V Z (-1),V Z N] 179 2 2 rfl (by omega))
 have hx0:=Hd ((Ext.refl w).alloc (.cells [V Z (-1),V Z (N:Int),V Z (-1),V Z (N:Int)].toArray 179))
 go_enter Tryz.func191,Tryz.ntmps191
 go_wp2_with fail
 clear hmx
 go_loopw [3,14] (fun v i wr=>∃ j:Nat,i=V Z j/\j<=N/\wr.ownsRow w.heap.size 179 2 v (j+2) (wantRow (fastWant N) (j+2))/\Ext w wr) (fun _ i _=>N-(intOf i).toNat)
 case atStart=>exact⟨0,rfl,by omega,hr0.out,hx0.out⟩
 case round =>
  clear hr0 hx0
  obtain⟨j,rfl,hj,hown,hE⟩:=hrel
  by_cases hl:j<N
  · go_wp2_with (at_builtin;refine append_rec info_want Tryz.underlying102 rfl (by decide) (by decide) rfl _ _ rfl _ (j+2) _ [V Z j,V Z 1] hE hown rfl rfl rfl (by simp [Value.oneCell']) (by omega) ?_)
    intro v' w' ho hx _
    have hoh:=Hd ho
    clear hown ho;go_wp2_with fail
    refine⟨⟨j+1,by go_num,by omega,?_,hx⟩,?_⟩
    · rw [show ((j+1)+2)=(j+2)+1 from by omega,wants_succ]
      rw [show fastWant N ((j+2))=⟨(j:Int),1⟩ from by unfold fastWant;rw [if_neg (by omega)];congr 1;omega]
      exact hoh.out
    · simp [intOf];omega
  · obtain rfl:j=N:=by omega
    have hownh:=Hd hown
    clear hown;go_wp2_with fail
    go_ret
    exact⟨_,rfl,wants_row hownh.out,hE⟩
set_option maxRecDepth 100000 in
theorem fastwants_r (N:Nat)(w:World)(h1:1<=N)(h2:N<=8):Calls Tryz.prog 179 #[V Z N] w fun e w'=>∃ v,e=.returned v/\WantsAt w' v (fastWants N)/\Ext w w':=by
 have hN:nM (N:Int)=N:=nM_id (by omega) (by omega)
 go_enter Tryz.func179,Tryz.ntmps179
 go_wp2_with fail
 refine (rn_any ⟨0,0,0,N,0,0,0⟩ _).mono ?_
 rintro e w1 ⟨rfl,hX⟩
 simp only
 rw [hN]
 clear hN
 have hX0:=Hd hX
 clear hX;go_wp2_with fail
 go_loopw [4,5] (fun v i wr=>∃ j:Nat,i=V Z ((j:Int)-2)/\j<=N+2/\wr.ownsRow w.heap.size 179 2 v j (wantRow (fastWant N) j)/\Ext w wr) (fun _ i _=>(N+2)-(intOf i+2).toNat)
 case atStart=>exact⟨0,rfl,by omega,World.ownsRow_nil _ _ _ _,hX0.out⟩
 case round =>
  clear hX0
  obtain⟨j,rfl,hj,hown,hE⟩:=hrel
  have hs:=IntWalk.i64_in ((j:Int)-2+1) (by omega)
  by_cases hl:j<N+2
  · have dl:decide ((j:Int)-2<(N:Int))=true:=by rw [decide_eq_true_eq];omega
    by_cases hn:j<2
    · have dn:decide ((j:Int)-2<0)=true:=by rw [decide_eq_true_eq];omega
      go_wp2_with (at_builtin;refine append_rec info_want Tryz.underlying102 rfl (by decide) (by decide) rfl _ _ rfl _ j _ [V Z (-1),V Z N] hE hown rfl rfl rfl (by simp [Value.oneCell']) (by omega) ?_)
      intro v' w' ho hx _
      have hoh:=Hd ho
      clear hown ho;go_wp2_with fail
      refine⟨⟨j+1,by congr 1;omega,by omega,?_,hx⟩,?_⟩
      · rw [show (j+1)=j+1 from by omega,wants_succ]
        rw [show fastWant N (j)=⟨-1,(N:Int)⟩ from by unfold fastWant;rw [if_pos hn]]
        exact hoh.out
      · simp [intOf];omega
    · have dn:decide ((j:Int)-2<0)=false:=by rw [decide_eq_false_iff_not];omega
      go_wp2_with (at_builtin;refine append_rec info_want Tryz.underlying102 rfl (by decide) (by decide) rfl _ _ rfl _ j _ [V Z ((j:Int)-2),V Z 1] hE hown rfl rfl rfl (by simp [Value.oneCell']) (by omega) ?_)
      intro v' w' ho hx _
      have hoh:=Hd ho
      clear hown ho;go_wp2_with fail
      refine⟨⟨j+1,by congr 1;omega,by omega,?_,hx⟩,?_⟩
      · rw [show (j+1)=j+1 from by omega,wants_succ]
        rw [show fastWant N (j)=⟨(j:Int)-2,1⟩ from by unfold fastWant;rw [if_neg hn]]
        exact hoh.out
      · simp [intOf];omega
  · have dl:decide ((j:Int)-2<(N:Int))=false:=by rw [decide_eq_false_iff_not];omega
    obtain rfl:j=N+2:=by omega
    have hownh:=Hd hown
    clear hown;go_wp2_with fail
    go_ret
    exact⟨_,rfl,wants_row hownh.out,hE⟩
set_option maxRecDepth 100000 in
theorem bwwants_p (N:Nat)(w:World)(h1:1<=N)(h2:N<=8):Calls Tryz.prog 185 #[V Z N] w fun e w'=>∃ v,e=.returned v/\WantsAt w' v (bwWants N)/\Ext w w':=by
 have hmx:min (max (N:Int) 1) 8=N:=by omega
 have h4:=IntWalk.i64_in (4*(N:Int)) (by omega)
 have hr0:=Hd (row_new w [V Z (-1),V Z 1] 179 2 1 rfl (by omega))
 have hx0:=Hd ((Ext.refl w).alloc (.cells [V Z (-1),V Z 1].toArray 179))
 go_enter Tryz.func185,Tryz.ntmps185
 go_wp2_with fail
 clear hmx
 go_loopw [3,12] (fun v i wr=>∃ j:Nat,i=V Z j/\j<=N/\wr.ownsRow w.heap.size 179 2 v (j+1) (wantRow (bwWant N) (j+1))/\Ext w wr) (fun _ i _=>N-(intOf i).toNat)
 case atStart=>exact⟨0,rfl,by omega,hr0.out,hx0.out⟩
 case round =>
  clear hr0 hx0
  obtain⟨j,rfl,hj,hown,hE⟩:=hrel
  by_cases hl:j<N
  · go_wp2_with (at_builtin;refine append_rec info_want Tryz.underlying102 rfl (by decide) (by decide) rfl _ _ rfl _ (j+1) _ [V Z j,V Z 1] hE hown rfl rfl rfl (by simp [Value.oneCell']) (by omega) ?_)
    intro v' w' ho hx _
    have hoh:=Hd ho
    clear hown ho;go_wp2_with fail
    refine⟨⟨j+1,by go_num,by omega,?_,hx⟩,?_⟩
    · rw [show ((j+1)+1)=(j+1)+1 from by omega,wants_succ]
      rw [show bwWant N ((j+1))=⟨(j:Int),1⟩ from by unfold bwWant;rw [if_neg (by omega),if_pos (by omega)];congr 1;omega]
      exact hoh.out
    · simp [intOf];omega
  · obtain rfl:j=N:=by omega
    have hE0:=Hd hE
    have hown0:=Hd hown
    clear hown hE;go_wp2_with fail
    go_loopw [3,22] (fun v i wr=>∃ k:Nat,i=V Z k/\k<=j/\wr.ownsRow w.heap.size 179 2 v (j+1+k) (wantRow (bwWant j) (j+1+k))/\Ext w wr) (fun _ i _=>j-(intOf i).toNat)
    case atStart=>exact⟨0,rfl,by omega,hown0.out,hE0.out⟩
    case round =>
     clear hown0 hE0
     obtain⟨k,rfl,hk,hown,hE⟩:=hrel
     by_cases hl:k<j
     · go_wp2_with (at_builtin;refine append_rec info_want Tryz.underlying102 rfl (by decide) (by decide) rfl _ _ rfl _ (j+1+k) _ [V Z k,V Z (4*(j:Int))] hE hown rfl rfl rfl (by simp [Value.oneCell']) (by omega) ?_)
       intro v' w' ho hx _
       have hoh:=Hd ho
       clear hown ho;go_wp2_with fail
       refine⟨⟨k+1,by go_num,by omega,?_,hx⟩,?_⟩
       · rw [show j+1+(k+1)=(j+1+k)+1 from by omega,wants_succ]
         rw [show bwWant j (j+1+k)=⟨(k:Int),4*(j:Int)⟩ from by unfold bwWant;rw [if_neg (by omega),if_neg (by omega)];congr 1;omega]
         exact hoh.out
       · simp [intOf];omega
     · obtain rfl:k=j:=by omega
       have hownh:=Hd hown
       clear hown;go_wp2_with fail
       go_ret
       refine⟨_,rfl,?_,hE⟩
       have:=hownh.out
       rw [show k+1+k=2*k+1 from by omega] at this
       exact wants_row this
set_option maxRecDepth 100000 in
theorem bwwants_r (N:Nat)(w:World)(h1:1<=N)(h2:N<=8):Calls Tryz.prog 177 #[V Z N] w fun e w'=>∃ v,e=.returned v/\WantsAt w' v (bwWants N)/\Ext w w':=by
 have hN:nM (N:Int)=N:=nM_id (by omega) (by omega)
 have h4:=IntWalk.i64_in (4*(N:Int)) (by omega)
 have hw2:=IntWalk.i64_in (2*(N:Int)) (by omega)
 go_enter Tryz.func177,Tryz.ntmps177
 go_wp2_with fail
 refine (rn_any ⟨0,0,0,N,0,0,0⟩ _).mono ?_
 rintro e w1 ⟨rfl,hX⟩
 simp only
 rw [hN]
 clear hN
 have hr0:=Hd (row_base (row_new w1 [V Z (-1),V Z 1] 179 2 1 rfl (by omega)) hX.size)
 have hX0:=Hd (hX.alloc (.cells [V Z (-1),V Z 1].toArray 179))
 clear hX;go_wp2_with fail
 go_loopw [4,5] (fun v i wr=>∃ j:Nat,i=V Z j/\j<=2*N/\wr.ownsRow w.heap.size 179 2 v (j+1) (wantRow (bwWant N) (j+1))/\Ext w wr) (fun _ i _=>(2*N)-(intOf i).toNat)
 case atStart=>exact⟨0,rfl,by omega,hr0.out,hX0.out⟩
 case round =>
  clear hr0 hX0
  obtain⟨j,rfl,hj,hown,hE⟩:=hrel
  by_cases hl:j<2*N
  · have dl:decide ((j:Int)<2*(N:Int))=true:=by rw [decide_eq_true_eq];omega
    by_cases hn:j<N
    · have dn:decide ((N:Int)<=(j:Int))=false:=by rw [decide_eq_false_iff_not];omega
      have hE1:=hE.alloc (.cells #[V Z j,V Z 1] 179)
      have ho1:=World.ownsRow.alloc hown (.cells #[V Z j,V Z 1] 179)
      clear hown hE
      go_wp2_with (at_builtin;refine append_rec info_want Tryz.underlying102 rfl (by decide) (by decide) rfl _ _ rfl _ (j+1) _ [V Z j,V Z 1] hE1 ho1 rfl (by simp [Act.eval,World.size_alloc]) rfl (by simp [Value.oneCell']) (by omega) ?_)
      intro v' w' ho hx _
      have hoh:=Hd ho
      clear ho1 ho;go_wp2_with fail
      refine⟨⟨j+1,by go_num,by omega,?_,hx⟩,?_⟩
      · rw [wants_succ]
        rw [show bwWant N (j+1)=⟨(j:Int),1⟩ from by unfold bwWant;rw [if_neg (by omega),if_pos (by omega)];congr 1;omega]
        exact hoh.out
      · simp [intOf];omega
    · have dn:decide ((N:Int)<=(j:Int))=true:=by rw [decide_eq_true_eq];omega
      have hs:=IntWalk.i64_in ((j:Int)-(N:Int)) (by omega)
      have hE1:=hE.alloc (.cells #[V Z ((j:Int)-(N:Int)),V Z (4*(N:Int))] 179)
      have ho1:=World.ownsRow.alloc hown (.cells #[V Z ((j:Int)-(N:Int)),V Z (4*(N:Int))] 179)
      clear hown hE
      go_wp2_with (at_builtin;refine append_rec info_want Tryz.underlying102 rfl (by decide) (by decide) rfl _ _ rfl _ (j+1) _ [V Z ((j:Int)-(N:Int)),V Z (4*(N:Int))] hE1 ho1 rfl (by simp [Act.eval,World.size_alloc]) rfl (by simp [Value.oneCell']) (by omega) ?_)
      intro v' w' ho hx _
      have hoh:=Hd ho
      clear ho1 ho;go_wp2_with fail
      refine⟨⟨j+1,by go_num,by omega,?_,hx⟩,?_⟩
      · rw [wants_succ]
        rw [show bwWant N (j+1)=⟨(j:Int)-(N:Int),4*(N:Int)⟩ from by unfold bwWant;rw [if_neg (by omega),if_neg (by omega)];congr 1;omega]
        exact hoh.out
      · simp [intOf];omega
  · have dl:decide ((j:Int)<2*(N:Int))=false:=by rw [decide_eq_false_iff_not];omega
    obtain rfl:j=2*N:=by omega
    have hownh:=Hd hown
    clear hown;go_wp2_with fail
    go_ret
    exact⟨_,rfl,wants_row hownh.out,hE⟩
theorem within_p (a m:Int)(w:World)(h:0<=a/\0<=m/\m<=10000):Calls Tryz.prog 273 #[V Z a,V Z m,V Z 32768] w fun e w'=>e=.returned (.bool (decide (a<=32768)&&decide (a+m<=32768)))/\w=w':=by
 obtain⟨h0,h1,h2⟩:=h
 by_cases e1:a<=32768
 · have d:decide (a<=32768)=true:=by simpa using e1
   rw [d,Bool.true_and]
   go_enter Tryz.func273,Tryz.ntmps273
   go_wp2_with fail
   go_ret
   exact⟨rfl,rfl⟩
 · have d:decide (a<=32768)=false:=by simpa using e1
   rw [d,Bool.false_and]
   go_enter Tryz.func273,Tryz.ntmps273
   go_wp2_with fail
   go_ret
   exact⟨rfl,rfl⟩
theorem greatest1_p (w:World):Calls Tryz.prog 272 #[V Z 1] w fun e w'=>e=.returned (V Z 1099511627776)/\w=w':=by
 go_enter Tryz.func272,Tryz.ntmps272
 go_wp2_with fail
 go_ret
 exact⟨rfl,rfl⟩
theorem greatest6_p (w:World):Calls Tryz.prog 272 #[V Z 6] w fun e w'=>e=.returned (V Z 1048576)/\w=w':=by
 go_enter Tryz.func272,Tryz.ntmps272
 go_wp2_with fail
 go_ret
 exact⟨rfl,rfl⟩
theorem greatest7_p (w:World):Calls Tryz.prog 272 #[V Z 7] w fun e w'=>e=.returned (V Z 255)/\w=w':=by
 go_enter Tryz.func272,Tryz.ntmps272
 go_wp2_with fail
 go_ret
 exact⟨rfl,rfl⟩
theorem mlocals_p (n:Int)(w:World)(h1:1<=n)(h2:n<=8):Calls Tryz.prog 280 #[V Z n] w fun e w'=>e=.returned (V Z (n*(2+18*(n-1)*(n-1))))/\w=w':=by
 have hb:=locals_bd n h1 h2
 go_enter Tryz.func280,Tryz.ntmps280
 go_wp2_with fail
 refine (mthreads_p n _ h1 h2).mono ?_
 rintro e w' ⟨rfl,rfl⟩;go_wp2_with fail
 refine (tlocals_p n _ h1 h2).mono ?_
 rintro e w' ⟨rfl,rfl⟩;go_wp2_with fail
 go_ret
 exact⟨rfl,rfl⟩
theorem locals_p (r:Reg)(w:World)(hk:r.kind=1∨r.kind=6∨r.kind=7)(hn:1<=r.n/\r.n<=8):Calls Tryz.prog 226 #[encR r] w fun e w'=>e=.returned (V Z (localsM r))/\Ext w w':=by
 obtain⟨kind,base,loc,n,wr,rd,top⟩:=r
 simp only at hk hn
 unfold encR localsM
 simp only
 have hX:=Ext.refl w
 have b1:=Blk.new w (.cells #[V Z kind,V Z base,V Z loc,V Z n,V Z wr,V Z rd,V Z top] 67)
 replace hX:=hX.alloc (.cells #[V Z kind,V Z base,V Z loc,V Z n,V Z wr,V Z rd,V Z top] 67)
 have c_b1:=b1.cells
 rcases hk with rfl | rfl | rfl
 · go_enter Tryz.func226,Tryz.ntmps226
   go_wp2_with fail
   go_ret
   exact⟨rfl,hX⟩
 · go_enter Tryz.func226,Tryz.ntmps226
   go_wp2_with fail
   refine (tlocals_p n _ hn.1 hn.2).mono ?_
   rintro e w' ⟨rfl,rfl⟩;go_wp2_with fail
   go_ret
   exact⟨rfl,hX⟩
 · go_enter Tryz.func226,Tryz.ntmps226
   go_wp2_with fail
   refine (mlocals_p n _ hn.1 hn.2).mono ?_
   rintro e w' ⟨rfl,rfl⟩;go_wp2_with fail
   go_ret
   exact⟨rfl,hX⟩
set_option maxRecDepth 100000 in
set_option maxHeartbeats 2000000 in
theorem pfine1_p (base loc n wr top C D:Int)(w:World)(hb:0<=base)(hl:0<=loc)(hn:1<=n/\n<=8)(hw:-1<=wr/\wr<n)(ht:1<=top/\top<=255)(hz:0<=C/\C<=6272/\0<=D/\D<=7072)
  (hC:∀ w,Calls Tryz.prog 225 #[.agg #[V Z 1,V Z base,V Z loc,V Z n,V Z wr,V Z (-1),V Z top]] w fun e w'=>e=.returned (V Z C)/\Ext w w')
  (hL:∀ w,Calls Tryz.prog 226 #[.agg #[V Z 1,V Z base,V Z loc,V Z n,V Z wr,V Z (-1),V Z top]] w fun e w'=>e=.returned (V Z D)/\Ext w w') :
  Calls Tryz.prog 224 #[.agg #[V Z 1,V Z base,V Z loc,V Z n,V Z wr,V Z (-1),V Z top]] w fun e w'=>e=.returned (.bool (decide (base<=32768)&&decide (loc<=32768)&&decide (base+C<=32768)&&decide (loc+D<=32768)))/\Ext w w':=by
 have d3:decide (n<1)=false:=by simpa using hn.1
 have d4:decide (8<n)=false:=by simpa using hn.2
 have d5:decide (top<1)=false:=by simpa using ht.1
 have d6:decide (1099511627776<top)=false:=by rw [decide_eq_false_iff_not];omega
 have d7:decide (wr < -1)=false:=by rw [decide_eq_false_iff_not];omega
 have d8:decide (n<=wr)=false:=by rw [decide_eq_false_iff_not];omega
 have d9:decide (n<=-1)=false:=by rw [decide_eq_false_iff_not];omega
 have hX:=Ext.refl w
 have b1:=Blk.new w (.cells #[V Z 1,V Z base,V Z loc,V Z n,V Z wr,V Z (-1),V Z top] 67)
 replace hX:=hX.alloc (.cells #[V Z 1,V Z base,V Z loc,V Z n,V Z wr,V Z (-1),V Z top] 67)
 have c_b1:=b1.cells
 have hW1:=fun w=>within_p base C w ⟨hb,by omega⟩
 have hW2:=fun w=>within_p loc D w ⟨hl,by omega⟩
 have he:(decide (base<=32768)&&decide (loc<=32768)&&decide (base+C<=32768)&&decide (loc+D<=32768))=((decide (base<=32768)&&decide (base+C<=32768))&&(decide (loc<=32768)&&decide (loc+D<=32768))):=by
  cases decide (base<=32768) <;> cases decide (loc<=32768) <;> simp
 rw [he]
 clear he
 generalize (decide (base<=32768)&&decide (base+C<=32768))=F1 at *
 generalize (decide (loc<=32768)&&decide (loc+D<=32768))=F2 at *
 clear hz hb hl hn hw ht
 go_enter Tryz.func224,Tryz.ntmps224
 go_wp2_with fail
 generalize w.alloc (.cells #[V Z 1,V Z base,V Z loc,V Z n,V Z wr,V Z (-1),V Z top] 67)=W0 at *
 have hE:=hX.drew;replace b1:=b1.drew;clear hX c_b1;have hX:=hE;have c_b1:=b1.cells
 go_region_held2 (fun w'=>∀ i,w'.cell? ⟨w.heap.size,i,none⟩=(#[V Z 1,V Z base,V Z loc,V Z n,V Z wr,V Z (-1),V Z top]:Array Value)[i]?) (exact c_b1)
  (first
    | (go_at_call 272
       refine (greatest1_p _).mono ?_
       rintro e w' ⟨rfl,rfl⟩))
 rename_i hh
 clear hh hE
 generalize W0.drew=W at *
 go_wp2_with fail
 have hS:∀ w',Ext W w'->(∀ i,w'.cell? ⟨w.heap.size,i,none⟩=(#[V Z 1,V Z base,V Z loc,V Z n,V Z wr,V Z (-1),V Z top]:Array Value)[i]?):=fun w' hx=>(b1.ext hx).cells
 have hXW:=hX;clear hX c_b1
 have hX:=(Ext.refl W).drew
 cases F1 with
 | true =>
   go_region_held2 (fun w'=>∀ i,w'.cell? ⟨w.heap.size,i,none⟩=(#[V Z 1,V Z base,V Z loc,V Z n,V Z wr,V Z (-1),V Z top]:Array Value)[i]?) (exact hS _ hX)
    (first
       | (go_at_call 225
          refine (hC _).mono ?_
          rintro e w2 ⟨rfl,hx⟩
          replace hX:=hX.trans hx
          clear hx)
       | (go_at_call 226
          refine (hL _).mono ?_
          rintro e w2 ⟨rfl,hx⟩
          replace hX:=hX.trans hx
          clear hx)
       | (go_at_call_of 273 (Value.int IntKind.i64 base)
          refine (hW1 _).mono ?_
          rintro e w' ⟨rfl,rfl⟩)
       | (go_at_call_of 273 (Value.int IntKind.i64 loc)
          refine (hW2 _).mono ?_
          rintro e w' ⟨rfl,rfl⟩))
   go_wp2_with fail
   go_ret
   exact⟨rfl,hXW.trans hX⟩
 | false =>
   refine wp_region_held_drew (S:=(fun w'=>∀ i,w'.cell? ⟨w.heap.size,i,none⟩=(#[V Z 1,V Z base,V Z loc,V Z n,V Z wr,V Z (-1),V Z top]:Array Value)[i]?)) rfl (hS _ hX) (fun hHeld=>?_)
   refine tkb 0 ?_
   iterate 3
    refine tkn (v:=?_) rfl (by kernel_rfl) (fun _ _ _ h=>h) (by assumption) ?_ ?_
    rotate_left
    · (intro w hSw;(try dsimp only at hSw);go_simp;try with_reducible rfl)
    try simp only [put_pack]
   refine tke ?_
   refine wpAnyH_ready (rs:=[3]) (by kernel_rfl) (by simp) ?_
   refine AllReadyH.cons rfl (fun K hKK=>?_) (AllReadyH.nil)
   go_simp
   refine (hC _).mono ?_
   rintro e w2 ⟨rfl,hx⟩
   replace hX:=hX.trans hx;clear hx
   refine hKK.out _ _ (hS _ hX) (fun hHeld=>?_)
   clear hKK K
   try dsimp only
   refine wpAnyH_ready (rs:=[4]) (by kernel_rfl) (by simp) ?_
   refine AllReadyH.cons rfl (fun K hKK=>?_) (AllReadyH.nil)
   go_simp
   refine (hW1 _).mono ?_
   rintro e w' ⟨rfl,rfl⟩
   refine hKK.out _ _ (hS _ hX) (fun hHeld=>?_)
   clear hKK K
   try dsimp only
   refine tk 5 (v:=?_) rfl (by kernel_rfl) (fun _ _ _ h=>h) (by assumption) ?_ ?_
   rotate_left
   · (intro w hSw;(try dsimp only at hSw);go_simp;try with_reducible rfl)
   try simp only [put_pack]
   refine sk 6 rfl (by kernel_rfl) (fun _ _ _ h=>h) (by assumption) ?_
   try simp only [put_pack]
   refine sk 7 rfl (by kernel_rfl) (fun _ _ _ h=>h) (by assumption) ?_
   try simp only [put_pack]
   refine sk 8 rfl (by kernel_rfl) (fun _ _ _ h=>h) (by assumption) ?_
   try simp only [put_pack]
   refine sk 9 rfl (by kernel_rfl) (fun _ _ _ h=>h) (by assumption) ?_
   try simp only [put_pack]
   refine sk 10 rfl (by kernel_rfl) (fun _ _ _ h=>h) (by assumption) ?_
   try simp only [put_pack]
   refine tk 11 (v:=?_) rfl (by kernel_rfl) (fun _ _ _ h=>h) (by assumption) ?_ ?_
   rotate_left
   · (intro w hSw;(try dsimp only at hSw);go_simp;try with_reducible rfl)
   try simp only [put_pack]
   refine tk 12 (v:=?_) rfl (by kernel_rfl) (fun _ _ _ h=>h) (by assumption) ?_ ?_
   rotate_left
   · (intro w hSw;(try dsimp only at hSw);go_simp;try with_reducible rfl)
   try simp only [put_pack]
   refine wpAnyH_done (by kernel_rfl) ?_ _
   go_simp
   go_wp2_with fail
   go_ret
   refine⟨?_,hXW.trans hX⟩
   rfl
set_option maxRecDepth 100000 in
set_option maxHeartbeats 2000000 in
theorem pfine6_p (base loc n wr top C D:Int)(w:World)(hb:0<=base)(hl:0<=loc)(hn:1<=n/\n<=8)(hw:0<=wr/\wr<n)(ht:1<=top/\top<=255)(hz:0<=C/\C<=6272/\0<=D/\D<=7072)
  (hC:∀ w,Calls Tryz.prog 225 #[.agg #[V Z 6,V Z base,V Z loc,V Z n,V Z wr,V Z (-1),V Z top]] w fun e w'=>e=.returned (V Z C)/\Ext w w')
  (hL:∀ w,Calls Tryz.prog 226 #[.agg #[V Z 6,V Z base,V Z loc,V Z n,V Z wr,V Z (-1),V Z top]] w fun e w'=>e=.returned (V Z D)/\Ext w w') :
  Calls Tryz.prog 224 #[.agg #[V Z 6,V Z base,V Z loc,V Z n,V Z wr,V Z (-1),V Z top]] w fun e w'=>e=.returned (.bool (decide (base<=32768)&&decide (loc<=32768)&&decide (base+C<=32768)&&decide (loc+D<=32768)))/\Ext w w':=by
 have d3:decide (n<1)=false:=by simpa using hn.1
 have d4:decide (8<n)=false:=by simpa using hn.2
 have d5:decide (top<1)=false:=by simpa using ht.1
 have d6:decide (1048576<top)=false:=by rw [decide_eq_false_iff_not];omega
 have d7:decide (wr < -1)=false:=by rw [decide_eq_false_iff_not];omega
 have d8:decide (n<=wr)=false:=by rw [decide_eq_false_iff_not];omega
 have d9:decide (n<=-1)=false:=by rw [decide_eq_false_iff_not];omega
 have dn:(wr==-1)=false:=by rw [beq_eq_false_iff_ne];omega
 have hX:=Ext.refl w
 have b1:=Blk.new w (.cells #[V Z 6,V Z base,V Z loc,V Z n,V Z wr,V Z (-1),V Z top] 67)
 replace hX:=hX.alloc (.cells #[V Z 6,V Z base,V Z loc,V Z n,V Z wr,V Z (-1),V Z top] 67)
 have c_b1:=b1.cells
 have hW1:=fun w=>within_p base C w ⟨hb,by omega⟩
 have hW2:=fun w=>within_p loc D w ⟨hl,by omega⟩
 have he:(decide (base<=32768)&&decide (loc<=32768)&&decide (base+C<=32768)&&decide (loc+D<=32768))=((decide (base<=32768)&&decide (base+C<=32768))&&(decide (loc<=32768)&&decide (loc+D<=32768))):=by
  cases decide (base<=32768) <;> cases decide (loc<=32768) <;> simp
 rw [he]
 clear he
 generalize (decide (base<=32768)&&decide (base+C<=32768))=F1 at *
 generalize (decide (loc<=32768)&&decide (loc+D<=32768))=F2 at *
 clear hz hb hl hn hw ht
 go_enter Tryz.func224,Tryz.ntmps224
 go_wp2_with fail
 generalize w.alloc (.cells #[V Z 6,V Z base,V Z loc,V Z n,V Z wr,V Z (-1),V Z top] 67)=W0 at *
 have hE:=hX.drew;replace b1:=b1.drew;clear hX c_b1;have hX:=hE;have c_b1:=b1.cells
 go_region_held2 (fun w'=>∀ i,w'.cell? ⟨w.heap.size,i,none⟩=(#[V Z 6,V Z base,V Z loc,V Z n,V Z wr,V Z (-1),V Z top]:Array Value)[i]?) (exact c_b1)
  (first
    | (go_at_call 272
       refine (greatest6_p _).mono ?_
       rintro e w' ⟨rfl,rfl⟩))
 rename_i hh
 clear hh hE
 generalize W0.drew=W at *
 go_wp2_with fail
 have hS:∀ w',Ext W w'->(∀ i,w'.cell? ⟨w.heap.size,i,none⟩=(#[V Z 6,V Z base,V Z loc,V Z n,V Z wr,V Z (-1),V Z top]:Array Value)[i]?):=fun w' hx=>(b1.ext hx).cells
 have hXW:=hX;clear hX c_b1
 have hX:=(Ext.refl W).drew
 cases F1 with
 | true =>
   go_region_held2 (fun w'=>∀ i,w'.cell? ⟨w.heap.size,i,none⟩=(#[V Z 6,V Z base,V Z loc,V Z n,V Z wr,V Z (-1),V Z top]:Array Value)[i]?) (exact hS _ hX)
    (first
       | (go_at_call 225
          refine (hC _).mono ?_
          rintro e w2 ⟨rfl,hx⟩
          replace hX:=hX.trans hx
          clear hx)
       | (go_at_call 226
          refine (hL _).mono ?_
          rintro e w2 ⟨rfl,hx⟩
          replace hX:=hX.trans hx
          clear hx)
       | (go_at_call_of 273 (Value.int IntKind.i64 base)
          refine (hW1 _).mono ?_
          rintro e w' ⟨rfl,rfl⟩)
       | (go_at_call_of 273 (Value.int IntKind.i64 loc)
          refine (hW2 _).mono ?_
          rintro e w' ⟨rfl,rfl⟩))
   go_wp2_with fail
   go_ret
   exact⟨rfl,hXW.trans hX⟩
 | false =>
   refine wp_region_held_drew (S:=(fun w'=>∀ i,w'.cell? ⟨w.heap.size,i,none⟩=(#[V Z 6,V Z base,V Z loc,V Z n,V Z wr,V Z (-1),V Z top]:Array Value)[i]?)) rfl (hS _ hX) (fun hHeld=>?_)
   refine tkb 0 ?_
   iterate 3
    refine tkn (v:=?_) rfl (by kernel_rfl) (fun _ _ _ h=>h) (by assumption) ?_ ?_
    rotate_left
    · (intro w hSw;(try dsimp only at hSw);go_simp;try with_reducible rfl)
    try simp only [put_pack]
   refine tke ?_
   refine wpAnyH_ready (rs:=[3]) (by kernel_rfl) (by simp) ?_
   refine AllReadyH.cons rfl (fun K hKK=>?_) (AllReadyH.nil)
   go_simp
   refine (hC _).mono ?_
   rintro e w2 ⟨rfl,hx⟩
   replace hX:=hX.trans hx;clear hx
   refine hKK.out _ _ (hS _ hX) (fun hHeld=>?_)
   clear hKK K
   try dsimp only
   refine wpAnyH_ready (rs:=[4]) (by kernel_rfl) (by simp) ?_
   refine AllReadyH.cons rfl (fun K hKK=>?_) (AllReadyH.nil)
   go_simp
   refine (hW1 _).mono ?_
   rintro e w' ⟨rfl,rfl⟩
   refine hKK.out _ _ (hS _ hX) (fun hHeld=>?_)
   clear hKK K
   try dsimp only
   refine tk 5 (v:=?_) rfl (by kernel_rfl) (fun _ _ _ h=>h) (by assumption) ?_ ?_
   rotate_left
   · (intro w hSw;(try dsimp only at hSw);go_simp;try with_reducible rfl)
   try simp only [put_pack]
   refine sk 6 rfl (by kernel_rfl) (fun _ _ _ h=>h) (by assumption) ?_
   try simp only [put_pack]
   refine sk 7 rfl (by kernel_rfl) (fun _ _ _ h=>h) (by assumption) ?_
   try simp only [put_pack]
   refine sk 8 rfl (by kernel_rfl) (fun _ _ _ h=>h) (by assumption) ?_
   try simp only [put_pack]
   refine sk 9 rfl (by kernel_rfl) (fun _ _ _ h=>h) (by assumption) ?_
   try simp only [put_pack]
   refine sk 10 rfl (by kernel_rfl) (fun _ _ _ h=>h) (by assumption) ?_
   try simp only [put_pack]
   refine tk 11 (v:=?_) rfl (by kernel_rfl) (fun _ _ _ h=>h) (by assumption) ?_ ?_
   rotate_left
   · (intro w hSw;(try dsimp only at hSw);go_simp;try with_reducible rfl)
   try simp only [put_pack]
   refine tk 12 (v:=?_) rfl (by kernel_rfl) (fun _ _ _ h=>h) (by assumption) ?_ ?_
   rotate_left
   · (intro w hSw;(try dsimp only at hSw);go_simp;try with_reducible rfl)
   try simp only [put_pack]
   refine wpAnyH_done (by kernel_rfl) ?_ _
   go_simp
   go_wp2_with fail
   go_ret
   refine⟨?_,hXW.trans hX⟩
   rfl
set_option maxRecDepth 100000 in
set_option maxHeartbeats 2000000 in
theorem pfine7_p (base loc n wr top C D:Int)(w:World)(hb:0<=base)(hl:0<=loc)(hn:1<=n/\n<=8)(hw:-1<=wr/\wr<n)(ht:1<=top/\top<=255)(hz:0<=C/\C<=6272/\0<=D/\D<=7072)
  (hC:∀ w,Calls Tryz.prog 225 #[.agg #[V Z 7,V Z base,V Z loc,V Z n,V Z wr,V Z (-1),V Z top]] w fun e w'=>e=.returned (V Z C)/\Ext w w')
  (hL:∀ w,Calls Tryz.prog 226 #[.agg #[V Z 7,V Z base,V Z loc,V Z n,V Z wr,V Z (-1),V Z top]] w fun e w'=>e=.returned (V Z D)/\Ext w w') :
  Calls Tryz.prog 224 #[.agg #[V Z 7,V Z base,V Z loc,V Z n,V Z wr,V Z (-1),V Z top]] w fun e w'=>e=.returned (.bool (decide (base<=32768)&&decide (loc<=32768)&&decide (base+C<=32768)&&decide (loc+D<=32768)))/\Ext w w':=by
 have d3:decide (n<1)=false:=by simpa using hn.1
 have d4:decide (8<n)=false:=by simpa using hn.2
 have d5:decide (top<1)=false:=by simpa using ht.1
 have d6:decide (255<top)=false:=by rw [decide_eq_false_iff_not];omega
 have d7:decide (wr < -1)=false:=by rw [decide_eq_false_iff_not];omega
 have d8:decide (n<=wr)=false:=by rw [decide_eq_false_iff_not];omega
 have d9:decide (n<=-1)=false:=by rw [decide_eq_false_iff_not];omega
 have hX:=Ext.refl w
 have b1:=Blk.new w (.cells #[V Z 7,V Z base,V Z loc,V Z n,V Z wr,V Z (-1),V Z top] 67)
 replace hX:=hX.alloc (.cells #[V Z 7,V Z base,V Z loc,V Z n,V Z wr,V Z (-1),V Z top] 67)
 have c_b1:=b1.cells
 have hW1:=fun w=>within_p base C w ⟨hb,by omega⟩
 have hW2:=fun w=>within_p loc D w ⟨hl,by omega⟩
 have he:(decide (base<=32768)&&decide (loc<=32768)&&decide (base+C<=32768)&&decide (loc+D<=32768))=((decide (base<=32768)&&decide (base+C<=32768))&&(decide (loc<=32768)&&decide (loc+D<=32768))):=by
  cases decide (base<=32768) <;> cases decide (loc<=32768) <;> simp
 rw [he]
 clear he
 generalize (decide (base<=32768)&&decide (base+C<=32768))=F1 at *
 generalize (decide (loc<=32768)&&decide (loc+D<=32768))=F2 at *
 clear hz hb hl hn hw ht
 go_enter Tryz.func224,Tryz.ntmps224
 go_wp2_with fail
 generalize w.alloc (.cells #[V Z 7,V Z base,V Z loc,V Z n,V Z wr,V Z (-1),V Z top] 67)=W0 at *
 have hE:=hX.drew;replace b1:=b1.drew;clear hX c_b1;have hX:=hE;have c_b1:=b1.cells
 go_region_held2 (fun w'=>∀ i,w'.cell? ⟨w.heap.size,i,none⟩=(#[V Z 7,V Z base,V Z loc,V Z n,V Z wr,V Z (-1),V Z top]:Array Value)[i]?) (exact c_b1)
  (first
    | (go_at_call 272
       refine (greatest7_p _).mono ?_
       rintro e w' ⟨rfl,rfl⟩))
 rename_i hh
 clear hh hE
 generalize W0.drew=W at *
 go_wp2_with fail
 have hS:∀ w',Ext W w'->(∀ i,w'.cell? ⟨w.heap.size,i,none⟩=(#[V Z 7,V Z base,V Z loc,V Z n,V Z wr,V Z (-1),V Z top]:Array Value)[i]?):=fun w' hx=>(b1.ext hx).cells
 have hXW:=hX;clear hX c_b1
 have hX:=(Ext.refl W).drew
 cases F1 with
 | true =>
   go_region_held2 (fun w'=>∀ i,w'.cell? ⟨w.heap.size,i,none⟩=(#[V Z 7,V Z base,V Z loc,V Z n,V Z wr,V Z (-1),V Z top]:Array Value)[i]?) (exact hS _ hX)
    (first
       | (go_at_call 225
          refine (hC _).mono ?_
          rintro e w2 ⟨rfl,hx⟩
          replace hX:=hX.trans hx
          clear hx)
       | (go_at_call 226
          refine (hL _).mono ?_
          rintro e w2 ⟨rfl,hx⟩
          replace hX:=hX.trans hx
          clear hx)
       | (go_at_call_of 273 (Value.int IntKind.i64 base)
          refine (hW1 _).mono ?_
          rintro e w' ⟨rfl,rfl⟩)
       | (go_at_call_of 273 (Value.int IntKind.i64 loc)
          refine (hW2 _).mono ?_
          rintro e w' ⟨rfl,rfl⟩))
   go_wp2_with fail
   go_ret
   exact⟨rfl,hXW.trans hX⟩
 | false =>
   refine wp_region_held_drew (S:=(fun w'=>∀ i,w'.cell? ⟨w.heap.size,i,none⟩=(#[V Z 7,V Z base,V Z loc,V Z n,V Z wr,V Z (-1),V Z top]:Array Value)[i]?)) rfl (hS _ hX) (fun hHeld=>?_)
   refine tkb 0 ?_
   iterate 3
    refine tkn (v:=?_) rfl (by kernel_rfl) (fun _ _ _ h=>h) (by assumption) ?_ ?_
    rotate_left
    · (intro w hSw;(try dsimp only at hSw);go_simp;try with_reducible rfl)
    try simp only [put_pack]
   refine tke ?_
   refine wpAnyH_ready (rs:=[3]) (by kernel_rfl) (by simp) ?_
   refine AllReadyH.cons rfl (fun K hKK=>?_) (AllReadyH.nil)
   go_simp
   refine (hC _).mono ?_
   rintro e w2 ⟨rfl,hx⟩
   replace hX:=hX.trans hx;clear hx
   refine hKK.out _ _ (hS _ hX) (fun hHeld=>?_)
   clear hKK K
   try dsimp only
   refine wpAnyH_ready (rs:=[4]) (by kernel_rfl) (by simp) ?_
   refine AllReadyH.cons rfl (fun K hKK=>?_) (AllReadyH.nil)
   go_simp
   refine (hW1 _).mono ?_
   rintro e w' ⟨rfl,rfl⟩
   refine hKK.out _ _ (hS _ hX) (fun hHeld=>?_)
   clear hKK K
   try dsimp only
   refine tk 5 (v:=?_) rfl (by kernel_rfl) (fun _ _ _ h=>h) (by assumption) ?_ ?_
   rotate_left
   · (intro w hSw;(try dsimp only at hSw);go_simp;try with_reducible rfl)
   try simp only [put_pack]
   refine sk 6 rfl (by kernel_rfl) (fun _ _ _ h=>h) (by assumption) ?_
   try simp only [put_pack]
   refine sk 7 rfl (by kernel_rfl) (fun _ _ _ h=>h) (by assumption) ?_
   try simp only [put_pack]
   refine sk 8 rfl (by kernel_rfl) (fun _ _ _ h=>h) (by assumption) ?_
   try simp only [put_pack]
   refine sk 9 rfl (by kernel_rfl) (fun _ _ _ h=>h) (by assumption) ?_
   try simp only [put_pack]
   refine sk 10 rfl (by kernel_rfl) (fun _ _ _ h=>h) (by assumption) ?_
   try simp only [put_pack]
   refine tk 11 (v:=?_) rfl (by kernel_rfl) (fun _ _ _ h=>h) (by assumption) ?_ ?_
   rotate_left
   · (intro w hSw;(try dsimp only at hSw);go_simp;try with_reducible rfl)
   try simp only [put_pack]
   refine tk 12 (v:=?_) rfl (by kernel_rfl) (fun _ _ _ h=>h) (by assumption) ?_ ?_
   rotate_left
   · (intro w hSw;(try dsimp only at hSw);go_simp;try with_reducible rfl)
   try simp only [put_pack]
   refine wpAnyH_done (by kernel_rfl) ?_ _
   go_simp
   go_wp2_with fail
   go_ret
   refine⟨?_,hXW.trans hX⟩
   rfl
theorem fine_p (r:Reg)(w:World)(h:Drawn r)(hC:∀ w,Calls Tryz.prog 225 #[encR r] w fun e w'=>e=.returned (V Z (cellsM r))/\Ext w w'):Calls Tryz.prog 224 #[encR r] w fun e w'=>e=.returned (.bool (fineM r))/\Ext w w':=by
 obtain⟨hk,hb,hl,hn,hw,hw6,hrd,ht⟩:=h
 have hL:=fun w=>locals_p r w hk hn
 have hz:=cells_nat r hn
 obtain⟨kind,base,loc,n,wr,rd,top⟩:=r
 simp only at hk hb hl hn hw hw6 hrd ht
 subst hrd
 unfold fineM
 rcases hk with rfl | rfl | rfl
 · exact pfine1_p base loc n wr top _ _ w hb hl hn hw ht hz hC hL
 · exact pfine6_p base loc n wr top _ _ w hb hl hn ⟨hw6 rfl,hw.2⟩ ht hz hC hL
 · exact pfine7_p base loc n wr top _ _ w hb hl hn hw ht hz hC hL
@[go_sem] theorem build_regw (a b c d e:Int) (w:World):(Instr.build 67 #[(0,V Z a),(3,V Z b),(4,V Z c),(5,V Z d),(6,V Z e)]).run Tryz.prog w=.ok (.agg #[V Z a,V Z 0,V Z 0,V Z b,V Z c,V Z d,V Z e]) w:=run_build w 67 _ _ (by kernel_rfl)
theorem topM_max (t:Int):max 1 (min t 255)=topM t:=by
 unfold topM clamp within
 split <;> omega
theorem want_p (q:Want)(n mode:Int)(w:World)(hm:mode=1∨mode=2)(hq:-1<=q.wr):Calls Tryz.prog 223 #[.agg #[V Z q.wr,V Z q.top],V Z n,V Z mode] w fun e w'=>e=.returned (encR (regOf n mode 0 0 q))/\Ext w w':=by
 obtain⟨wr,top⟩:=q
 unfold encR regOf
 simp only at hq ⊢
 have ht:=topM_max top
 rcases hm with rfl | rfl
 · rw [show kindM 1 wr=1 from by unfold kindM;rw [if_neg (by omega)]]
   clear hq
   go_enter Tryz.func223,Tryz.ntmps223
   go_wp2_with fail
   refine bodyPost_ret (v:=.agg #[V Z 1,V Z 0,V Z 0,V Z n,V Z wr,V Z (-1),V Z (topM top)]) (by simp [results,Tryz.results223,go_sem]) rfl ⟨rfl,?_⟩
   exact (((Ext.refl _).alloc _).alloc _).alloc _
 · by_cases h:wr=-1
   · rw [show kindM 2 wr=7 from by unfold kindM;rw [if_pos rfl,if_neg (by omega)]]
     have d:(wr==-1)=true:=by rw [beq_iff_eq];exact h
     clear hq h
     go_enter Tryz.func223,Tryz.ntmps223
     go_wp2_with fail
     refine bodyPost_ret (v:=.agg #[V Z 7,V Z 0,V Z 0,V Z n,V Z wr,V Z (-1),V Z (topM top)]) (by simp [results,Tryz.results223,go_sem]) rfl ⟨rfl,?_⟩
     exact (((Ext.refl _).alloc _).alloc _).alloc _
   · rw [show kindM 2 wr=6 from by unfold kindM;rw [if_pos rfl,if_pos (by omega)]]
     have d:(wr==-1)=false:=by rw [beq_eq_false_iff_ne];exact h
     clear hq h
     go_enter Tryz.func223,Tryz.ntmps223
     go_wp2_with fail
     refine bodyPost_ret (v:=.agg #[V Z 6,V Z 0,V Z 0,V Z n,V Z wr,V Z (-1),V Z (topM top)]) (by simp [results,Tryz.results223,go_sem]) rfl ⟨rfl,?_⟩
     exact (((Ext.refl _).alloc _).alloc _).alloc _
set_option maxRecDepth 100000 in
set_option maxHeartbeats 2000000 in
theorem lay_p (va:Value)(l:List Want)(n mode base loc:Int)(w:World)(h:WantsAt w va l)(hlen:l.length<=1000)(hC:∀ (r:Reg) w,Drawn r->r.n=n->Calls Tryz.prog 225 #[encR r] w fun e w'=>e=.returned (V Z (cellsM r))/\Ext w w') :
  Calls Tryz.prog 163 #[va,V Z n,V Z mode,V Z base,V Z loc] w (LayPost w.heap.size w (layM l n mode base loc)):=by
 obtain⟨A,c,rfl,q1,q2,hv⟩:=h
 by_cases h0:1<=mode/\mode<=2/\1<=n/\n<=8/\0<=base/\0<=loc
 · have hmd:mode=1∨mode=2:=by omega
   rcases hmd with rfl | rfl
   · have hgood:=Hd (fun hq=>argsM_good (l:=l) h0 hq)
     have hbad:=Hd (fun (i:Nat) q hq hx=>argsM_bad (l:=l) (n:=n) (mode:=1) (b:=base) (c:=loc) (i:=i) (q:=q) hq hx)
     obtain⟨-,-,n1,n2,b1,l1⟩:=h0
     have d3:decide (n<1)=false:=by rw [decide_eq_false_iff_not];omega
     have d4:decide (8<n)=false:=by rw [decide_eq_false_iff_not];omega
     have d5:decide (base<0)=false:=by rw [decide_eq_false_iff_not];omega
     have d6:decide (loc<0)=false:=by rw [decide_eq_false_iff_not];omega
     go_enter Tryz.func163,Tryz.ntmps163
     go_wp2_with fail
     go_loopw [40] (fun i wr=>∃ j:Nat,i=V Z j/\j<=l.length/\Hid (∀ (k:Nat) q,k<j->l[k]?=some q->-1<=q.wr/\q.wr<n)/\Ext w wr) (fun i _=>l.length-(intOf i).toNat)
     case atStart=>exact⟨0,rfl,by omega,fun k q hk=>by omega,Ext.refl _⟩
     case round =>
      obtain⟨j,rfl,hj,hs,hE⟩:=hrel
      by_cases hl:j<l.length
      · obtain⟨q,hq⟩:∃ q,l[j]?=some q:=⟨_,List.getElem?_eq_getElem hl⟩
        obtain⟨b,rfl,hb,e1,e2⟩:=want_at (hv.ext hE) hq
        have hE2:=hE.alloc (.cells #[V Z q.wr,V Z q.top] 179)
        by_cases f1:q.wr < -1
        · have d7:decide (q.wr < -1)=true:=by simpa using f1
          have hf:=Hd (hbad.out j q hq (by omega))
          clear hq hgood hbad hs;go_wp2_with fail
          rw [hf.out]
          refine bodyPost_ret (v:=.tuple #[.slice none 0 0,V Z 1]) (by simp [results,Tryz.results163,go_sem]) rfl ?_
          exact⟨hE2,1,by decide,rfl⟩
        · have d7:decide (q.wr < -1)=false:=by rw [decide_eq_false_iff_not];omega
          by_cases f2:n<=q.wr
          · have d8:decide (n<=q.wr)=true:=by simpa using f2
            have hf:=Hd (hbad.out j q hq (by omega))
            clear hq hgood hbad hs;go_wp2_with fail
            rw [hf.out]
            refine bodyPost_ret (v:=.tuple #[.slice none 0 0,V Z 1]) (by simp [results,Tryz.results163,go_sem]) rfl ?_
            exact⟨hE2,1,by decide,rfl⟩
          · have d8:decide (n<=q.wr)=false:=by rw [decide_eq_false_iff_not];omega
            have hs2:Hid (∀ (k:Nat) q,k<j+1->l[k]?=some q->-1<=q.wr/\q.wr<n):=Hd fun k q' hk hq'=>by
             by_cases e:k=j
             · subst e
               rw [hq] at hq'
               obtain rfl:q=q':=by simpa using hq'
               omega
             · exact hs.out k q' (by omega) hq'
            have hE3:=Hd hE2
            clear hq hs hgood hbad hE2;go_wp2_with fail
            refine⟨⟨j+1,by go_num,by omega,hs2,hE3.out⟩,?_⟩
            simp [intOf];omega
      · have hlay:=Hd (hgood.out fun k q hq=>hs.out k q (by have:=(List.getElem?_eq_some_iff.1 hq).1;omega) hq)
        have hwr:=Hd (fun (k:Nat) (q:Want) (hq:l[k]?=some q)=>hs.out k q (by have:=(List.getElem?_eq_some_iff.1 hq).1;omega) hq)
        clear hgood hbad hs;go_wp2_with fail
        have hE0:=Hd hE
        clear hE
        go_loopw [3,4,14,56] (fun b' c' v i wr=>∃ (j:Nat) (bi ci:Int) (pre:List Reg),b'=V Z bi/\c'=V Z ci/\i=V Z j/\j<=l.length/\pre.length=j/\0<=bi/\0<=ci/\Hid (layFrom n 1 l base loc=(layFrom n 1 (l.drop j) bi ci).map (pre++·))/\wr.ownsRow w.heap.size 67 7 v j (pre.flatMap regVals)/\Ext w wr) (fun _ _ _ i _=>l.length-(intOf i).toNat)
        case atStart=>exact⟨0,base,loc,[],rfl,rfl,rfl,by omega,rfl,b1,l1,by unfold Hid;simp,World.ownsRow_nil _ _ _ _,hE0.out⟩
        case round =>
         clear hE0
         obtain⟨j,bi,ci,pre,rfl,rfl,rfl,hj,hpl,hbi,hci,hM,hown,hE⟩:=hrel
         by_cases hl:j<l.length
         · obtain⟨q,hq⟩:∃ q,l[j]?=some q:=⟨_,List.getElem?_eq_getElem hl⟩
           obtain⟨b,rfl,hb,e1,e2⟩:=want_at (hv.ext hE) hq
           obtain⟨w1,w2⟩:=hwr.out j q hq
           have hdr:l.drop j=q :: l.drop (j+1):=by
            rw [List.drop_eq_getElem_cons hl]
            congr 1
            rw [List.getElem?_eq_getElem hl] at hq
            simpa using hq
           have hMh:=Hd hM
           have hownh:=Hd hown
           clear hM hown hq
           have hrk:regOf n 1 bi ci q=⟨kindM 1 q.wr,bi,ci,n,q.wr,-1,topM q.top⟩:=rfl
           have hWW:=fun W=>want_p q n 1 W (by omega) w1
           have hK:kindM 1 q.wr=1∨kindM 1 q.wr=6∨kindM 1 q.wr=7:=by unfold kindM;split <;> (try split) <;> simp
           have hK6:kindM 1 q.wr=6->0<=q.wr:=by unfold kindM;split <;> (try split) <;> omega
           have htm:=topM_bd q.top
           have hdn:Drawn ⟨kindM 1 q.wr,bi,ci,n,q.wr,-1,topM q.top⟩:=⟨hK,hbi,hci,⟨n1,n2⟩,⟨w1,w2⟩,hK6,rfl,htm⟩
           have hlf:=Hd (show layFrom n 1 (l.drop j) bi ci=if fineM ⟨kindM 1 q.wr,bi,ci,n,q.wr,-1,topM q.top⟩ then (layFrom n 1 (l.drop (j+1)) (bi+cellsM ⟨kindM 1 q.wr,bi,ci,n,q.wr,-1,topM q.top⟩) (ci+localsM ⟨kindM 1 q.wr,bi,ci,n,q.wr,-1,topM q.top⟩)).map (⟨kindM 1 q.wr,bi,ci,n,q.wr,-1,topM q.top⟩ :: ·) else none from by rw [hdr,layFrom_cons,hrk])
           have hCC:=fun W=>hC ⟨kindM 1 q.wr,bi,ci,n,q.wr,-1,topM q.top⟩ W hdn rfl
           have hFF:=fun W=>fine_p ⟨kindM 1 q.wr,bi,ci,n,q.wr,-1,topM q.top⟩ W hdn hCC
           have hLL:=fun W=>locals_p ⟨kindM 1 q.wr,bi,ci,n,q.wr,-1,topM q.top⟩ W hK ⟨n1,n2⟩
           have hcn:=cells_nat ⟨kindM 1 q.wr,bi,ci,n,q.wr,-1,topM q.top⟩ ⟨n1,n2⟩
           have hfb:fineM ⟨kindM 1 q.wr,bi,ci,n,q.wr,-1,topM q.top⟩=true->bi<=32768/\ci<=32768:=by
            unfold fineM
            simp only [Bool.and_eq_true,decide_eq_true_eq]
            omega
           clear hdn hrk htm hdr hK hK6
           unfold encR regOf at hWW
           unfold encR at hFF hCC hLL
           simp only at hWW hFF hCC hLL
           generalize kindM 1 q.wr=kk at *
           generalize topM q.top=tp at *
           generalize cellsM _=C at *
           generalize localsM _=D at *
           generalize hfm:fineM _=F at *
           clear hfm;go_wp2_with fail
           refine (hWW _).mono ?_
           rintro e w3 ⟨rfl,hx⟩
           clear hWW
           have g3:=Blk.new w3 (.cells #[V Z kk,V Z bi,V Z ci,V Z n,V Z q.wr,V Z (-1),V Z tp] 67)
           have x3:Ext wr (w3.alloc (.cells #[V Z kk,V Z bi,V Z ci,V Z n,V Z q.wr,V Z (-1),V Z tp] 67)):=(((Ext.refl wr).alloc _).trans hx).alloc _
           have hz3:wr.heap.size<w3.heap.size:=by have:=hx.size;simp at this;omega
           clear hx;go_wp2_with fail
           generalize w3.alloc _=W at *
           have c_3:=g3.cells
           refine (hFF _).mono ?_
           rintro e w4 ⟨rfl,hx⟩
           clear hFF c_3;replace g3:=g3.ext hx;replace x3:=x3.trans hx;clear hx;have c_3:=g3.cells
           cases F with
           | false =>
             have hres:=Hd (show layM l n 1 base loc=none from by rw [hlay.out,hMh.out,hlf.out];rfl)
             go_wp2_with fail
             rw [hres.out]
             exact bodyPost_ret (v:=.tuple #[.slice none 0 0,V Z 6]) (by simp [results,Tryz.results163,go_sem]) rfl ⟨hE.trans x3,6,by decide,rfl⟩
           | true =>
             obtain⟨hb1,hb2⟩:=hfb rfl
             have s1:=IntWalk.i64_in (bi+C) (by omega)
             have s2:=IntWalk.i64_in (ci+D) (by omega)
             have hown3:=row_ext hownh.out x3
             have hRn:Hid (u14.ownBlock≠some w3.heap.size):=Hd fun e=>by have:=(hownh.out.lt _ e).2;omega
             have hE3:=hE.trans x3
             have hM2:=Hd (show layFrom n 1 l base loc=(layFrom n 1 (l.drop (j+1)) (bi+C) (ci+D)).map ((pre++[⟨kk,bi,ci,n,q.wr,-1,tp⟩])++·) from by
              rw [hMh.out,hlf.out]
              simp only [if_true,Option.map_map]
              congr 1
              funext x
              simp)
             clear hfb hlf hMh hownh hb1 hb2
             go_wp2_with (at_builtin;refine append_rec info_reg Tryz.underlying94 rfl (by decide) (by decide) rfl _ _ rfl _ j (pre.flatMap regVals) [V Z kk,V Z bi,V Z ci,V Z n,V Z q.wr,V Z (-1),V Z tp] hE3 hown3 rfl rfl rfl (by simp [Value.oneCell']) (by omega) ?_)
             intro v' w5 ho4 hx4 hbk
             have g4:Blk w5 w3.heap.size _:=(hbk _ g3.lt hRn.out).trans g3
             have c_4:=g4.cells;clear hbk hown3 hE3 c_3 hRn g3 x3;go_wp2_with fail
             refine (hCC _).mono ?_
             rintro e w6 ⟨rfl,hx⟩
             replace g4:=g4.ext hx;replace ho4:=row_ext ho4 hx;replace hx4:=hx4.trans hx;clear c_4 hx hCC;have c_4:=g4.cells;go_wp2_with fail
             refine (hLL _).mono ?_
             rintro e w7 ⟨rfl,hx⟩
             replace ho4:=row_ext ho4 hx;replace hx4:=hx4.trans hx;clear c_4 g4 hx hLL
             have ho5:=Hd ho4
             clear ho4;go_wp2_with fail
             refine⟨⟨j+1,bi+C,ci+D,pre++[⟨kk,bi,ci,n,q.wr,-1,tp⟩],rfl,rfl,by go_num,by omega,by simp [hpl],by omega,by omega,hM2,by rw [List.flatMap_append];exact ho5.out,hx4⟩,?_⟩
             simp [intOf];omega
         · have hf:layFrom n 1 l base loc=some pre:=by
            rw [hM.out,List.drop_eq_nil_of_le (by omega)]
            simp [layFrom]
           have hres:=Hd (hlay.out.trans hf)
           clear hM hf hlay hwr
           have hownh:=Hd hown
           clear hown;go_wp2_with fail
           rw [hres.out]
           refine bodyPost_ret (v:=.tuple #[u14,V Z 0]) (by simp [results,Tryz.results163,go_sem]) rfl ?_
           exact⟨hE,u14,rfl,by rw [hpl];exact hownh.out⟩
   · have hgood:=Hd (fun hq=>argsM_good (l:=l) h0 hq)
     have hbad:=Hd (fun (i:Nat) q hq hx=>argsM_bad (l:=l) (n:=n) (mode:=2) (b:=base) (c:=loc) (i:=i) (q:=q) hq hx)
     obtain⟨-,-,n1,n2,b1,l1⟩:=h0
     have d3:decide (n<1)=false:=by rw [decide_eq_false_iff_not];omega
     have d4:decide (8<n)=false:=by rw [decide_eq_false_iff_not];omega
     have d5:decide (base<0)=false:=by rw [decide_eq_false_iff_not];omega
     have d6:decide (loc<0)=false:=by rw [decide_eq_false_iff_not];omega
     go_enter Tryz.func163,Tryz.ntmps163
     go_wp2_with fail
     go_loopw [40] (fun i wr=>∃ j:Nat,i=V Z j/\j<=l.length/\Hid (∀ (k:Nat) q,k<j->l[k]?=some q->-1<=q.wr/\q.wr<n)/\Ext w wr) (fun i _=>l.length-(intOf i).toNat)
     case atStart=>exact⟨0,rfl,by omega,fun k q hk=>by omega,Ext.refl _⟩
     case round =>
      obtain⟨j,rfl,hj,hs,hE⟩:=hrel
      by_cases hl:j<l.length
      · obtain⟨q,hq⟩:∃ q,l[j]?=some q:=⟨_,List.getElem?_eq_getElem hl⟩
        obtain⟨b,rfl,hb,e1,e2⟩:=want_at (hv.ext hE) hq
        have hE2:=hE.alloc (.cells #[V Z q.wr,V Z q.top] 179)
        by_cases f1:q.wr < -1
        · have d7:decide (q.wr < -1)=true:=by simpa using f1
          have hf:=Hd (hbad.out j q hq (by omega))
          clear hq hgood hbad hs;go_wp2_with fail
          rw [hf.out]
          refine bodyPost_ret (v:=.tuple #[.slice none 0 0,V Z 1]) (by simp [results,Tryz.results163,go_sem]) rfl ?_
          exact⟨hE2,1,by decide,rfl⟩
        · have d7:decide (q.wr < -1)=false:=by rw [decide_eq_false_iff_not];omega
          by_cases f2:n<=q.wr
          · have d8:decide (n<=q.wr)=true:=by simpa using f2
            have hf:=Hd (hbad.out j q hq (by omega))
            clear hq hgood hbad hs;go_wp2_with fail
            rw [hf.out]
            refine bodyPost_ret (v:=.tuple #[.slice none 0 0,V Z 1]) (by simp [results,Tryz.results163,go_sem]) rfl ?_
            exact⟨hE2,1,by decide,rfl⟩
          · have d8:decide (n<=q.wr)=false:=by rw [decide_eq_false_iff_not];omega
            have hs2:Hid (∀ (k:Nat) q,k<j+1->l[k]?=some q->-1<=q.wr/\q.wr<n):=Hd fun k q' hk hq'=>by
             by_cases e:k=j
             · subst e
               rw [hq] at hq'
               obtain rfl:q=q':=by simpa using hq'
               omega
             · exact hs.out k q' (by omega) hq'
            have hE3:=Hd hE2
            clear hq hs hgood hbad hE2;go_wp2_with fail
            refine⟨⟨j+1,by go_num,by omega,hs2,hE3.out⟩,?_⟩
            simp [intOf];omega
      · have hlay:=Hd (hgood.out fun k q hq=>hs.out k q (by have:=(List.getElem?_eq_some_iff.1 hq).1;omega) hq)
        have hwr:=Hd (fun (k:Nat) (q:Want) (hq:l[k]?=some q)=>hs.out k q (by have:=(List.getElem?_eq_some_iff.1 hq).1;omega) hq)
        clear hgood hbad hs;go_wp2_with fail
        have hE0:=Hd hE
        clear hE
        go_loopw [3,4,14,56] (fun b' c' v i wr=>∃ (j:Nat) (bi ci:Int) (pre:List Reg),b'=V Z bi/\c'=V Z ci/\i=V Z j/\j<=l.length/\pre.length=j/\0<=bi/\0<=ci/\Hid (layFrom n 2 l base loc=(layFrom n 2 (l.drop j) bi ci).map (pre++·))/\wr.ownsRow w.heap.size 67 7 v j (pre.flatMap regVals)/\Ext w wr) (fun _ _ _ i _=>l.length-(intOf i).toNat)
        case atStart=>exact⟨0,base,loc,[],rfl,rfl,rfl,by omega,rfl,b1,l1,by unfold Hid;simp,World.ownsRow_nil _ _ _ _,hE0.out⟩
        case round =>
         clear hE0
         obtain⟨j,bi,ci,pre,rfl,rfl,rfl,hj,hpl,hbi,hci,hM,hown,hE⟩:=hrel
         by_cases hl:j<l.length
         · obtain⟨q,hq⟩:∃ q,l[j]?=some q:=⟨_,List.getElem?_eq_getElem hl⟩
           obtain⟨b,rfl,hb,e1,e2⟩:=want_at (hv.ext hE) hq
           obtain⟨w1,w2⟩:=hwr.out j q hq
           have hdr:l.drop j=q :: l.drop (j+1):=by
            rw [List.drop_eq_getElem_cons hl]
            congr 1
            rw [List.getElem?_eq_getElem hl] at hq
            simpa using hq
           have hMh:=Hd hM
           have hownh:=Hd hown
           clear hM hown hq
           have hrk:regOf n 2 bi ci q=⟨kindM 2 q.wr,bi,ci,n,q.wr,-1,topM q.top⟩:=rfl
           have hWW:=fun W=>want_p q n 2 W (by omega) w1
           have hK:kindM 2 q.wr=1∨kindM 2 q.wr=6∨kindM 2 q.wr=7:=by unfold kindM;split <;> (try split) <;> simp
           have hK6:kindM 2 q.wr=6->0<=q.wr:=by unfold kindM;split <;> (try split) <;> omega
           have htm:=topM_bd q.top
           have hdn:Drawn ⟨kindM 2 q.wr,bi,ci,n,q.wr,-1,topM q.top⟩:=⟨hK,hbi,hci,⟨n1,n2⟩,⟨w1,w2⟩,hK6,rfl,htm⟩
           have hlf:=Hd (show layFrom n 2 (l.drop j) bi ci=if fineM ⟨kindM 2 q.wr,bi,ci,n,q.wr,-1,topM q.top⟩ then (layFrom n 2 (l.drop (j+1)) (bi+cellsM ⟨kindM 2 q.wr,bi,ci,n,q.wr,-1,topM q.top⟩) (ci+localsM ⟨kindM 2 q.wr,bi,ci,n,q.wr,-1,topM q.top⟩)).map (⟨kindM 2 q.wr,bi,ci,n,q.wr,-1,topM q.top⟩ :: ·) else none from by rw [hdr,layFrom_cons,hrk])
           have hCC:=fun W=>hC ⟨kindM 2 q.wr,bi,ci,n,q.wr,-1,topM q.top⟩ W hdn rfl
           have hFF:=fun W=>fine_p ⟨kindM 2 q.wr,bi,ci,n,q.wr,-1,topM q.top⟩ W hdn hCC
           have hLL:=fun W=>locals_p ⟨kindM 2 q.wr,bi,ci,n,q.wr,-1,topM q.top⟩ W hK ⟨n1,n2⟩
           have hcn:=cells_nat ⟨kindM 2 q.wr,bi,ci,n,q.wr,-1,topM q.top⟩ ⟨n1,n2⟩
           have hfb:fineM ⟨kindM 2 q.wr,bi,ci,n,q.wr,-1,topM q.top⟩=true->bi<=32768/\ci<=32768:=by
            unfold fineM
            simp only [Bool.and_eq_true,decide_eq_true_eq]
            omega
           clear hdn hrk htm hdr hK hK6
           unfold encR regOf at hWW
           unfold encR at hFF hCC hLL
           simp only at hWW hFF hCC hLL
           generalize kindM 2 q.wr=kk at *
           generalize topM q.top=tp at *
           generalize cellsM _=C at *
           generalize localsM _=D at *
           generalize hfm:fineM _=F at *
           clear hfm;go_wp2_with fail
           refine (hWW _).mono ?_
           rintro e w3 ⟨rfl,hx⟩
           clear hWW
           have g3:=Blk.new w3 (.cells #[V Z kk,V Z bi,V Z ci,V Z n,V Z q.wr,V Z (-1),V Z tp] 67)
           have x3:Ext wr (w3.alloc (.cells #[V Z kk,V Z bi,V Z ci,V Z n,V Z q.wr,V Z (-1),V Z tp] 67)):=(((Ext.refl wr).alloc _).trans hx).alloc _
           have hz3:wr.heap.size<w3.heap.size:=by have:=hx.size;simp at this;omega
           clear hx;go_wp2_with fail
           generalize w3.alloc _=W at *
           have c_3:=g3.cells
           refine (hFF _).mono ?_
           rintro e w4 ⟨rfl,hx⟩
           clear hFF c_3;replace g3:=g3.ext hx;replace x3:=x3.trans hx;clear hx;have c_3:=g3.cells
           cases F with
           | false =>
             have hres:=Hd (show layM l n 2 base loc=none from by rw [hlay.out,hMh.out,hlf.out];rfl)
             go_wp2_with fail
             rw [hres.out]
             exact bodyPost_ret (v:=.tuple #[.slice none 0 0,V Z 6]) (by simp [results,Tryz.results163,go_sem]) rfl ⟨hE.trans x3,6,by decide,rfl⟩
           | true =>
             obtain⟨hb1,hb2⟩:=hfb rfl
             have s1:=IntWalk.i64_in (bi+C) (by omega)
             have s2:=IntWalk.i64_in (ci+D) (by omega)
             have hown3:=row_ext hownh.out x3
             have hRn:Hid (u14.ownBlock≠some w3.heap.size):=Hd fun e=>by have:=(hownh.out.lt _ e).2;omega
             have hE3:=hE.trans x3
             have hM2:=Hd (show layFrom n 2 l base loc=(layFrom n 2 (l.drop (j+1)) (bi+C) (ci+D)).map ((pre++[⟨kk,bi,ci,n,q.wr,-1,tp⟩])++·) from by
              rw [hMh.out,hlf.out]
              simp only [if_true,Option.map_map]
              congr 1
              funext x
              simp)
             clear hfb hlf hMh hownh hb1 hb2
             go_wp2_with (at_builtin;refine append_rec info_reg Tryz.underlying94 rfl (by decide) (by decide) rfl _ _ rfl _ j (pre.flatMap regVals) [V Z kk,V Z bi,V Z ci,V Z n,V Z q.wr,V Z (-1),V Z tp] hE3 hown3 rfl rfl rfl (by simp [Value.oneCell']) (by omega) ?_)
             intro v' w5 ho4 hx4 hbk
             have g4:Blk w5 w3.heap.size _:=(hbk _ g3.lt hRn.out).trans g3
             have c_4:=g4.cells;clear hbk hown3 hE3 c_3 hRn g3 x3;go_wp2_with fail
             refine (hCC _).mono ?_
             rintro e w6 ⟨rfl,hx⟩
             replace g4:=g4.ext hx;replace ho4:=row_ext ho4 hx;replace hx4:=hx4.trans hx;clear c_4 hx hCC;have c_4:=g4.cells;go_wp2_with fail
             refine (hLL _).mono ?_
             rintro e w7 ⟨rfl,hx⟩
             replace ho4:=row_ext ho4 hx;replace hx4:=hx4.trans hx;clear c_4 g4 hx hLL
             have ho5:=Hd ho4
             clear ho4;go_wp2_with fail
             refine⟨⟨j+1,bi+C,ci+D,pre++[⟨kk,bi,ci,n,q.wr,-1,tp⟩],rfl,rfl,by go_num,by omega,by simp [hpl],by omega,by omega,hM2,by rw [List.flatMap_append];exact ho5.out,hx4⟩,?_⟩
             simp [intOf];omega
         · have hf:layFrom n 2 l base loc=some pre:=by
            rw [hM.out,List.drop_eq_nil_of_le (by omega)]
            simp [layFrom]
           have hres:=Hd (hlay.out.trans hf)
           clear hM hf hlay hwr
           have hownh:=Hd hown
           clear hown;go_wp2_with fail
           rw [hres.out]
           refine bodyPost_ret (v:=.tuple #[u14,V Z 0]) (by simp [results,Tryz.results163,go_sem]) rfl ?_
           exact⟨hE,u14,rfl,by rw [hpl];exact hownh.out⟩
 · rw [argsM_false h0]
   go_enter Tryz.func163,Tryz.ntmps163
   have hfin:LayPost w.heap.size w none (.returned (.tuple #[.slice none 0 0,V Z 1])) w:=⟨Ext.refl _,1,by decide,rfl⟩
   by_cases m1:mode=1∨mode=2
   · by_cases m3:n<1
     · have d3:decide (n<1)=true:=by simpa using m3
       rcases m1 with rfl | rfl
       all_goals
        go_wp2_with fail
        exact bodyPost_ret (v:=.tuple #[.slice none 0 0,V Z 1]) (by simp [results,Tryz.results163,go_sem]) rfl hfin
     · have d3:decide (n<1)=false:=by simpa using m3
       by_cases m4:8<n
       · have d4:decide (8<n)=true:=by simpa using m4
         rcases m1 with rfl | rfl
         all_goals
          go_wp2_with fail
          exact bodyPost_ret (v:=.tuple #[.slice none 0 0,V Z 1]) (by simp [results,Tryz.results163,go_sem]) rfl hfin
       · have d4:decide (8<n)=false:=by simpa using m4
         by_cases m5:base<0
         · have d5:decide (base<0)=true:=by simpa using m5
           rcases m1 with rfl | rfl
           all_goals
            go_wp2_with fail
            exact bodyPost_ret (v:=.tuple #[.slice none 0 0,V Z 1]) (by simp [results,Tryz.results163,go_sem]) rfl hfin
         · have d5:decide (base<0)=false:=by simpa using m5
           have d6:decide (loc<0)=true:=by rw [decide_eq_true_eq];omega
           rcases m1 with rfl | rfl
           all_goals
            go_wp2_with fail
            exact bodyPost_ret (v:=.tuple #[.slice none 0 0,V Z 1]) (by simp [results,Tryz.results163,go_sem]) rfl hfin
   · have d1:(mode != 1)=true:=by rw [bne_iff_ne];omega
     have d2:(mode != 2)=true:=by rw [bne_iff_ne];omega
     go_wp2_with fail
     exact bodyPost_ret (v:=.tuple #[.slice none 0 0,V Z 1]) (by simp [results,Tryz.results163,go_sem]) rfl hfin
theorem append_none {w:World}{ops:Array Oper}{rest:List Oper}{o:Oper}{a:Act}{Q:Exit->Act->World->Prop}{z:Value}{e t:TypeId}{size bytes:Nat}
  (hinfo:(Tryz.prog.info? e).map (fun i=>(i.zero,i.size,i.bytes))=some (some z,size,bytes))(hund:Tryz.prog.underlying t=some (.slice e))(hgd:o.guard=none)(s x:Operand)
  (ho:o.op=.call { callee:=.builtin .append,args:=#[s,x],argTypes:=#[t,t] })(base:Nat)(v:Value)(n:Nat)(xs:List Value)(hown:w.ownsRow base e size v n xs)(hs:a.eval s=v)(hx:a.eval x=.slice none 0 0)
  (h:wpList Tryz.prog ops Q rest (a.put o.dst v) w):wpList Tryz.prog ops Q (o :: rest) a w:=by
 obtain⟨i0,hi,hz0,hz1,hz2⟩:=info_parts hinfo
 exact wpList_append_own_none hgd s x t ho base e i0 size hund hi v n xs hs hown hx h
set_option maxRecDepth 100000 in
theorem mstrips1_p (w:World):Calls Tryz.prog 317 #[V Z 1] w fun e w'=>∃ A c,e=.returned (.slice A 0 c)/\Ext w w':=by
 go_enter Tryz.func317,Tryz.ntmps317
 go_wp2_with fail
 refine (mthreads_p 1 _ (by omega) (by omega)).mono ?_
 rintro e w' ⟨rfl,rfl⟩;go_wp2_with fail
 go_loopw [3,6] (fun v i wr=>∃ j:Nat,i=V Z j/\j<=1/\wr.ownsRow w.heap.size 176 3 v 0 []/\Ext w wr) (fun _ i _=>1-(intOf i).toNat)
 case atStart=>exact⟨0,rfl,by omega,World.ownsRow_nil _ _ _ _,Ext.refl _⟩
 case round =>
  obtain⟨j,rfl,hj,hown,hX⟩:=hrel
  by_cases hl:j<1
  · obtain rfl:j=0:=by omega
    go_wp2_with fail
    refine (tstrips_p 1 _ (by omega) (by omega)).mono ?_
    rintro e w2 ⟨v2,rfl,hr2,hx2⟩
    rw [show 2*((1-1:Int).toNat*(1-1:Int).toNat)=0 from rfl,show pairVals ((1-1:Int).toNat*(1-1:Int).toNat)=[] from rfl] at hr2
    replace hown:=row_ext hown hx2;replace hX:=hX.trans hx2;clear hx2
    rcases hr2.2 with⟨rfl,-⟩ | ⟨g,cap,cur,rfl,q1,q2,q3,q4,-⟩
    · clear hr2
      go_wp2_with (at_builtin;refine append_none info_strip Tryz.underlying120 rfl _ _ rfl w.heap.size _ 0 [] hown rfl rfl ?_)
      have hoh:=Hd hown
      clear hown;go_wp2_with fail
      refine⟨⟨1,by go_num,by omega,hoh.out,hX⟩,?_⟩
      simp [intOf]
    · clear hr2
      go_wp2_with (at_builtin;refine append_recs info_strip Tryz.underlying120 rfl (by decide) (by decide) rfl _ _ rfl _ 0 [] [] ⟨g,0,none⟩ 0 cap hX hown rfl rfl rfl (fun i u hu=>by simp at hu) (fun u hu=>by simp at hu) (by omega) (by omega) ?_)
      intro v' w' ho hx'
      have hoh:=Hd ho
      clear hown ho q1 q2 q3 q4;go_wp2_with fail
      refine⟨⟨1,by go_num,by omega,hoh.out,hx'⟩,?_⟩
      simp [intOf]
  · obtain rfl:j=1:=by omega
    obtain⟨A,c,rfl,-⟩:=Recs.of_row hown
    clear hown;go_wp2_with fail
    go_ret
    exact⟨_,_,rfl,hX⟩
set_option maxRecDepth 100000 in
theorem cells71_p (base loc wr rd top:Int)(w:World):Calls Tryz.prog 225 #[.agg #[V Z 7,V Z base,V Z loc,V Z 1,V Z wr,V Z rd,V Z top]] w fun e w'=>e=.returned (V Z 0)/\Ext w w':=by
 have hS:∀ w,Calls Tryz.prog 274 #[.agg #[V Z 7,V Z base,V Z loc,V Z 1,V Z wr,V Z rd,V Z top]] w fun e w'=>∃ A c,e=.returned (.slice A 0 c)/\Ext w w':=by
  intro w
  have hX:=Ext.refl w
  have b1:=Blk.new w (.cells #[V Z 7,V Z base,V Z loc,V Z 1,V Z wr,V Z rd,V Z top] 67)
  replace hX:=hX.alloc (.cells #[V Z 7,V Z base,V Z loc,V Z 1,V Z wr,V Z rd,V Z top] 67)
  have c_b1:=b1.cells
  go_enter Tryz.func274,Tryz.ntmps274
  go_wp2_with fail
  refine (mstrips1_p _).mono ?_
  rintro e w2 ⟨A,c,rfl,hx⟩
  have hf:=Hd (hX.trans hx)
  clear hx;go_wp2_with fail
  go_ret
  exact⟨_,_,rfl,hf.out⟩
 have hX:=Ext.refl w
 have b1:=Blk.new w (.cells #[V Z 7,V Z base,V Z loc,V Z 1,V Z wr,V Z rd,V Z top] 67)
 replace hX:=hX.alloc (.cells #[V Z 7,V Z base,V Z loc,V Z 1,V Z wr,V Z rd,V Z top] 67)
 have c_b1:=b1.cells
 go_enter Tryz.func225,Tryz.ntmps225
 go_wp2_with fail
 refine (hS _).mono ?_
 rintro e w2 ⟨A,c,rfl,hx⟩
 have hf:=Hd (hX.trans hx)
 clear hx hS c_b1 b1 hX;go_wp2_with fail
 go_loopw [3,9] (fun s i wr=>i=V Z 0/\s=V Z 0/\w2=wr) (fun _ _ _=>0)
 case atStart=>exact⟨rfl,rfl,rfl⟩
 case round =>
  obtain⟨rfl,rfl,rfl⟩:=hrel
  go_wp2_with fail
  go_ret
  exact⟨rfl,hf.out⟩
theorem cells_all (r:Reg)(w:World)(hk:r.kind=1∨r.kind=6∨r.kind=7)(hn:1<=r.n/\r.n<=8):Calls Tryz.prog 225 #[encR r] w fun e w'=>e=.returned (V Z (cellsM r))/\Ext w w':=by
 by_cases h:r.kind=7/\r.n=1
 · obtain⟨kind,base,loc,n,wr,rd,top⟩:=r
   obtain⟨rfl,rfl⟩:=h
   exact cells71_p base loc wr rd top w
 · exact cells_p r w (by omega) hn (fun w=>mthreads_p r.n w hn.1 hn.2)
theorem plan_p (va:Value)(l:List Want)(n mode base loc:Int)(w:World)(h:WantsAt w va l)(hlen:l.length<=1000) :
  Calls Tryz.prog 163 #[va,V Z n,V Z mode,V Z base,V Z loc] w (LayPost w.heap.size w (layM l n mode base loc)) :=
 lay_p va l n mode base loc w h hlen fun r w hd _=>cells_all r w hd.kind hd.n
end Go.Proofs.YtbaajjkopdjbgaaGreat
namespace Kv
theorem filWants_len (N:Nat):(filWants N).length=2*N-1:=by simp [filWants]
theorem fastWants_len (N:Nat):(fastWants N).length=N+2:=by simp [fastWants]
theorem bwWants_len (N:Nat):(bwWants N).length=2*N+1:=by simp [bwWants]
end Kv
namespace Go.Proofs.YtbaajjkopdjbgaaGreat
open Go.RowKit Kv
theorem layr_some {va:Value}{l:List Want}{n mode base loc:Int}{rs:List Reg}(hl:layM l n mode base loc=some rs)(w:World)(h:WantsAt w va l)(hlen:l.length<=1000) :
  Calls Tryz.prog 176 #[va,V Z n,V Z mode,V Z base,V Z loc] w fun e w'=>∃ v,e=.returned (.tuple #[v,V Z 0])/\(RegsV w' v rs/\∀ k,v.ownBlock=some k->w.heap.size<=k)/\Ext w w':=by
 have:=lay_r va l n mode base loc w h hlen
 rw [hl] at this
 exact this.mono fun e w' ⟨hx,v,he,hr⟩=>⟨v,he,⟨Recs.of_row hr,fun k hk=>(hr.lt k hk).1⟩,hx⟩
theorem layp_some {va:Value}{l:List Want}{n mode base loc:Int}{rs:List Reg}(hl:layM l n mode base loc=some rs)(w:World)(h:WantsAt w va l)(hlen:l.length<=1000) :
  Calls Tryz.prog 163 #[va,V Z n,V Z mode,V Z base,V Z loc] w fun e w'=>∃ v,e=.returned (.tuple #[v,V Z 0])/\(RegsV w' v rs/\∀ k,v.ownBlock=some k->w.heap.size<=k)/\Ext w w':=by
 have:=plan_p va l n mode base loc w h hlen
 rw [hl] at this
 exact this.mono fun e w' ⟨hx,v,he,hr⟩=>⟨v,he,⟨Recs.of_row hr,fun k hk=>(hr.lt k hk).1⟩,hx⟩
set_option maxRecDepth 100000 in
theorem fillay_p (alg mode base loc room me:Int)(N:Nat)(rs:List Reg)(w:World)(h1:1<=N)(h2:N<=8)(hl:layM (filWants N) N mode base loc=some rs)(hm0:0<=me)(hm1:me<N) :
  Calls Tryz.prog 247 #[.agg #[V Z alg,V Z N,V Z mode,V Z base,V Z loc,V Z room],V Z me] w fun e w'=>∃ b c A2 c2,e=.returned (.tuple #[.slice (some ⟨b,0,none⟩) N c,.slice A2 (N-1) c2,V Z 0])/\(2<=N->A2=some ⟨b,N*7,none⟩)/\w.heap.size<=b/\b<w'.heap.size/\(∀ (i:Nat) u,(rs.flatMap regVals)[i]?=some u->w'.cell? ⟨b,i,none⟩=some u)/\N<=c/\c<=9223372036854775807/\Ext w w':=by
 have hlen:=layM_len hl
 rw [filWants_len] at hlen;replace hl:=Hd hl
 have hlenh:=Hd hlen
 clear hlen
 have d1:decide (me<0)=false:=by rw [decide_eq_false_iff_not];omega
 have d2:decide ((N:Int)<=me)=false:=by rw [decide_eq_false_iff_not];omega
 have hX:=Ext.refl w
 have b1:=Blk.new w (.cells #[V Z alg,V Z N,V Z mode,V Z base,V Z loc,V Z room] 23)
 replace hX:=hX.alloc (.cells #[V Z alg,V Z N,V Z mode,V Z base,V Z loc,V Z room] 23)
 have c_b1:=b1.cells
 go_enter Tryz.func247,Tryz.ntmps247
 go_wp2_with fail
 generalize w.alloc _=W at *
 have hXW:=hX;clear hX c_b1
 have hX:=(Ext.refl W).drew
 have hS:∀ w',Ext W w'->(∀ i,w'.cell? ⟨w.heap.size,i,none⟩=(#[V Z alg,V Z N,V Z mode,V Z base,V Z loc,V Z room]:Array Value)[i]?):=fun w' hx=>(b1.ext hx).cells
 go_region_held2 (fun w'=>∀ i,w'.cell? ⟨w.heap.size,i,none⟩=(#[V Z alg,V Z N,V Z mode,V Z base,V Z loc,V Z room]:Array Value)[i]?) (exact hS _ hX)
  (first
    | (go_at_call 188
       refine (filwants_p N _ h1 h2).mono ?_
       rintro e w2 ⟨v2,rfl,hw2,hx⟩
       replace hX:=hX.trans hx;have hz2:=hX.size
       clear hx)
    | (go_at_call 163
       refine (layp_some hl.out _ (hw2.ext (Ext.refl _)) (by simp [filWants_len];omega)).mono ?_
       rintro e w3 ⟨v3,rfl,hr3,hx⟩
       replace hX:=hX.trans hx
       clear hx))
 rename_i hh
 clear hh
 obtain⟨⟨A,c,rfl,q1,q2,hV⟩,hown⟩:=hr3
 obtain⟨b,rfl,hb,hcells⟩:=hV (by cases rs with | nil=>have:=hlenh.out;simp only [List.length_nil] at this;omega | cons r l=>simp [regVals])
 have hge:w.heap.size<=b:=Nat.le_trans (Nat.le_trans hXW.size hz2) (hown b rfl)
 have hfh:=Hd (And.intro hge (And.intro hb (And.intro hcells (hXW.trans hX))))
 clear hcells hV hb hown hge hz2
 have c_b1:=hS _ hX
 clear hS;have hz3:=hlenh.out;go_wp2_with fail
 go_quiet (fail)
 have hx9:=(Ext.refl w3).drewN nq
 have hg9:=hfh.out.1
 have hb9:=Nat.lt_of_lt_of_le hfh.out.2.1 hx9.size
 have hc9:Hid (∀ (i:Nat) u,(rs.flatMap regVals)[i]?=some u->(w3.drewN nq).cell? ⟨b,i,none⟩=some u):=Hd fun i u hu=>(hx9.cell (p:=⟨b,i,none⟩) hfh.out.2.1).trans (hfh.out.2.2.1 i u hu)
 have hX9:=Hd (hfh.out.2.2.2.trans hx9)
 clear hx9 c_b1 hfh
 generalize w3.drewN nq=W9 at *
 generalize hA2:(if c=N then some (⟨b,0,none⟩:Addr) else some ⟨b,N*7,none⟩)=A2
 have hA3:Hid (2<=N->A2=some ⟨b,N*7,none⟩):=Hd fun h=>by rw [<- hA2];exact if_neg (by omega)
 clear hA2
 rw [show 2*N-1-N=N-1 from by omega]
 go_wp2_with fail
 refine bodyPost_ret (v:=.tuple #[.slice (some ⟨b,0,none⟩) N c,.slice A2 (N-1) (c-N),V Z 0]) (by simp [results,Tryz.results247,go_sem]) rfl ?_
 exact⟨b,c,_,c-N,rfl,hA3.out,hg9,hb9,hc9.out,by omega,q2,hX9.out⟩
set_option maxRecDepth 100000 in
theorem fastlay_p (alg mode base loc room me:Int)(N:Nat)(rs:List Reg)(w:World)(h1:1<=N)(h2:N<=8)(hl:layM (fastWants N) N mode base loc=some rs)(hm0:0<=me)(hm1:me<N) :
  Calls Tryz.prog 248 #[.agg #[V Z alg,V Z N,V Z mode,V Z base,V Z loc,V Z room],V Z me] w fun e w'=>∃ b c,e=.returned (.tuple #[.slice (some ⟨b,0,none⟩) rs.length c,V Z 0])/\w.heap.size<=b/\b<w'.heap.size/\(∀ (i:Nat) u,(rs.flatMap regVals)[i]?=some u->w'.cell? ⟨b,i,none⟩=some u)/\rs.length<=c/\c<=9223372036854775807/\Ext w w':=by
 have hlen:=layM_len hl
 rw [fastWants_len] at hlen;replace hl:=Hd hl
 have hlenh:=Hd hlen
 clear hlen
 have d1:decide (me<0)=false:=by rw [decide_eq_false_iff_not];omega
 have d2:decide ((N:Int)<=me)=false:=by rw [decide_eq_false_iff_not];omega
 have hX:=Ext.refl w
 have b1:=Blk.new w (.cells #[V Z alg,V Z N,V Z mode,V Z base,V Z loc,V Z room] 23)
 replace hX:=hX.alloc (.cells #[V Z alg,V Z N,V Z mode,V Z base,V Z loc,V Z room] 23)
 have c_b1:=b1.cells
 go_enter Tryz.func248,Tryz.ntmps248
 go_wp2_with fail
 generalize w.alloc _=W at *
 have hXW:=hX;clear hX c_b1
 have hX:=(Ext.refl W).drew
 have hS:∀ w',Ext W w'->(∀ i,w'.cell? ⟨w.heap.size,i,none⟩=(#[V Z alg,V Z N,V Z mode,V Z base,V Z loc,V Z room]:Array Value)[i]?):=fun w' hx=>(b1.ext hx).cells
 go_region_held2 (fun w'=>∀ i,w'.cell? ⟨w.heap.size,i,none⟩=(#[V Z alg,V Z N,V Z mode,V Z base,V Z loc,V Z room]:Array Value)[i]?) (exact hS _ hX)
  (first
    | (go_at_call 191
       refine (fastwants_p N _ h1 h2).mono ?_
       rintro e w2 ⟨v2,rfl,hw2,hx⟩
       replace hX:=hX.trans hx;have hz2:=hX.size
       clear hx)
    | (go_at_call 163
       refine (layp_some hl.out _ (hw2.ext (Ext.refl _)) (by simp [fastWants_len];omega)).mono ?_
       rintro e w3 ⟨v3,rfl,hr3,hx⟩
       replace hX:=hX.trans hx
       clear hx))
 rename_i hh
 clear hh
 obtain⟨⟨A,c,rfl,q1,q2,hV⟩,hown⟩:=hr3
 obtain⟨b,rfl,hb,hcells⟩:=hV (by cases rs with | nil=>have:=hlenh.out;simp only [List.length_nil] at this;omega | cons r l=>simp [regVals])
 have hge:w.heap.size<=b:=Nat.le_trans (Nat.le_trans hXW.size hz2) (hown b rfl)
 have hfh:=Hd (And.intro hge (And.intro hb (And.intro hcells (hXW.trans hX))))
 clear hcells hV hb hown hge hz2;go_wp2_with fail
 first | go_ret2 | go_ret
 exact⟨_,_,rfl,hfh.out.1,hfh.out.2.1,hfh.out.2.2.1,q1,q2,hfh.out.2.2.2⟩
end Go.Proofs.YtbaajjkopdjbgaaGreat
namespace Kv
def treeWants (E N:Nat):List Want:=List.replicate (E*(2 ^ levels N-1)) ⟨-1,1⟩
def treeA (E D:Nat) (rs:List Reg) (N m:Nat):Prog Int:=(nt 1).bind fun _=>(forP (fun x _=>nodeE E D rs m x) (pathL N m) ()).bind fun _=>(nt 3).bind fun _=>.ret 0
def treeR (E:Nat) (rs:List Reg) (N m:Nat):Prog Unit:=(nt 5).bind fun _=>forP (fun x _=>nodeL E rs m x) (pathL N m).reverse ()
theorem notes_arbSpin (qo rt:Reg)(s me:Int):∀ n:Nat,(arbSpin qo rt s me n).Notes 0
 | 0=>.ret _ _
 | n+1=>by
   rw [arbSpin_succ]
   refine (notes_regR _ _).bind0 fun x=>?_
   split
   · exact .ret _ _
   · refine (notes_regR _ _).bind0 fun y=>?_
     split
     · exact notes_arbSpin qo rt s me n
     · exact .ret _ _
theorem notes_arbM (n:Nat)(q0 q1 rt:Reg)(side me:Int):(arbM n q0 q1 rt side me).Notes 0:=by
 unfold arbM
 split <;> exact (notes_regW _ _ _).bind0 fun _=>(notes_regW _ _ _).bind0 fun _=>notes_arbSpin _ _ _ _ _
theorem notes_kesSpin (qo ro:Reg)(s t me:Int):∀ n:Nat,(kesSpin qo ro s t me n).Notes 0
 | 0=>.ret _ _
 | n+1=>by
   unfold kesSpin
   refine (notes_regR _ _).bind0 fun x=>?_
   split
   · exact .ret _ _
   · refine (notes_regR _ _).bind0 fun y=>?_
     split
     · exact .ret _ _
     · exact notes_kesSpin qo ro s t me n
theorem notes_kesM (n:Nat)(q0 q1 r0 r1:Reg)(side me:Int):(kesM n q0 q1 r0 r1 side me).Notes 0:=by
 unfold kesM
 split <;> exact (notes_regW _ _ _).bind0 fun _=>(notes_regR _ _).bind0 fun _=>(notes_regW _ _ _).bind0 fun _=>notes_kesSpin _ _ _ _ _ _
theorem notes_nodeE (E D:Nat)(rs:List Reg)(me x:Int):(nodeE E D rs me x).Notes 0:=by
 unfold nodeE
 split
 · exact notes_kesM _ _ _ _ _ _ _
 · exact notes_arbM _ _ _ _ _ _
theorem notes_nodeL (E:Nat)(rs:List Reg)(me x:Int):(nodeL E rs me x).Notes 0:=notes_regW _ _ _
end Kv
namespace Go.Proofs.YtbaajjkopdjbgaaGreat
open Go.RowKit Kv
theorem each_le (kind:Int):3<=eachK kind/\eachK kind<=4:=by unfold eachK;split <;> omega
set_option maxRecDepth 100000 in
theorem treelay_p (alg mode base loc room me:Int)(N:Nat)(rs:List Reg)(w:World)(h1:1<=N)(h2:N<=64)(hl:layM (treeWants (eachK alg) N) N mode base loc=some rs)(hm0:0<=me)(hm1:me<N) :
  Calls Tryz.prog 250 #[.agg #[V Z alg,V Z N,V Z mode,V Z base,V Z loc,V Z room],V Z me] w fun e w'=>∃ A c,e=.returned (.tuple #[.slice A rs.length c,V Z 0])/\(rs≠[]->∃ b,A=some ⟨b,0,none⟩/\w.heap.size<=b/\b<w'.heap.size/\(∀ (i:Nat) u,(rs.flatMap regVals)[i]?=some u->w'.cell? ⟨b,i,none⟩=some u))/\rs.length<=c/\c<=9223372036854775807/\Ext w w':=by
 have hW:=fun w=>twants_p alg N w h1 h2
 have hle:=(pow_le (lev_le h2)).2
 have hE:=each_le alg
 have hwl:(treeWants (eachK alg) N).length<=1000:=by
  unfold treeWants
  rw [List.length_replicate]
  have:=Nat.mul_le_mul hE.2 (show 2 ^ levels (N:Int)-1<=63 by omega)
  omega
 rw [show List.replicate (eachK alg*(2 ^ levels (N:Int)-1)) (⟨-1,1⟩:Want)=treeWants (eachK alg) N from rfl] at hW
 generalize treeWants (eachK alg) N=lw at *
 replace hl:=Hd hl;clear hle hE
 have d1:decide (me<0)=false:=by rw [decide_eq_false_iff_not];omega
 have d2:decide ((N:Int)<=me)=false:=by rw [decide_eq_false_iff_not];omega
 have hX:=Ext.refl w
 have b1:=Blk.new w (.cells #[V Z alg,V Z N,V Z mode,V Z base,V Z loc,V Z room] 23)
 replace hX:=hX.alloc (.cells #[V Z alg,V Z N,V Z mode,V Z base,V Z loc,V Z room] 23)
 have c_b1:=b1.cells
 go_enter Tryz.func250,Tryz.ntmps250
 go_wp2_with fail
 generalize w.alloc _=W at *
 have hXW:=hX;clear hX c_b1
 have hX:=(Ext.refl W).drew
 have hS:∀ w',Ext W w'->(∀ i,w'.cell? ⟨w.heap.size,i,none⟩=(#[V Z alg,V Z N,V Z mode,V Z base,V Z loc,V Z room]:Array Value)[i]?):=fun w' hx=>(b1.ext hx).cells
 go_region_held2 (fun w'=>∀ i,w'.cell? ⟨w.heap.size,i,none⟩=(#[V Z alg,V Z N,V Z mode,V Z base,V Z loc,V Z room]:Array Value)[i]?) (exact hS _ hX)
  (first
    | (go_at_call 175
       refine (hW _).mono ?_
       rintro e w2 ⟨v2,rfl,hw2,hx⟩
       replace hX:=hX.trans hx;have hz2:=hX.size
       clear hx)
    | (go_at_call 163
       refine (layp_some hl.out _ (hw2.ext (Ext.refl _)) hwl).mono ?_
       rintro e w3 ⟨v3,rfl,hr3,hx⟩
       replace hX:=hX.trans hx
       clear hx))
 rename_i hh
 clear hh
 obtain⟨⟨A,c,rfl,q1,q2,hV⟩,hown⟩:=hr3
 have hR:Hid (rs≠[]->∃ b,A=some ⟨b,0,none⟩/\w.heap.size<=b/\b<w3.heap.size/\(∀ (i:Nat) u,(rs.flatMap regVals)[i]?=some u->w3.cell? ⟨b,i,none⟩=some u)):=Hd fun hne=>by
  obtain⟨b,rfl,hb,hcells⟩:=hV (by cases rs with | nil=>exact absurd rfl hne | cons r l=>simp [regVals])
  exact⟨b,rfl,Nat.le_trans (Nat.le_trans hXW.size hz2) (hown b rfl),hb,hcells⟩
 have hfh:=Hd (hXW.trans hX)
 clear hV hown hz2;go_wp2_with fail
 first | go_ret2 | go_ret
 exact⟨_,_,rfl,hR.out,q1,q2,hfh.out⟩
theorem climb_p (B p D:Nat)(S:TS)(kind:Int)(m place:Nat)(me:Int)(rs:List Reg)(A:Option Addr)(c:Nat)(w:World)(h:Plays B w p S)(h1:1<=m)(h2:m<=64)(h3:place<m)(hlen:rs.length=eachK kind*(2 ^ levels m-1))(hc1:rs.length<=c)(hc2:c<=9223372036854775807)
  (hreg:rs≠[]->∃ b,A=some ⟨b,0,none⟩/\RegsAt [2,3,4] w p b rs)(hall:∀ r∈rs,r.ok/\me<r.n/\r.told me)(hm0:0<=me)(hD:S.left<D) :
  Calls Tryz.prog 91 #[.pointer (some ⟨p,0,none⟩),.slice A rs.length c,V Z kind,V Z m,V Z place,V Z me] w (Post encU B p w ((forP (fun x _=>nodeE (eachK kind) D rs me x) (pathL m place) ()).run S)):=by
 unfold eachK at *
 by_cases hk:kind=7
 · rw [if_pos hk] at *
   exact climb_p7 B p D S kind m place me rs A c w h hk h1 h2 h3 hlen hc1 hc2 hreg hall hm0 hD
 · rw [if_neg hk] at *
   exact climb_o3 B p D S kind m place me rs rs 0 rfl A c w h hk h1 h2 h3 hlen hc1 hc2 hreg hall hm0 hD
theorem down_p (B p:Nat)(S:TS)(kind:Int)(m place:Nat)(me:Int)(rs:List Reg)(A:Option Addr)(c:Nat)(w:World)(h:Plays B w p S)(h1:1<=m)(h2:m<=64)(h3:place<m)(hlen:rs.length=eachK kind*(2 ^ levels m-1))(hc1:rs.length<=c)(hc2:c<=9223372036854775807)
  (hreg:rs≠[]->∃ b,A=some ⟨b,0,none⟩/\RegsAt [2,3,4] w p b rs)(hall:∀ r∈rs,r.ok/\me<r.n/\r.told me)(hm0:0<=me) :
  Calls Tryz.prog 94 #[.pointer (some ⟨p,0,none⟩),.slice A rs.length c,V Z kind,V Z m,V Z place,V Z me] w (Post encU B p w ((forP (fun x _=>nodeL (eachK kind) rs me x) (pathL m place).reverse ()).run S)):=by
 unfold eachK at *
 by_cases hk:kind=7
 · rw [if_pos hk] at *
   exact down_p7 B p S kind m place me rs A c w h hk h1 h2 h3 hlen hc1 hc2 hreg hall hm0
 · rw [if_neg hk] at *
   exact down_o3 B p S kind m place me rs rs 0 rfl A c w h hk h1 h2 h3 hlen hc1 hc2 hreg hall hm0
set_option maxRecDepth 100000 in
set_option maxHeartbeats 1000000 in
theorem treeacq_p (B p N D:Nat)(S:TS)(alg mode base loc room:Int)(m:Nat)(rs:List Reg)(w:World)(h:Plays B w p S)(h1:1<=N)(h2:N<=64)(hm1:m<N)(hl:layM (treeWants (eachK alg) N) N mode base loc=some rs)
  (hall:∀ r∈rs,r.ok/\(m:Int)<r.n/\r.told m)(hD:S.left<D)(hn0:S.nts.length<=100000) :
  Calls Tryz.prog 195 #[.pointer (some ⟨p,0,none⟩),.agg #[V Z alg,V Z N,V Z mode,V Z base,V Z loc,V Z room],V Z m] w (Post encI B p w ((treeA (eachK alg) D rs N m).run S)):=by
 have hlen:=layM_len hl
 unfold treeWants at hlen;rw [List.length_replicate] at hlen
 generalize hR:Post encI B p w ((treeA (eachK alg) D rs N m).run S)=R
 have hO:Owes R encI B p w ((treeA (eachK alg) D rs N m).run S):=hR▸owes _ _ _ _ _
 clear hR
 obtain⟨b1,hK,hP⟩:=h.entry (.cells #[V Z alg,V Z N,V Z mode,V Z base,V Z loc,V Z room] 23)
 have c_b1:=b1.cells;clear h;unfold treeA at hO
 have hlh:=Hd hl
 have hlenh:=Hd hlen
 have hallh:=Hd hall
 clear hl hlen hall
 go_enter Tryz.func195,Tryz.ntmps195
 go_wp2_with fail
 refine (treelay_p alg mode base loc room m N rs _ h1 h2 hlh.out (by omega) (by omega)).mono ?_
 rintro e w1 ⟨A,c,rfl,hR,q1,q2,hx⟩
 have hreg:rs≠[]->∃ b,A=some ⟨b,0,none⟩/\RegsAt [2,3,4] w1 p b rs:=fun hne=>by
  obtain⟨b,e1,hge,hb,hcells⟩:=hR hne
  exact⟨b,e1,hb,hP.fresh hx hge,hcells⟩
 replace hK:=hK.trans (Keep.of_ext hx hP.lt hP.le);replace b1:=b1.ext hx hP.lt;replace hP:=hP.ext hx;clear hx hR c_b1
 generalize w.heap.size=z at *
 go_wp2_with fail
 refine tstepN (notes_nt 1) hO hK (noteO hP (by unfold maxAns;omega)) (fun _ h=>⟨rfl,h⟩) ?_
 clear hO hK hP;intro u S1 w2 hlf _ hnn hP hk hK hO;replace hD:=Nat.lt_of_le_of_lt hlf hD
 replace hn0:S1.nts.length<=100001:=by omega
 have hreg2:rs≠[]->∃ b,A=some ⟨b,0,none⟩/\RegsAt [2,3,4] w2 p b rs:=fun hne=>by
  obtain⟨b,e1,e2⟩:=hreg hne
  exact⟨b,e1,e2.keep hk⟩
 replace b1:=b1.keep hk;clear hk hlf hreg;have c_b1:=b1.cells;have hOh:=Hd hO;clear hO;go_wp2_with fail
 refine tstepN (notes_forP (fun _ _=>notes_nodeE _ _ _ _ _) _ _) hOh.out hK (climb_p B p D S1 alg N m m rs A c w2 hP h1 h2 hm1 hlenh.out q1 q2 hreg2 hallh.out (by omega) hD) (fun _ h=>⟨rfl,h⟩) ?_
 clear hOh hK hP;intro u S2 w3 _ _ hnn hP hk hK hO
 replace hn0:S2.nts.length<=100001:=by omega
 clear hk hreg2 c_b1;go_wp2_with fail
 refine tstepN (notes_nt 3) hO hK (noteO hP (by unfold maxAns;omega)) (fun _ h=>⟨rfl,h⟩) ?_
 clear hO hK hP;intro u S3 w4 _ _ _ hP _ hK hO
 have hf:=hO.done (v:=(0:Int)) hP hK
 clear hO hP hK;go_wp2_with fail
 first | exact hf | (go_ret;exact hf)
set_option maxRecDepth 100000 in
set_option maxHeartbeats 1000000 in
theorem treerel_p (B p N:Nat)(S:TS)(alg mode base loc room:Int)(m:Nat)(rs:List Reg)(w:World)(h:Plays B w p S)(h1:1<=N)(h2:N<=64)(hm1:m<N)(hl:layM (treeWants (eachK alg) N) N mode base loc=some rs)
  (hall:∀ r∈rs,r.ok/\(m:Int)<r.n/\r.told m)(hn0:S.nts.length<=100000) :
  Calls Tryz.prog 196 #[.pointer (some ⟨p,0,none⟩),.agg #[V Z alg,V Z N,V Z mode,V Z base,V Z loc,V Z room],V Z m] w (Post encU B p w ((treeR (eachK alg) rs N m).run S)):=by
 have hlen:=layM_len hl
 unfold treeWants at hlen;rw [List.length_replicate] at hlen
 generalize hR:Post encU B p w ((treeR (eachK alg) rs N m).run S)=R
 have hO:Owes R encU B p w ((treeR (eachK alg) rs N m).run S):=hR▸owes _ _ _ _ _
 clear hR
 obtain⟨b1,hK,hP⟩:=h.entry (.cells #[V Z alg,V Z N,V Z mode,V Z base,V Z loc,V Z room] 23)
 have c_b1:=b1.cells;clear h;unfold treeR at hO
 have hlh:=Hd hl
 have hlenh:=Hd hlen
 have hallh:=Hd hall
 clear hl hlen hall
 go_enter Tryz.func196,Tryz.ntmps196
 go_wp2_with fail
 refine (treelay_p alg mode base loc room m N rs _ h1 h2 hlh.out (by omega) (by omega)).mono ?_
 rintro e w1 ⟨A,c,rfl,hR,q1,q2,hx⟩
 have hreg:rs≠[]->∃ b,A=some ⟨b,0,none⟩/\RegsAt [2,3,4] w1 p b rs:=fun hne=>by
  obtain⟨b,e1,hge,hb,hcells⟩:=hR hne
  exact⟨b,e1,hb,hP.fresh hx hge,hcells⟩
 replace hK:=hK.trans (Keep.of_ext hx hP.lt hP.le);replace b1:=b1.ext hx hP.lt;replace hP:=hP.ext hx;clear hx hR c_b1
 generalize w.heap.size=z at *
 go_wp2_with fail
 refine tstepN (notes_nt 5) hO hK (noteO hP (by unfold maxAns;omega)) (fun _ h=>⟨rfl,h⟩) ?_
 clear hO hK hP;intro u S1 w2 _ _ _ hP hk hK hO
 have hreg2:rs≠[]->∃ b,A=some ⟨b,0,none⟩/\RegsAt [2,3,4] w2 p b rs:=fun hne=>by
  obtain⟨b,e1,e2⟩:=hreg hne
  exact⟨b,e1,e2.keep hk⟩
 replace b1:=b1.keep hk;clear hk hreg;have c_b1:=b1.cells;have hOh:=Hd hO;clear hO;go_wp2_with fail
 refine tlast hOh.out hK (down_p B p S1 alg N m m rs A c w2 hP h1 h2 hm1 hlenh.out q1 q2 hreg2 hallh.out (by omega)) (fun _ h=>⟨rfl,h⟩) ?_
 clear hOh hK hP;intro u S2 w3 hr hP hk hK hO
 have hf:=hO.done hP hK
 clear hO hP hK hr hk hreg2 c_b1;go_wp2_with fail
 first | exact hf | (refine bodyPost_ret (results_none rfl _ _ _) rfl ?_;exact hf)
end Go.Proofs.YtbaajjkopdjbgaaGreat
namespace Kv
open Go Go.RowKit
def renW:Nat->Nat->List Want
 | 0,_=>[]
 | k+1,N=>renW k N++[⟨-1,(N:Int)⟩,⟨-1,1⟩]
theorem renW_len (N:Nat):∀ k:Nat,(renW k N).length=2*k
 | 0=>rfl
 | k+1=>by
   rw [renW,List.length_append,renW_len N k]
   rfl
def adWants (N:Nat):List Want:=renW (triN N) N++treeWants 3 (triN N)
theorem triN_le {N:Nat}(h1:1<=N)(h2:N<=8):1<=triN N/\triN N<=36:=by
 have a:=triN_mono h1
 have b:=triN_mono h2
 rw [show triN 1=1 from by decide] at a
 rw [show triN 8=36 from by decide] at b
 exact⟨a,b⟩
theorem adWants_len {N:Nat}:(adWants N).length=2*triN N+3*(2 ^ levels (triN N)-1):=by
 rw [adWants,List.length_append,renW_len,treeWants,List.length_replicate]
theorem adTree_le {N:Nat}(h1:1<=N)(h2:N<=8):3*(2 ^ levels (triN N:Nat)-1)<=189:=by
 obtain⟨_,q2⟩:=triN_le h1 h2
 obtain⟨p1,p2⟩:=pow_le (lev_le (m:=triN N) (by omega))
 omega
def adClimb (D:Nat) (T:List Reg) (M:Nat) (me name:Int):Prog Unit:=if 0<=name/\name<M then forP (fun x _=>nodeE 3 D T me x) (pathL M name.toNat) () else .ret ()
def adDown (T:List Reg) (M:Nat) (me name:Int):Prog Unit:=if 0<=name/\name<M then forP (fun x _=>nodeL 3 T me x) (pathL M name.toNat).reverse () else .ret ()
def adA (D:Nat) (rs:List Reg) (own:Int) (N:Nat) (me:Int):Prog Int :=
 (nt 1).bind fun _=>(getM (rs.take (2*triN N)) N own me).bind fun name=>(adClimb D (rs.drop (2*triN N)) (triN N) me name).bind fun _=>(nt 3).bind fun _=>.ret 0
def adR (rs:List Reg) (own:Int) (N:Nat) (me:Int):Prog Unit :=
 (nt 5).bind fun _=>(gt own).bind fun had=>adDown (rs.drop (2*triN N)) (triN N) me (wrap64 (had-1))
theorem notes_passM (x y:Reg)(me:Int):(passM x y me).Notes 0:=by
 unfold passM
 refine (notes_regW _ _ _).bind0 fun _=>(notes_regR _ _).bind0 fun v=>?_
 split
 · first | exact .ret _ _ | skip
 · refine (notes_regW _ _ _).bind0 fun _=>(notes_regR _ _).bind0 fun z=>?_
   split <;> exact .ret _ _
theorem notes_nameM (l:List Reg)(N:Nat)(me:Int):∀ f x y:Nat,(nameM l N me f x y).Notes 0
 | 0,_,_=>.ret _ _
 | f+1,x,y=>by
   rw [show nameM l N me (f+1) x y=((passM (regAt l (2*(triName x y:Int))) (regAt l (2*(triName x y:Int)+1)) me).bind fun told =>
    if told=0 then .ret (triName x y:Int) else if told=1 then nameM l N me f (x+1) y else nameM l N me f x (y+1)) from rfl]
   refine (notes_passM _ _ _).bind0 fun told=>?_
   split
   · exact .ret _ _
   · split
     · exact notes_nameM l N me f (x+1) y
     · exact notes_nameM l N me f x (y+1)
theorem notes_getM (l:List Reg)(N:Nat)(own me:Int):(getM l N own me).Notes 0:=by
 unfold getM
 refine (notes_gt _).bind0 fun had=>?_
 split
 · exact .ret _ _
 · exact (notes_nameM _ _ _ _ _ _).bind0 fun name=>(notes_st _ _).bind0 fun _=>.ret _ _
theorem notes_adClimb (D:Nat)(T:List Reg)(M:Nat)(me name:Int):(adClimb D T M me name).Notes 0:=by
 unfold adClimb
 split
 · exact notes_forP (fun _ _=>notes_nodeE _ _ _ _ _) _ _
 · exact .ret _ _
end Kv
namespace Go.Proofs.YtbaajjkopdjbgaaGreat
open Go.RowKit Kv
theorem each6:eachK 6=3:=by unfold eachK;rw [if_neg (by decide)]
set_option maxRecDepth 100000 in
set_option maxHeartbeats 1000000 in
theorem renwants_p (N:Nat)(w:World)(h1:1<=N)(h2:N<=8) :
  Calls Tryz.prog 165 #[V Z N] w fun e w'=>∃ v,e=.returned v/\w'.ownsRow w.heap.size 179 2 v (2*triN N) ((renW (triN N) N).flatMap wantVals)/\Ext w w':=by
 have e1:min (max (N:Int) 1) 8=N:=by omega
 have hS:=fun w=>gsize_p N (by omega) w
 have hW:=fun w=>swants_p N w
 rw [show nM (N:Int)=N from nM_id (by omega) (by omega)] at hW
 obtain⟨q1,q2⟩:=triN_le h1 h2
 generalize triN N=M at *
 go_enter Tryz.func165,Tryz.ntmps165
 go_wp2_with fail
 refine (hS _).mono ?_
 rintro e w' ⟨rfl,rfl⟩;go_wp2_with fail
 go_loopw [3,9] (fun v i wr=>∃ j:Nat,i=V Z j/\j<=M/\wr.ownsRow w.heap.size 179 2 v (2*j) ((renW j N).flatMap wantVals)/\Ext w wr) (fun _ i _=>M-(intOf i).toNat)
 case atStart=>exact⟨0,rfl,by omega,World.ownsRow_nil _ _ _ _,Ext.refl _⟩
 case round =>
  obtain⟨j,rfl,hj,hown,hX⟩:=hrel
  by_cases hl:j<M
  · go_wp2_with fail
    refine (hW _).mono ?_
    rintro e w3 ⟨v2,rfl,hr2,hx3⟩
    replace hown:=row_ext hown hx3;replace hX:=hX.trans hx3
    obtain⟨A,c,rfl,r1,r2,hV⟩:=hr2
    obtain⟨b,rfl,hb,hc⟩:=hV (by simp [wantVals])
    clear hV hx3
    go_wp2_with (at_builtin;refine append_recs info_want Tryz.underlying102 rfl (by decide) (by decide) rfl _ _ rfl _ (2*j) _ (([⟨-1,(N:Int)⟩,⟨-1,1⟩]:List Want).flatMap wantVals) ⟨b,0,none⟩ 2 c hX hown rfl rfl rfl (fun i u hu=>by rw [Addr.add_lit,Nat.zero_add];exact hc i u hu) (fun u hu=>by simp [wantVals] at hu;rcases hu with rfl | rfl | rfl | rfl <;> rfl) (by omega) (by omega) ?_)
    intro v' w' ho hx'
    have hoh:Hid (w'.ownsRow w.heap.size 179 2 v' (2*(j+1)) ((renW (j+1) N).flatMap wantVals)):=Hd (by
     rw [renW,List.flatMap_append];exact ho)
    clear hown ho hc;go_wp2_with fail
    refine⟨⟨j+1,by go_num,by omega,hoh.out,hx'⟩,?_⟩
    simp [intOf];omega
  · obtain rfl:j=M:=by omega
    have hownh:=Hd hown
    clear hown;go_wp2_with fail
    go_ret
    exact⟨_,rfl,hownh.out,hX⟩
theorem tree_pos {m:Nat}(h1:2<=m)(h2:m<=36):3*(2 ^ levels (m:Nat)-1)≠0:=by
 have:∀ m:Nat,m<37->2<=m->3*(2 ^ levels (m:Nat)-1)≠0:=by decide +kernel
 exact this m (by omega) h1
set_option maxRecDepth 100000 in
theorem twants1_p (w:World):Calls Tryz.prog 175 #[V Z 6,V Z 1] w fun e w'=>e=.returned (.slice none 0 0)/\Ext w w':=by
 have hlv:=fun w=>levels_p (1:Nat) (by omega) w
 rw [show levels ((1:Nat):Int)=0 from by decide] at hlv
 have hsh:Op.shift .shl .i64 1 .i64 0=pure (V Z 1):=by
  rw [Go.shift_shl_i64 (x:=1) (y:=0) (yk:=.i64) (by omega) (by omega)]
  rfl
 go_enter Tryz.func175,Tryz.ntmps175
 go_wp2_with fail
 refine (hlv _).mono ?_
 rintro e w' ⟨rfl,rfl⟩;clear hlv;go_wp2_with fail
 go_loopw [5,16] (fun v i wr=>i=V Z 0/\v=.slice none 0 0/\Ext w wr) (fun _ _ _=>0)
 case atStart=>exact⟨rfl,rfl,Ext.refl _⟩
 case round =>
  obtain⟨rfl,rfl,hX⟩:=hrel
  go_wp2_with fail
  go_ret
  exact⟨rfl,hX⟩
set_option maxRecDepth 100000 in
set_option maxHeartbeats 1000000 in
theorem adwants_p (N:Nat)(w:World)(h1:1<=N)(h2:N<=8) :
  Calls Tryz.prog 98 #[V Z N] w fun e w'=>∃ v,e=.returned v/\WantsAt w' v (adWants N)/\Ext w w':=by
 have e1:min (max (N:Int) 1) 8=N:=by omega
 have hS:=fun w=>gsize_p N (by omega) w
 obtain⟨q1,q2⟩:=triN_le h1 h2
 have ht:=adTree_le h1 h2
 have hW:=fun w=>twants_p 6 (triN N) w q1 (by omega)
 rw [each6] at hW
 have hR:=fun w=>renwants_p N w h1 h2
 have hlen:=adWants_len (N:=N)
 have had:adWants N=renW (triN N) N++List.replicate (3*(2 ^ levels (triN N:Nat)-1)) (⟨-1,1⟩:Want):=rfl
 have hLh:=Hd (show triN N≠1->3*(2 ^ levels (triN N:Nat)-1)≠0 from fun h=>tree_pos (by omega) q2)
 have hL1:=Hd (show triN N=1->3*(2 ^ levels (triN N:Nat)-1)=0 from fun h=>by rw [h];decide)
 generalize 3*(2 ^ levels (triN N:Nat)-1)=L at *
 generalize hl1:renW (triN N) N=l1 at *
 generalize triN N=M at *
 have hlenh:=Hd hlen
 have hadh:=Hd had
 clear hlen had
 go_enter Tryz.func98,Tryz.ntmps98
 go_wp2_with fail
 refine (hR _).mono ?_
 rintro e w2 ⟨v,rfl,hown,hX⟩
 go_wp2_with fail
 refine (hS _).mono ?_
 rintro e w' ⟨rfl,rfl⟩;go_wp2_with fail
 by_cases hM1:M=1
 · subst hM1
   obtain rfl:L=0:=hL1.out rfl
   clear hW
   refine (twants1_p _).mono ?_
   rintro e w3 ⟨rfl,hx3⟩
   replace hown:=row_ext hown hx3;replace hX:=hX.trans hx3;clear hx3
   go_wp2_with (at_builtin;refine append_none info_want Tryz.underlying102 rfl _ _ rfl w.heap.size _ (2*1) _ hown rfl rfl ?_)
   have hf:Hid (WantsAt w3 v (adWants N)):=Hd (by
    have:=Recs.of_row hown
    unfold WantsAt
    rw [hlenh.out,hadh.out]
    simpa using this)
   clear hown;go_wp2_with fail
   go_ret
   exact⟨_,rfl,hf.out,hX⟩
 · refine (hW _).mono ?_
   rintro e w3 ⟨v2,rfl,hr2,hx3⟩
   replace hown:=row_ext hown hx3;replace hX:=hX.trans hx3;clear hx3
   obtain⟨A,c,rfl,r1,r2,hV⟩:=hr2
   rw [List.length_replicate] at *
   have hfl:((List.replicate L (⟨-1,1⟩:Want)).flatMap wantVals).length=L*2:=by
    rw [List.length_flatMap]
    simp [wantVals]
   obtain⟨b,rfl,hb,hc⟩:=hV (by
    have hL0:=hLh.out hM1
    cases L with
    | zero=>exact absurd rfl hL0
    | succ L=>simp [wantVals,List.replicate])
   clear hV
   go_wp2_with (at_builtin;refine append_recs info_want Tryz.underlying102 rfl (by decide) (by decide) rfl _ _ rfl _ (2*M) _ ((List.replicate L (⟨-1,1⟩:Want)).flatMap wantVals) ⟨b,0,none⟩ L c hX hown rfl rfl hfl (fun i u hu=>by rw [Addr.add_lit,Nat.zero_add];exact hc i u hu) (fun u hu=>by
    obtain⟨q,_,hq⟩:=List.mem_flatMap.1 hu
    simp [wantVals] at hq;rcases hq with rfl | rfl <;> rfl) (by omega) (by omega) ?_)
   intro v' w' ho hx'
   have hf:Hid (WantsAt w' v' (adWants N)):=Hd (by
    have:=Recs.of_row ho
    unfold WantsAt
    rw [hlenh.out,hadh.out,List.flatMap_append]
    exact this)
   clear hown ho hc;go_wp2_with fail
   go_ret
   exact⟨_,rfl,hf.out,hx'⟩
end Go.Proofs.YtbaajjkopdjbgaaGreat
