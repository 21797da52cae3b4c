/-
  RwPlaysSaid: part 3 of its proof.
-/
import Derived.Test.YtbaajjkopdjbgaaGreatJRwPlaysSaid2
import Derived.Laws.StructEq
import Derived.ScopeJumps
import Derived.WalkMore
open Go.Value renaming int -> V
open Go.IntKind renaming i64 -> Z
namespace Go.Proofs.YtbaajjkopdjbgaaGreat
open Go.RowKit Kv
def encP (q:Int × Int):Value:=.agg #[V Z q.1,V Z q.2]
@[go_sem] theorem encP_eq (q:Int × Int):encP q=.agg #[V Z q.1,V Z q.2]:=rfl
theorem Held.set2 {ix:List Nat}{w:World}{p b:Nat}{u v:Value}{t:TypeId}(h:Held ix w p b (.cells #[u,v] t (0,0)))(u' v':Value):Held ix ((w.setCell ⟨b,0,none⟩ u').setCell ⟨b,1,none⟩ v') p b (.cells #[u',v'] t (0,0)):=by
 have h1:Held ix (w.setCell ⟨b,0,none⟩ u') p b (.cells #[u',v] t (0,0)):=⟨heap_setCell h.1 u',fun h'=>h.2 ((ownR_same ((OneB.setCell w b 0 u').block p (fun e=>h.2 (.inl e.symm))) b).1 h')⟩
 exact⟨heap_setCell h1.1 v',fun h'=>h1.2 ((ownR_same ((OneB.setCell _ b 1 v').block p (fun e=>h1.2 (.inl e.symm))) b).1 h')⟩
theorem OneB.set2 (w:World)(b:Nat)(u v:Value):OneB b w ((w.setCell ⟨b,0,none⟩ u).setCell ⟨b,1,none⟩ v) :=
 ⟨rfl,rfl,rfl,by simp,fun k hk=>(heap_setCell_ne _ v hk).trans (heap_setCell_ne w u hk)⟩
theorem manyRs_step (b l n top me:Int)(k:Nat)(j s v:Int):manyRs b l n top me (k+1) j s v=(tableR (manyB b n j) (manyL l n j) n j (manyTop top) me).bind fun y =>
   if s<=unHi y (clamp top 255) then manyRs b l n top me k (j+1) (unHi y (clamp top 255)) (unLo y (clamp top 255)) else manyRs b l n top me k (j+1) s v:=rfl
set_option maxHeartbeats 2000000 in
theorem greatest_p (B p:Nat)(S:TS)(r:Reg)(me:Int)(w:World)(h:Plays B w p S)(hn1:1<=r.n)(hn2:r.n<=8)(hm:0<=me/\me<r.n)(hb1:0<=r.base)(hb2:r.base<=50000)(hl1:0<=r.loc)(hl2:r.loc<=49000) :
  Calls Tryz.prog 330 #[.pointer (some ⟨p,0,none⟩),encR r,V Z me] w (Post encP B p w ((manyRs r.base r.loc r.n r.top me r.n.toNat 0 0 0).run S)):=by
 generalize hR:Post encP B p w ((manyRs r.base r.loc r.n r.top me r.n.toNat 0 0 0).run S)=R
 have hO:Owes R encP B p w ((manyRs r.base r.loc r.n r.top me r.n.toNat 0 0 0).run S):=hR▸owes _ _ _ _ _
 clear hR
 obtain⟨kind,base,loc,n,wr',rd,top⟩:=r
 simp only at hn1 hn2 hm hb1 hb2 hl1 hl2 hO
 unfold encR
 have hK:=Keep.refl [2,3,4] B p w
 have hP:=h
 have b1:=hP.held (.cells #[V Z kind,V Z base,V Z loc,V Z n,V Z wr',V Z rd,V Z top] 67)
 replace hK:=hK.trans (Keep.alloc (.cells #[V Z kind,V Z base,V Z loc,V Z n,V Z wr',V Z rd,V Z top] 67) hP.lt hP.le)
 replace hP:=hP.alloc (.cells #[V Z kind,V Z base,V Z loc,V Z n,V Z wr',V Z rd,V Z top] 67)
 have b2:=hP.held (.cells #[V Z 0,V Z 0] 226)
 simp only [World.size_alloc] at b2
 replace b1:=b1.alloc (.cells #[V Z 0,V Z 0] 226) hP.lt
 replace hK:=hK.trans (Keep.alloc (.cells #[V Z 0,V Z 0] 226) hP.lt hP.le)
 replace hP:=hP.alloc (.cells #[V Z 0,V Z 0] 226)
 have b3:=hP.held (.cells #[V Z 0,V Z 0] 226)
 simp only [World.size_alloc] at b3
 replace b1:=b1.alloc (.cells #[V Z 0,V Z 0] 226) hP.lt
 replace b2:=b2.alloc (.cells #[V Z 0,V Z 0] 226) hP.lt
 replace hK:=hK.trans (Keep.alloc (.cells #[V Z 0,V Z 0] 226) hP.lt hP.le)
 replace hP:=hP.alloc (.cells #[V Z 0,V Z 0] 226)
 have c_b1:=b1.cells;have c_b2:=b2.cells;have c_b3:=b3.cells
 have hBw:=Hd h.le
 clear h
 go_enter Tryz.func330,Tryz.ntmps330
 go_wp2_with fail
 refine (mthreads_p n _ hn1 hn2).mono ?_
 rintro e w' ⟨rfl,rfl⟩;go_wp2_with fail
 obtain⟨N,rfl⟩:∃ N:Nat,n=(N:Int):=⟨n.toNat,by omega⟩
 rw [Int.toNat_natCast] at hO
 go_loopw [14] (fun z wr=>∃ (j:Nat) (s v:Int) (S:TS),z=V Z j/\j<=N/\HeldP wr p w.heap.size (.cells #[V Z kind,V Z base,V Z loc,V Z (N:Int),V Z wr',V Z rd,V Z top] 67)/\HeldP wr p (w.heap.size+1) (.cells #[V Z 0,V Z 0] 226)/\HeldP wr p (w.heap.size+1+1) (.cells #[V Z s,V Z v] 226)/\Plays B wr p S/\KeepP B p w wr/\Owes R encP B p w ((manyRs base loc N top me (N-j) j s v).run S)) (fun z _=>N-(intOf z).toNat)
 case atStart=>exact⟨0,0,0,S,rfl,by omega,b1,b2,b3,hP,hK,hO⟩
 case round =>
  clear b1 b2 b3 c_b1 c_b2 c_b3 hO hP hK
  obtain⟨j,s,v,S,rfl,hj,b1,b2,b3,hP,hK,hO⟩:=hrel
  have c_b1:=b1.cells;have c_b2:=b2.cells;have c_b3:=b3.cells
  by_cases hlt:j<N
  · obtain⟨k,hk⟩:∃ k,N-j=k+1:=⟨N-j-1,by omega⟩
    have hkh:=Hd hk
    rw [hk,manyRs_step] at hO;clear hk
    have hm2:=many_bd N j hn1 hn2 (by omega)
    go_wp2_with fail
    replace hP:=hP.drew;replace hK:=hK.drew;replace b1:=b1.drew;replace b2:=b2.drew;replace b3:=b3.drew
    go_region_held2 (fun w'=>∀ i:Nat,w'.cell? ⟨w.heap.size,i,none⟩=(#[V Z kind,V Z base,V Z loc,V Z (N:Int),V Z wr',V Z rd,V Z top]:Array Value)[i]?) (first | exact c_b1 | go_keep)
     (first
       | (go_at_call 331
          refine (of_p ⟨kind,base,loc,N,wr',rd,top⟩ j _ hn1 hn2 (by simp only;omega) hb1 hb2 hl1 hl2).mono ?_
          rintro e w2 ⟨rfl,hx⟩
          clear c_b1 c_b2 c_b3;replace hK:=hK.trans (Keep.of_ext hx hP.lt hP.le);replace b1:=b1.ext hx hP.lt;have c_b1:=b1.cells;replace b2:=b2.ext hx hP.lt;have c_b2:=b2.cells;replace b3:=b3.ext hx hP.lt;have c_b3:=b3.cells;replace hP:=hP.ext hx
          clear hx)
       | (go_at_call 291
          refine tstep hO hK (table_read_p B p S ⟨6,manyB base N j,manyL loc N j,N,j,-1,manyTop top⟩ me _ hP hn1 hn2 (by simp only;omega) (by simp only;omega) hm (by simp only [manyB];omega) (by simp only [manyB];omega) (by simp only [manyL];omega) (by simp only [manyL];omega)) (fun _ h=>⟨rfl,h⟩) ?_
          clear hO hK hP c_b1 c_b2 c_b3;intro y S w1 hr hP hk hK hO;replace b1:=b1.keep hk;have c_b1:=b1.cells;replace b2:=b2.keep hk;have c_b2:=b2.cells;replace b3:=b3.keep hk;have c_b3:=b3.cells
          clear hk hr)
       | (go_at_call 332
          refine (mmost_p top _).mono ?_
          rintro e w' ⟨rfl,rfl⟩)
       | (go_at_call 337
          refine (unpack_x _ _ _).mono ?_
          rintro e w2 ⟨rfl,hx⟩
          clear c_b1 c_b2 c_b3;replace hK:=hK.trans (Keep.of_ext hx hP.lt hP.le);replace b1:=b1.ext hx hP.lt;have c_b1:=b1.cells;replace b2:=b2.ext hx hP.lt;have c_b2:=b2.cells;replace b3:=b3.ext hx hP.lt;have c_b3:=b3.cells;replace hP:=hP.ext hx
          clear hx))
    clear hm2
    generalize unHi y (clamp top 255)=hi at *
    generalize unLo y (clamp top 255)=lo at *
    have hks:=Hd hK.size
    by_cases hs:s<=hi
    · rw [if_pos hs] at hO
      have f_b3:=frozen_of_heap b3.1
      have hOh:=Hd hO
      have hPh:=Hd hP
      have hKh:=Hd hK
      clear hO hP hK;have n3:=b3.2;go_wp2_with fail
      have o3:=OneB.set2 w2 (w.heap.size+1+1) (V Z hi) (V Z lo)
      refine⟨⟨j+1,hi,lo,S,by go_num,by omega,b1.one o3 (by omega) n3,b2.one o3 (by omega) n3,b3.set2 _ _,hPh.out.one o3 n3 (by have:=hBw.out;omega),hKh.out.one o3 (by omega) n3 hBw.out,?_⟩,by simp [intOf];omega⟩
      rw [show N-(j+1)=k from by have:=hkh.out;omega,show ((j+1:Nat):Int)=(j:Int)+1 from by omega]
      exact hOh.out
    · rw [if_neg hs] at hO
      have hOh:=Hd hO
      have hPh:=Hd hP
      have hKh:=Hd hK
      clear hO hP hK;go_wp2_with fail
      refine⟨⟨j+1,s,v,S,by go_num,by omega,b1,b2,b3,hPh.out,hKh.out,?_⟩,by simp [intOf];omega⟩
      rw [show N-(j+1)=k from by have:=hkh.out;omega,show ((j+1:Nat):Int)=(j:Int)+1 from by omega]
      exact hOh.out
  · obtain rfl:j=N:=by omega
    rw [Nat.sub_self] at hO
    have f_b2:=frozen_of_heap b2.1
    have o2:=OneB.set2 wr (w.heap.size+1) (V Z s) (V Z v)
    have hf:R (.returned (encP (s,v))) _:=hO.done (hP.one o2 b2.2 (by have:=hBw.out;omega)) (hK.one o2 (by omega) b2.2 hBw.out)
    have hr:=(b2.set2 (V Z s) (V Z v)).cells
    clear hO o2;go_wp2_with fail
    exact bodyPost_ret (v:=.agg #[V Z s,V Z v]) (by simp [results,Tryz.results330,go_sem,hr]) rfl hf
theorem unHi_bd (y t:Int):0<=unHi y t/\unHi y t<=4398046511104:=by
 have h1:=unX_bd y
 have h2:=room_bd t
 unfold unHi
 exact⟨Int.ediv_nonneg h1.1 (by omega),Int.le_trans (Int.ediv_le_self _ h1.1) h1.2⟩
theorem manyRs_le (b l n top me:Int):∀ (k:Nat) (j s v:Int) (S:TS) (q:Int × Int) (S1:TS),(manyRs b l n top me k j s v).run S=(some q,S1)->0<=s/\s<=4398046511104->0<=q.1/\q.1<=4398046511104
 | 0,j,s,v,S,q,S1,h,hs=>by
   cases h
   exact hs
 | k+1,j,s,v,S,q,S1,h,hs=>by
   rw [manyRs_step,Prog.run_bind] at h
   generalize (tableR (manyB b n j) (manyL l n j) n j (manyTop top) me).run S=r at h
   obtain⟨o,S2⟩:=r
   cases o with
   | none=>cases h
   | some y =>
     simp only [thenR] at h
     split at h
     · exact manyRs_le b l n top me k _ _ _ _ _ _ h (unHi_bd _ _)
     · exact manyRs_le b l n top me k _ _ _ _ _ _ h hs
set_option maxRecDepth 100000 in
theorem many_write_p (B p:Nat)(S:TS)(r:Reg)(me v:Int)(w:World)(h:Plays B w p S)(hn1:1<=r.n)(hn2:r.n<=8)(hm:0<=me/\me<r.n)(hb1:0<=r.base)(hb2:r.base<=50000)(hl1:0<=r.loc)(hl2:r.loc<=49000) :
  Calls Tryz.prog 286 #[.pointer (some ⟨p,0,none⟩),encR r,V Z me,V Z v] w (Post encU B p w ((manyW r.base r.loc r.n r.top me v).run S)):=by
 generalize hR:Post encU B p w ((manyW r.base r.loc r.n r.top me v).run S)=R
 have hO:Owes R encU B p w ((manyW r.base r.loc r.n r.top me v).run S):=hR▸owes _ _ _ _ _
 clear hR
 obtain⟨kind,base,loc,n,wr,rd,top⟩:=r
 simp only at hn1 hn2 hm hb1 hb2 hl1 hl2 hO
 unfold encR
 obtain⟨b1,hK,hP⟩:=h.entry (.cells #[V Z kind,V Z base,V Z loc,V Z n,V Z wr,V Z rd,V Z top] 67)
 have c_b1:=b1.cells;clear h;unfold manyW at hO
 have hd1:decide (me<0)=false:=by simpa using hm.1
 have hd2:decide (n<=me)=false:=by simpa using hm.2
 go_enter Tryz.func286,Tryz.ntmps286
 go_wp2_with fail
 refine (mthreads_p n _ hn1 hn2).mono ?_
 rintro e w' ⟨rfl,rfl⟩;go_wp2_with fail
 refine tstep hO hK (greatest_p B p S ⟨kind,base,loc,n,wr,rd,top⟩ me _ hP hn1 hn2 hm hb1 hb2 hl1 hl2) (fun _ h=>⟨rfl,h⟩) ?_
 clear hO hK hP c_b1;intro q S w1 hr hP hk hK hO;replace b1:=b1.keep hk;have c_b1:=b1.cells
 have hq:=manyRs_le _ _ _ _ _ _ _ _ _ _ _ _ hr (by omega)
 obtain⟨q1,q2⟩:=q
 simp only at hq hO
 have hq1:=IntWalk.i64_in (q1+1) (by omega)
 have hm2:=many_bd n me hn1 hn2 hm
 clear hk hr
 have hfd:∀ w:World,(Instr.field 226 (.agg #[V Z q1,V Z q2]) 0).run Tryz.prog w=.ok (V Z q1) w:=fun _=>by kernel_rfl
 rw [encP_eq]
 go_wp2_with fail
 replace hP:=hP.drew;replace hK:=hK.drew;replace b1:=b1.drew
 go_region_held2 (fun w'=>∀ i:Nat,w'.cell? ⟨w.heap.size,i,none⟩=(#[V Z kind,V Z base,V Z loc,V Z n,V Z wr,V Z rd,V Z top]:Array Value)[i]?) (first | exact c_b1 | go_keep)
  (first
    | (go_at_call 331
       refine (of_p ⟨kind,base,loc,n,wr,rd,top⟩ me _ hn1 hn2 (by simp only;omega) hb1 hb2 hl1 hl2).mono ?_
       rintro e w2 ⟨rfl,hx⟩
       clear c_b1;replace hK:=hK.trans (Keep.of_ext hx hP.lt hP.le);replace b1:=b1.ext hx hP.lt;have c_b1:=b1.cells;replace hP:=hP.ext hx
       clear hx)
    | (go_at_call 332
       refine (mmost_p top _).mono ?_
       rintro e w' ⟨rfl,rfl⟩)
    | (go_at_call 311
       refine (clamp_p _ _ _).mono ?_
       rintro e w' ⟨rfl,rfl⟩)
    | (go_at_call 327
       refine (pack_p _ _ _ _).mono ?_
       rintro e w' ⟨rfl,rfl⟩)
    | (go_at_call 285
       refine tlast hO hK (table_write_p B p S ⟨6,manyB base n me,manyL loc n me,n,me,-1,manyTop top⟩ me _ _ hP hn1 hn2 (by simp only;omega) (by simp only;omega) (by simp only [manyB];omega) (by simp only [manyB];omega) (by simp only [manyL];omega) (by simp only [manyL];omega)) (fun _ h=>⟨rfl,h⟩) ?_
       clear hO hK hP c_b1;intro y S w1 hr hP hk hK hO;replace b1:=b1.keep hk;have c_b1:=b1.cells
       clear hk hr))
 go_wp2_with fail
 first | go_end0 | refine bodyPost_ret (results_none rfl _ _ _) rfl ?_
 exact hO.done hP hK
set_option maxRecDepth 100000 in
theorem many_read_p (B p:Nat)(S:TS)(r:Reg)(me:Int)(w:World)(h:Plays B w p S)(hn1:1<=r.n)(hn2:r.n<=8)(hm:0<=me/\me<r.n)(hb1:0<=r.base)(hb2:r.base<=50000)(hl1:0<=r.loc)(hl2:r.loc<=49000) :
  Calls Tryz.prog 292 #[.pointer (some ⟨p,0,none⟩),encR r,V Z me] w (Post encI B p w ((manyR r.base r.loc r.n r.top me).run S)):=by
 generalize hR:Post encI B p w ((manyR r.base r.loc r.n r.top me).run S)=R
 have hO:Owes R encI B p w ((manyR r.base r.loc r.n r.top me).run S):=hR▸owes _ _ _ _ _
 clear hR
 obtain⟨kind,base,loc,n,wr,rd,top⟩:=r
 simp only at hn1 hn2 hm hb1 hb2 hl1 hl2 hO
 unfold encR
 obtain⟨b1,hK,hP⟩:=h.entry (.cells #[V Z kind,V Z base,V Z loc,V Z n,V Z wr,V Z rd,V Z top] 67)
 have c_b1:=b1.cells;clear h;unfold manyR at hO
 have hd1:decide (me<0)=false:=by simpa using hm.1
 have hd2:decide (n<=me)=false:=by simpa using hm.2
 go_enter Tryz.func292,Tryz.ntmps292
 go_wp2_with fail
 refine (mthreads_p n _ hn1 hn2).mono ?_
 rintro e w' ⟨rfl,rfl⟩;go_wp2_with fail
 refine tstep hO hK (greatest_p B p S ⟨kind,base,loc,n,wr,rd,top⟩ me _ hP hn1 hn2 hm hb1 hb2 hl1 hl2) (fun _ h=>⟨rfl,h⟩) ?_
 clear hO hK hP c_b1;intro q S w1 hr hP hk hK hO;replace b1:=b1.keep hk;have c_b1:=b1.cells;clear hk hr
 obtain⟨q1,q2⟩:=q
 simp only at hO
 have hfd:∀ w:World,(Instr.field 226 (.agg #[V Z q1,V Z q2]) 1).run Tryz.prog w=.ok (V Z q2) w:=fun _=>by kernel_rfl
 rw [encP_eq]
 go_wp2_with fail
 exact hO.done hP hK
theorem pack_clamp255 (a v top:Int):packI a (clamp v (clamp top 255)) (clamp top 255)=packI a v (clamp top 255):=by
 have h:0<=clamp top 255/\clamp top 255<=255:=by unfold clamp within;omega
 generalize clamp top 255=T at *
 unfold packI
 congr 1
 unfold room clamp within
 omega
set_option maxRecDepth 100000 in
set_option maxHeartbeats 4000000 in
theorem many_read_r (B p:Nat)(o:Bool)(S:TS)(r:Reg)(me:Int)(w:World)(h:RAt B w p o S)(hn1:1<=r.n)(hn2:r.n<=8)(hm:0<=me/\me<r.n)(hb1:0<=r.base)(hb2:r.base<=50000)(hl1:0<=r.loc)(hl2:r.loc<=49000) :
  Calls Tryz.prog 262 #[.pointer (some ⟨p,0,none⟩),encR r,V Z me] w (RPost encI B p w (manyR r.base r.loc r.n r.top me) o S):=by
 generalize hR:RPost encI B p w (manyR r.base r.loc r.n r.top me) o S=R
 have hO:ROwes R encI B p w (manyR r.base r.loc r.n r.top me) o S:=hR▸rowes _ _ _ _ _ _ _
 clear hR
 obtain⟨kind,base,loc,n,wt,rd,top⟩:=r
 simp only at hn1 hn2 hm hb1 hb2 hl1 hl2 hO
 obtain⟨N,rfl⟩:∃ N:Nat,n=(N:Int):=⟨n.toNat,by omega⟩
 unfold encR
 obtain⟨b1,hK,hP⟩:=h.entry (.cells #[V Z kind,V Z base,V Z loc,V Z (N:Int),V Z wt,V Z rd,V Z top] 67)
 have c_b1:=b1.cells;clear h;unfold manyR at hO;rw [Int.toNat_natCast] at hO
 have h0:=allA_many base loc N top me N 0 []
 simp only [List.foldl_nil] at h0
 rw [<- h0,Prog.bind_assoc] at hO
 simp only [Prog.bind_ret] at hO
 clear h0
 have hd1:decide (me<0)=false:=by simpa using hm.1
 have hd2:decide ((N:Int)<=me)=false:=by simpa using hm.2
 go_enter Tryz.func262,Tryz.ntmps262
 go_wp2_with fail
 refine (rn_r ⟨kind,base,loc,(N:Int),wt,rd,top⟩ _ hn1 hn2).mono ?_
 rintro e w2 ⟨rfl,hx⟩
 clear c_b1;replace hK:=hK.trans (Keep.of_ext hx hP.lt hP.le);replace b1:=b1.ext hx hP.lt;have c_b1:=b1.cells;replace hP:=hP.ext hx;clear hx;go_wp2_with fail
 refine (all_r B p o S ⟨kind,base,loc,(N:Int),wt,rd,top⟩ me _ hP hn1 hn2 hm hb1 hb2 hl1 hl2).mono ?_
 rintro e w1 ⟨A,c,l,o1,S1,rfl,hr,hP1,hk,hI,hlen⟩
 simp only [Int.toNat_natCast] at hr hlen
 replace hO:=hO.then hr;replace hK:=hK.trans hk;clear c_b1 hP hr;replace b1:=b1.keep hk;have c_b1:=b1.cells;have hP:=hP1;clear hP1 hk
 generalize hQ:List.foldl (stepM (clamp top 255)) (0,0) l=Q at *
 have hQh:=Hd hQ
 have hOh:=Hd hO
 have hlh:=Hd hlen
 clear hQ hO
 simp only [hlen] at hI ⊢
 clear hlen;go_wp2_with fail
 go_loopw [8,9,10] (fun sv xv z wr'=>∃ (j:Nat) (s v:Int),z=V Z j/\j<=N/\sv=V Z s/\xv=V Z v/\0<=s/\s<=4398046511104/\Ints wr' (.slice A N c) l/\HeldR wr' p w.heap.size (.cells #[V Z kind,V Z base,V Z loc,V Z (N:Int),V Z wt,V Z rd,V Z top] 67)/\RAt B wr' p o1 S1/\KeepR B p w wr'/\Hid ((l.drop j).foldl (stepM (clamp top 255)) (s,v)=Q)) (fun sv xv z _=>N-(intOf z).toNat)
 case atStart=>exact⟨0,0,0,rfl,by omega,rfl,rfl,by omega,by omega,hI,b1,hP,hK,by rw [List.drop_zero];exact hQh.out⟩
 case round =>
  clear hI b1 c_b1 hP hK hQh
  obtain⟨j,s,v',rfl,hj,rfl,rfl,hs0,hs1,hI,b1,hP,hK,hF⟩:=hrel
  have c_b1:=b1.cells
  by_cases hjn:j<N
  · obtain⟨bk,off,rfl,hbk,hcell⟩:=hI.at_ hjn
    have hFs:Hid ((l.drop (j+1)).foldl (stepM (clamp top 255)) (stepM (clamp top 255) (s,v') (l.getD j 0))=Q):=by
     have h:=hF.out
     have hjl:j<l.length:=by rw [hlh.out];exact hjn
     rw [List.drop_eq_getElem_cons hjl,List.foldl_cons] at h
     have e:l.getD j 0=l[j]:=by simp [List.getD,hjl]
     rw [e]
     exact h
    clear hF
    generalize l.getD j 0=E at *
    go_wp2_with fail
    replace hP:=hP.drew;replace hK:=hK.drew;replace b1:=b1.drew
    replace hI:=hI.ext (Ext.refl _).drew
    go_region_held2 (fun w'=>(∀ i:Nat,w'.cell? ⟨w.heap.size,i,none⟩=(#[V Z kind,V Z base,V Z loc,V Z (N:Int),V Z wt,V Z rd,V Z top]:Array Value)[i]?)/\w'.cell? ⟨bk,off+j,none⟩=some (V Z E)) (first | with_reducible exact⟨c_b1,hcell⟩ | go_keep)
     (first
       | (go_at_call 306
          refine (top_r ⟨kind,base,loc,(N:Int),wt,rd,top⟩ _).mono ?_
          rintro e w2 ⟨rfl,hx⟩
          clear c_b1;replace hK:=hK.trans (Keep.of_ext hx hP.lt hP.le);replace b1:=b1.ext hx hP.lt;have c_b1:=b1.cells
          replace hcell:=(hx.cell (p:=⟨bk,off+j,none⟩) hbk).trans hcell
          replace hbk:=Nat.lt_of_lt_of_le hbk hx.size;replace hI:=hI.ext hx;replace hP:=hP.ext hx
          clear hx)
       | (go_at_call 305
          refine (unpack_rx _ _ _).mono ?_
          rintro e w2 ⟨rfl,hx⟩
          clear c_b1;replace hK:=hK.trans (Keep.of_ext hx hP.lt hP.le);replace b1:=b1.ext hx hP.lt;have c_b1:=b1.cells
          replace hcell:=(hx.cell (p:=⟨bk,off+j,none⟩) hbk).trans hcell
          replace hbk:=Nat.lt_of_lt_of_le hbk hx.size;replace hI:=hI.ext hx;replace hP:=hP.ext hx
          clear hx))
    have ht:=unHi_bd E (clamp top 255)
    unfold stepM at hFs
    simp only at hFs
    generalize unHi E (clamp top 255)=t at *
    generalize unLo E (clamp top 255)=y at *
    have hPh:=Hd hP
    have hKh:=Hd hK
    clear hP hK hcell
    by_cases hst:s<=t
    · have hF2:Hid ((l.drop (j+1)).foldl (stepM (clamp top 255)) (t,y)=Q):=by have h:=hFs.out;rw [if_pos hst] at h;exact h
      clear hFs;go_wp2_with fail
      exact⟨⟨j+1,t,y,by go_num,by omega,rfl,rfl,ht.1,ht.2,hI,b1,hPh.out,hKh.out,hF2⟩,by simp [intOf];omega⟩
    · have hF2:Hid ((l.drop (j+1)).foldl (stepM (clamp top 255)) (s,v')=Q):=by have h:=hFs.out;rw [if_neg hst] at h;exact h
      clear hFs;go_wp2_with fail
      exact⟨⟨j+1,s,v',by go_num,by omega,rfl,rfl,hs0,hs1,hI,b1,hPh.out,hKh.out,hF2⟩,by simp [intOf];omega⟩
  · obtain rfl:N=j:=by omega
    have hq:(s,v')=Q:=by
     have h:=hF.out
     rw [List.drop_eq_nil_of_le (by rw [hlh.out];exact Nat.le_refl _)] at h
     exact h
    have hO:=hOh.out
    rw [<- hq] at hO
    clear hq hOh hF hI hlh
    have hf:R (.returned (encI v')) wr:=hO.ret hP hK
    clear hO hP hK;go_wp2_with fail
    exact hf
set_option maxRecDepth 100000 in
set_option maxHeartbeats 4000000 in
theorem many_write_r (B p:Nat)(o:Bool)(S:TS)(r:Reg)(me v:Int)(w:World)(h:RAt B w p o S)(hn1:1<=r.n)(hn2:r.n<=8)(hm:0<=me/\me<r.n)(hb1:0<=r.base)(hb2:r.base<=50000)(hl1:0<=r.loc)(hl2:r.loc<=49000) :
  Calls Tryz.prog 256 #[.pointer (some ⟨p,0,none⟩),encR r,V Z me,V Z v] w (RPost encU B p w (manyW r.base r.loc r.n r.top me v) o S):=by
 generalize hR:RPost encU B p w (manyW r.base r.loc r.n r.top me v) o S=R
 have hO:ROwes R encU B p w (manyW r.base r.loc r.n r.top me v) o S:=hR▸rowes _ _ _ _ _ _ _
 clear hR
 obtain⟨kind,base,loc,n,wt,rd,top⟩:=r
 simp only at hn1 hn2 hm hb1 hb2 hl1 hl2 hO
 obtain⟨N,rfl⟩:∃ N:Nat,n=(N:Int):=⟨n.toNat,by omega⟩
 unfold encR
 obtain⟨b1,hK,hP⟩:=h.entry (.cells #[V Z kind,V Z base,V Z loc,V Z (N:Int),V Z wt,V Z rd,V Z top] 67)
 have c_b1:=b1.cells;clear h;unfold manyW at hO;rw [Int.toNat_natCast] at hO
 have h0:=allA_many base loc N top me N 0 []
 simp only [List.foldl_nil] at h0
 rw [<- h0,Prog.bind_assoc] at hO
 simp only [Prog.bind_ret] at hO
 clear h0
 have hd1:decide (me<0)=false:=by simpa using hm.1
 have hd2:decide ((N:Int)<=me)=false:=by simpa using hm.2
 go_enter Tryz.func256,Tryz.ntmps256
 go_wp2_with fail
 refine (rn_r ⟨kind,base,loc,(N:Int),wt,rd,top⟩ _ hn1 hn2).mono ?_
 rintro e w2 ⟨rfl,hx⟩
 clear c_b1;replace hK:=hK.trans (Keep.of_ext hx hP.lt hP.le);replace b1:=b1.ext hx hP.lt;have c_b1:=b1.cells;replace hP:=hP.ext hx;clear hx;go_wp2_with fail
 refine (all_r B p o S ⟨kind,base,loc,(N:Int),wt,rd,top⟩ me _ hP hn1 hn2 hm hb1 hb2 hl1 hl2).mono ?_
 rintro e w1 ⟨A,c,l,o1,S1,rfl,hr,hP1,hk,hI,hlen⟩
 simp only [Int.toNat_natCast] at hr hlen
 replace hO:=hO.then hr;replace hK:=hK.trans hk;clear c_b1 hP hr;replace b1:=b1.keep hk;have c_b1:=b1.cells;have hP:=hP1;clear hP1 hk
 generalize hQ:List.foldl (stepM (clamp top 255)) (0,0) l=Q at *
 have hQh:=Hd hQ
 have hOh:=Hd hO
 have hlh:=Hd hlen
 clear hQ hO
 simp only [hlen] at hI ⊢
 clear hlen;go_wp2_with fail
 go_loopw [9,10] (fun sv z wr'=>∃ (j:Nat) (s v:Int),z=V Z j/\j<=N/\sv=V Z s/\0<=s/\s<=4398046511104/\Ints wr' (.slice A N c) l/\HeldR wr' p w.heap.size (.cells #[V Z kind,V Z base,V Z loc,V Z (N:Int),V Z wt,V Z rd,V Z top] 67)/\RAt B wr' p o1 S1/\KeepR B p w wr'/\Hid ((l.drop j).foldl (stepM (clamp top 255)) (s,v)=Q)) (fun sv z _=>N-(intOf z).toNat)
 case atStart=>exact⟨0,0,0,rfl,by omega,rfl,by omega,by omega,hI,b1,hP,hK,by rw [List.drop_zero];exact hQh.out⟩
 case round =>
  clear hI b1 c_b1 hP hK hQh
  obtain⟨j,s,v',rfl,hj,rfl,hs0,hs1,hI,b1,hP,hK,hF⟩:=hrel
  have c_b1:=b1.cells
  by_cases hjn:j<N
  · obtain⟨bk,off,rfl,hbk,hcell⟩:=hI.at_ hjn
    have hFs:Hid ((l.drop (j+1)).foldl (stepM (clamp top 255)) (stepM (clamp top 255) (s,v') (l.getD j 0))=Q):=by
     have h:=hF.out
     have hjl:j<l.length:=by rw [hlh.out];exact hjn
     rw [List.drop_eq_getElem_cons hjl,List.foldl_cons] at h
     have e:l.getD j 0=l[j]:=by simp [List.getD,hjl]
     rw [e]
     exact h
    clear hF
    generalize l.getD j 0=E at *
    go_wp2_with fail
    replace hP:=hP.drew;replace hK:=hK.drew;replace b1:=b1.drew
    replace hI:=hI.ext (Ext.refl _).drew
    go_region_held2 (fun w'=>(∀ i:Nat,w'.cell? ⟨w.heap.size,i,none⟩=(#[V Z kind,V Z base,V Z loc,V Z (N:Int),V Z wt,V Z rd,V Z top]:Array Value)[i]?)/\w'.cell? ⟨bk,off+j,none⟩=some (V Z E)) (first | with_reducible exact⟨c_b1,hcell⟩ | go_keep)
     (first
       | (go_at_call 306
          refine (top_r ⟨kind,base,loc,(N:Int),wt,rd,top⟩ _).mono ?_
          rintro e w2 ⟨rfl,hx⟩
          clear c_b1;replace hK:=hK.trans (Keep.of_ext hx hP.lt hP.le);replace b1:=b1.ext hx hP.lt;have c_b1:=b1.cells
          replace hcell:=(hx.cell (p:=⟨bk,off+j,none⟩) hbk).trans hcell
          replace hbk:=Nat.lt_of_lt_of_le hbk hx.size;replace hI:=hI.ext hx;replace hP:=hP.ext hx
          clear hx)
       | (go_at_call 305
          refine (unpack_rx _ _ _).mono ?_
          rintro e w2 ⟨rfl,hx⟩
          clear c_b1;replace hK:=hK.trans (Keep.of_ext hx hP.lt hP.le);replace b1:=b1.ext hx hP.lt;have c_b1:=b1.cells
          replace hcell:=(hx.cell (p:=⟨bk,off+j,none⟩) hbk).trans hcell
          replace hbk:=Nat.lt_of_lt_of_le hbk hx.size;replace hI:=hI.ext hx;replace hP:=hP.ext hx
          clear hx))
    have ht:=unHi_bd E (clamp top 255)
    unfold stepM at hFs
    simp only at hFs
    generalize unHi E (clamp top 255)=t at *
    generalize unLo E (clamp top 255)=y at *
    have hPh:=Hd hP
    have hKh:=Hd hK
    clear hP hK hcell
    by_cases hst:s<t
    · have hF2:Hid ((l.drop (j+1)).foldl (stepM (clamp top 255)) (t,y)=Q):=by have h:=hFs.out;rw [if_pos (by omega)] at h;exact h
      clear hFs;go_wp2_with fail
      exact⟨⟨j+1,t,y,by go_num,by omega,rfl,ht.1,ht.2,hI,b1,hPh.out,hKh.out,hF2⟩,by simp [intOf];omega⟩
    · have hF2:∃ u,Hid ((l.drop (j+1)).foldl (stepM (clamp top 255)) (s,u)=Q):=by
       have h:=hFs.out
       by_cases e:s<=t
       · rw [if_pos e,show t=s by omega] at h;exact⟨y,h⟩
       · rw [if_neg e] at h;exact⟨v',h⟩
      obtain⟨u,hF2⟩:=hF2
      clear hFs;go_wp2_with fail
      exact⟨⟨j+1,s,u,by go_num,by omega,rfl,hs0,hs1,hI,b1,hPh.out,hKh.out,hF2⟩,by simp [intOf];omega⟩
  · obtain rfl:N=j:=by omega
    have hq:(s,v')=Q:=by
     have h:=hF.out
     rw [List.drop_eq_nil_of_le (by rw [hlh.out];exact Nat.le_refl _)] at h
     exact h
    have hO:=hOh.out
    rw [<- hq] at hO
    clear hq hOh hF hI hlh
    simp only at hO
    rw [pack_clamp255] at hO
    have hmb:=many_bd N me hn1 hn2 hm
    obtain⟨_,_,_,_,_,hcc⟩:=hP.cell
    have hmin:(if s<4095 then s+1 else 4095)=min (s+1) 4095:=by split <;> omega
    generalize hM:min (s+1) 4095=M at *
    cases o1 with
    | true =>
      have hf:R (.returned (encU ())) wr:=hO.over () hP hK
      clear hO hP hK hmb
      by_cases hs:s<4095
      · go_wp2_with fail
        first | go_end0 | refine bodyPost_ret (results_none rfl _ _ _) rfl ?_
        exact hf
      · go_wp2_with fail
        first | go_end0 | refine bodyPost_ret (results_none rfl _ _ _) rfl ?_
        exact hf
    | false =>
      by_cases hs:s<4095
      · obtain rfl:s+1=M:=by rw [if_pos hs] at hmin;exact hmin
        clear hM hmin;go_wp2_with fail
        clear hcc;replace hP:=hP.drew;replace hK:=hK.drew;replace b1:=b1.drew
        go_region_held2 (fun w'=>∀ i:Nat,w'.cell? ⟨w.heap.size,i,none⟩=(#[V Z kind,V Z base,V Z loc,V Z (N:Int),V Z wt,V Z rd,V Z top]:Array Value)[i]?) (first | with_reducible exact c_b1 | go_keep)
         (first
           | (go_at_call 307
              refine (number_rm ⟨kind,base,loc,(N:Int),wt,rd,top⟩ me _ hn1 hn2 hm hb1 hb2 hl1 hl2).mono ?_
              rintro e w2 ⟨rfl,hx⟩
              clear c_b1;replace hK:=hK.trans (Keep.of_ext hx hP.lt hP.le);replace b1:=b1.ext hx hP.lt;have c_b1:=b1.cells;replace hP:=hP.ext hx
              clear hx)
           | (go_at_call 306
              refine (top_r ⟨kind,base,loc,(N:Int),wt,rd,top⟩ _).mono ?_
              rintro e w2 ⟨rfl,hx⟩
              clear c_b1;replace hK:=hK.trans (Keep.of_ext hx hP.lt hP.le);replace b1:=b1.ext hx hP.lt;have c_b1:=b1.cells;replace hP:=hP.ext hx
              clear hx)
           | (go_at_call 301
              refine (pack_r _ _ _ _).mono ?_
              rintro e w' ⟨rfl,rfl⟩)
           | (go_at_call 255
              refine rlast hO hK (table_write_r B p false S1 ⟨0,manyB base N me,manyL loc N me,N,me,0,manyTop top⟩ me _ _ hP hn1 hn2 (by simp only;omega) (by simp only;omega) (by simp only [manyB];omega) (by simp only [manyB];omega) (by simp only [manyL];omega) (by simp only [manyL];omega)) ?_
              clear hO hK hP c_b1;intro u o S w1 hP hk hK hO;replace b1:=b1.keep hk;have c_b1:=b1.cells
              clear hk))
        go_wp2_with fail
        first | go_end0 | refine bodyPost_ret (results_none rfl _ _ _) rfl ?_
        exact hO.ret hP hK
      · obtain rfl:4095=M:=by rw [if_neg hs] at hmin;exact hmin
        clear hM hmin;go_wp2_with fail
        clear hcc;replace hP:=hP.drew;replace hK:=hK.drew;replace b1:=b1.drew
        go_region_held2 (fun w'=>∀ i:Nat,w'.cell? ⟨w.heap.size,i,none⟩=(#[V Z kind,V Z base,V Z loc,V Z (N:Int),V Z wt,V Z rd,V Z top]:Array Value)[i]?) (first | with_reducible exact c_b1 | go_keep)
         (first
           | (go_at_call 307
              refine (number_rm ⟨kind,base,loc,(N:Int),wt,rd,top⟩ me _ hn1 hn2 hm hb1 hb2 hl1 hl2).mono ?_
              rintro e w2 ⟨rfl,hx⟩
              clear c_b1;replace hK:=hK.trans (Keep.of_ext hx hP.lt hP.le);replace b1:=b1.ext hx hP.lt;have c_b1:=b1.cells;replace hP:=hP.ext hx
              clear hx)
           | (go_at_call 306
              refine (top_r ⟨kind,base,loc,(N:Int),wt,rd,top⟩ _).mono ?_
              rintro e w2 ⟨rfl,hx⟩
              clear c_b1;replace hK:=hK.trans (Keep.of_ext hx hP.lt hP.le);replace b1:=b1.ext hx hP.lt;have c_b1:=b1.cells;replace hP:=hP.ext hx
              clear hx)
           | (go_at_call 301
              refine (pack_r _ _ _ _).mono ?_
              rintro e w' ⟨rfl,rfl⟩)
           | (go_at_call 255
              refine rlast hO hK (table_write_r B p false S1 ⟨0,manyB base N me,manyL loc N me,N,me,0,manyTop top⟩ me _ _ hP hn1 hn2 (by simp only;omega) (by simp only;omega) (by simp only [manyB];omega) (by simp only [manyB];omega) (by simp only [manyL];omega) (by simp only [manyL];omega)) ?_
              clear hO hK hP c_b1;intro u o S w1 hP hk hK hO;replace b1:=b1.keep hk;have c_b1:=b1.cells
              clear hk))
        go_wp2_with fail
        first | go_end0 | refine bodyPost_ret (results_none rfl _ _ _) rfl ?_
        exact hO.ret hP hK
set_option maxRecDepth 100000 in
set_option maxHeartbeats 2000000 in
theorem reg_write_r (B p:Nat)(o:Bool)(S:TS)(r:Reg)(me v:Int)(w:World)(h:RAt B w p o S)(hr:r.ok)(hm:0<=me/\me<r.n) :
  Calls Tryz.prog 202 #[.pointer (some ⟨p,0,none⟩),encR r,V Z me,V Z v] w (RPost encU B p w (regW r me v) o S):=by
 generalize hR:RPost encU B p w (regW r me v) o S=R
 have hO:ROwes R encU B p w (regW r me v) o S:=hR▸rowes _ _ _ _ _ _ _
 clear hR
 obtain⟨hk,hb,hl,hn,hw⟩:=hr
 obtain⟨kind,base,loc,n,wr,rd,top⟩:=r
 simp only at hk hb hl hn hw hm hO
 unfold encR
 obtain⟨b1,hK,hP⟩:=h.entry (.cells #[V Z kind,V Z base,V Z loc,V Z n,V Z wr,V Z rd,V Z top] 67)
 have c_b1:=b1.cells;clear h;unfold regW at hO
 simp only at hO
 rcases hk with rfl | rfl | rfl
 · simp at hO
   go_enter Tryz.func202,Tryz.ntmps202
   go_wp2_with fail
   refine rlast hO hK (write_r B p o S _ _ _ hP) ?_
   clear hO hK hP c_b1;intro u o S w1 hP hk hK hO;replace b1:=b1.keep hk;have c_b1:=b1.cells;clear hk;go_wp2_with fail
   first | go_end0 | refine bodyPost_ret (results_none rfl _ _ _) rfl ?_
   exact hO.ret hP hK
 · simp at hO
   obtain⟨hw1,hw2⟩:=hw rfl
   clear hw
   go_enter Tryz.func202,Tryz.ntmps202
   go_wp2_with fail
   refine rlast hO hK (table_write_r B p o S ⟨6,base,loc,n,wr,rd,top⟩ me v _ hP hn.1 hn.2 hw1 hw2 hb.1 (by simp only;omega) hl.1 (by simp only;omega)) ?_
   clear hO hK hP c_b1;intro u o S w1 hP hk hK hO;replace b1:=b1.keep hk;have c_b1:=b1.cells;clear hk;go_wp2_with fail
   first | go_end0 | refine bodyPost_ret (results_none rfl _ _ _) rfl ?_
   exact hO.ret hP hK
 · simp at hO
   go_enter Tryz.func202,Tryz.ntmps202
   go_wp2_with fail
   refine rlast hO hK (many_write_r B p o S ⟨7,base,loc,n,wr,rd,top⟩ me v _ hP hn.1 hn.2 hm hb.1 (by simp only;omega) hl.1 (by simp only;omega)) ?_
   clear hO hK hP c_b1;intro u o S w1 hP hk hK hO;replace b1:=b1.keep hk;have c_b1:=b1.cells;clear hk;go_wp2_with fail
   first | go_end0 | refine bodyPost_ret (results_none rfl _ _ _) rfl ?_
   exact hO.ret hP hK
set_option maxRecDepth 100000 in
set_option maxHeartbeats 2000000 in
theorem reg_read_r (B p:Nat)(o:Bool)(S:TS)(r:Reg)(me:Int)(w:World)(h:RAt B w p o S)(hr:r.ok)(hm:0<=me/\me<r.n) :
  Calls Tryz.prog 204 #[.pointer (some ⟨p,0,none⟩),encR r,V Z me] w (RPost encI B p w (regR r me) o S):=by
 generalize hR:RPost encI B p w (regR r me) o S=R
 have hO:ROwes R encI B p w (regR r me) o S:=hR▸rowes _ _ _ _ _ _ _
 clear hR
 obtain⟨hk,hb,hl,hn,hw⟩:=hr
 obtain⟨kind,base,loc,n,wr,rd,top⟩:=r
 simp only at hk hb hl hn hw hm hO
 unfold encR
 obtain⟨b1,hK,hP⟩:=h.entry (.cells #[V Z kind,V Z base,V Z loc,V Z n,V Z wr,V Z rd,V Z top] 67)
 have c_b1:=b1.cells;clear h;unfold regR at hO
 simp only at hO
 rcases hk with rfl | rfl | rfl
 · simp at hO
   go_enter Tryz.func204,Tryz.ntmps204
   go_wp2_with fail
   refine rlast hO hK (read_r B p o S _ _ hP) ?_
   clear hO hK hP c_b1;intro x o S w1 hP hk hK hO;replace b1:=b1.keep hk;have c_b1:=b1.cells;clear hk;go_wp2_with fail
   exact hO.ret hP hK
 · simp at hO
   obtain⟨hw1,hw2⟩:=hw rfl
   clear hw
   go_enter Tryz.func204,Tryz.ntmps204
   go_wp2_with fail
   refine rlast hO hK (table_read_r B p o S ⟨6,base,loc,n,wr,rd,top⟩ me _ hP hn.1 hn.2 hw1 hw2 hm hb.1 (by simp only;omega) hl.1 (by simp only;omega)) ?_
   clear hO hK hP c_b1;intro x o S w1 hP hk hK hO;replace b1:=b1.keep hk;have c_b1:=b1.cells;clear hk;go_wp2_with fail
   exact hO.ret hP hK
 · simp at hO
   go_enter Tryz.func204,Tryz.ntmps204
   go_wp2_with fail
   refine rlast hO hK (many_read_r B p o S ⟨7,base,loc,n,wr,rd,top⟩ me _ hP hn.1 hn.2 hm hb.1 (by simp only;omega) hl.1 (by simp only;omega)) ?_
   clear hO hK hP c_b1;intro x o S w1 hP hk hK hO;replace b1:=b1.keep hk;have c_b1:=b1.cells;clear hk;go_wp2_with fail
   exact hO.ret hP hK
end Go.Proofs.YtbaajjkopdjbgaaGreat
namespace Kv
open Go Go.RowKit
def passM (x y:Reg) (me:Int):Prog Int :=
 (regW x me (me+1)).bind fun _=>(regR y me).bind fun v=>if v≠0 then .ret 1 else
   (regW y me 1).bind fun _=>(regR x me).bind fun v=>if v=me+1 then .ret 0 else .ret 2
end Kv
namespace Go.Proofs.YtbaajjkopdjbgaaGreat
open Go.RowKit Kv
def regVals (r:Reg):List Value:=[V Z r.kind,V Z r.base,V Z r.loc,V Z r.n,V Z r.wr,V Z r.rd,V Z r.top]
structure RegsAt (ix:List Nat) (w:World) (p b:Nat) (l:List Reg):Prop where
 lt:b<w.heap.size
 own:¬ ownR ix w p b
 cells:∀ j u,(l.flatMap regVals)[j]?=some u->w.cell? ⟨b,j,none⟩=some u
theorem RegsAt.keep {ix:List Nat}{B p b:Nat}{w w':World}{l:List Reg}(h:RegsAt ix w p b l)(k:Keep ix B p w w'):RegsAt ix w' p b l:=by
 obtain⟨h1,h2⟩:=k.rest b h.lt h.own
 exact⟨Nat.lt_of_lt_of_le h.lt k.size,h2,fun j u hu=>(World.cell?_of_block (w:=w) (a:=⟨b,j,none⟩) h1).trans (h.cells j u hu)⟩
theorem RegsAt.two {ix:List Nat}{p b:Nat}{w:World}{x y:Reg}(h:RegsAt ix w p b [x,y]) :
  (w.cell? ⟨b,0,none⟩=some (V Z x.kind)/\w.cell? ⟨b,1,none⟩=some (V Z x.base)/\w.cell? ⟨b,2,none⟩=some (V Z x.loc)/\w.cell? ⟨b,3,none⟩=some (V Z x.n)/\w.cell? ⟨b,4,none⟩=some (V Z x.wr)/\w.cell? ⟨b,5,none⟩=some (V Z x.rd)/\w.cell? ⟨b,6,none⟩=some (V Z x.top)) /\
    (w.cell? ⟨b,7,none⟩=some (V Z y.kind)/\w.cell? ⟨b,8,none⟩=some (V Z y.base)/\w.cell? ⟨b,9,none⟩=some (V Z y.loc)/\w.cell? ⟨b,10,none⟩=some (V Z y.n)/\w.cell? ⟨b,11,none⟩=some (V Z y.wr)/\w.cell? ⟨b,12,none⟩=some (V Z y.rd)/\w.cell? ⟨b,13,none⟩=some (V Z y.top)) :=
 ⟨⟨h.cells 0 _ rfl,h.cells 1 _ rfl,h.cells 2 _ rfl,h.cells 3 _ rfl,h.cells 4 _ rfl,h.cells 5 _ rfl,h.cells 6 _ rfl⟩,⟨h.cells 7 _ rfl,h.cells 8 _ rfl,h.cells 9 _ rfl,h.cells 10 _ rfl,h.cells 11 _ rfl,h.cells 12 _ rfl,h.cells 13 _ rfl⟩⟩
set_option maxRecDepth 100000 in
set_option maxHeartbeats 2000000 in
theorem reg_write_p (B p:Nat)(S:TS)(r:Reg)(me v:Int)(w:World)(h:Plays B w p S)(hr:r.ok)(hm:0<=me/\me<r.n) :
  Calls Tryz.prog 229 #[.pointer (some ⟨p,0,none⟩),encR r,V Z me,V Z v] w (Post encU B p w ((regW r me v).run S)):=by
 generalize hR:Post encU B p w ((regW r me v).run S)=R
 have hO:Owes R encU B p w ((regW r me v).run S):=hR▸owes _ _ _ _ _
 clear hR
 obtain⟨hk,hb,hl,hn,hw⟩:=hr
 obtain⟨kind,base,loc,n,wr,rd,top⟩:=r
 simp only at hk hb hl hn hw hm hO
 unfold encR
 obtain⟨b1,hK,hP⟩:=h.entry (.cells #[V Z kind,V Z base,V Z loc,V Z n,V Z wr,V Z rd,V Z top] 67)
 have c_b1:=b1.cells;clear h;unfold regW at hO
 simp only at hO
 rcases hk with rfl | rfl | rfl
 · simp at hO
   go_enter Tryz.func229,Tryz.ntmps229
   go_wp2_with fail
   refine tlast hO hK (write_p B p S _ _ _ hP) (fun _ h=>⟨rfl,h⟩) ?_
   clear hO hK hP c_b1;intro u S w1 hr hP hk hK hO;replace b1:=b1.keep hk;have c_b1:=b1.cells;clear hk hr;go_wp2_with fail
   first | go_end0 | refine bodyPost_ret (results_none rfl _ _ _) rfl ?_
   exact hO.done hP hK
 · simp at hO
   obtain⟨hw1,hw2⟩:=hw rfl
   clear hw
   go_enter Tryz.func229,Tryz.ntmps229
   go_wp2_with fail
   refine tlast hO hK (table_write_p B p S ⟨6,base,loc,n,wr,rd,top⟩ me v _ hP hn.1 hn.2 hw1 hw2 hb.1 (by simp only;omega) hl.1 (by simp only;omega)) (fun _ h=>⟨rfl,h⟩) ?_
   clear hO hK hP c_b1;intro u S w1 hr hP hk hK hO;replace b1:=b1.keep hk;have c_b1:=b1.cells;clear hk hr;go_wp2_with fail
   first | go_end0 | refine bodyPost_ret (results_none rfl _ _ _) rfl ?_
   exact hO.done hP hK
 · simp at hO
   go_enter Tryz.func229,Tryz.ntmps229
   go_wp2_with fail
   refine tlast hO hK (many_write_p B p S ⟨7,base,loc,n,wr,rd,top⟩ me v _ hP hn.1 hn.2 hm hb.1 (by simp only;omega) hl.1 (by simp only;omega)) (fun _ h=>⟨rfl,h⟩) ?_
   clear hO hK hP c_b1;intro u S w1 hr hP hk hK hO;replace b1:=b1.keep hk;have c_b1:=b1.cells;clear hk hr;go_wp2_with fail
   first | go_end0 | refine bodyPost_ret (results_none rfl _ _ _) rfl ?_
   exact hO.done hP hK
set_option maxRecDepth 100000 in
set_option maxHeartbeats 2000000 in
theorem reg_read_p (B p:Nat)(S:TS)(r:Reg)(me:Int)(w:World)(h:Plays B w p S)(hr:r.ok)(hm:0<=me/\me<r.n) :
  Calls Tryz.prog 230 #[.pointer (some ⟨p,0,none⟩),encR r,V Z me] w (Post encI B p w ((regR r me).run S)):=by
 generalize hR:Post encI B p w ((regR r me).run S)=R
 have hO:Owes R encI B p w ((regR r me).run S):=hR▸owes _ _ _ _ _
 clear hR
 obtain⟨hk,hb,hl,hn,hw⟩:=hr
 obtain⟨kind,base,loc,n,wr,rd,top⟩:=r
 simp only at hk hb hl hn hw hm hO
 unfold encR
 obtain⟨b1,hK,hP⟩:=h.entry (.cells #[V Z kind,V Z base,V Z loc,V Z n,V Z wr,V Z rd,V Z top] 67)
 have c_b1:=b1.cells;clear h;unfold regR at hO
 simp only at hO
 rcases hk with rfl | rfl | rfl
 · simp at hO
   go_enter Tryz.func230,Tryz.ntmps230
   go_wp2_with fail
   refine tlast hO hK (read_p B p S _ _ hP) (fun _ h=>⟨rfl,h⟩) ?_
   clear hO hK hP c_b1;intro x S w1 hr hP hk hK hO;replace b1:=b1.keep hk;have c_b1:=b1.cells;clear hk hr;go_wp2_with fail
   exact hO.done hP hK
 · simp at hO
   obtain⟨hw1,hw2⟩:=hw rfl
   clear hw
   go_enter Tryz.func230,Tryz.ntmps230
   go_wp2_with fail
   refine tlast hO hK (table_read_p B p S ⟨6,base,loc,n,wr,rd,top⟩ me _ hP hn.1 hn.2 hw1 hw2 hm hb.1 (by simp only;omega) hl.1 (by simp only;omega)) (fun _ h=>⟨rfl,h⟩) ?_
   clear hO hK hP c_b1;intro x S w1 hr hP hk hK hO;replace b1:=b1.keep hk;have c_b1:=b1.cells;clear hk hr;go_wp2_with fail
   exact hO.done hP hK
 · simp at hO
   go_enter Tryz.func230,Tryz.ntmps230
   go_wp2_with fail
   refine tlast hO hK (many_read_p B p S ⟨7,base,loc,n,wr,rd,top⟩ me _ hP hn.1 hn.2 hm hb.1 (by simp only;omega) hl.1 (by simp only;omega)) (fun _ h=>⟨rfl,h⟩) ?_
   clear hO hK hP c_b1;intro x S w1 hr hP hk hK hO;replace b1:=b1.keep hk;have c_b1:=b1.cells;clear hk hr;go_wp2_with fail
   exact hO.done hP hK
theorem RegsAt.ext {ix:List Nat}{p b:Nat}{w w':World}{l:List Reg}(h:RegsAt ix w p b l)(hx:Ext w w')(hp:p<w.heap.size):RegsAt ix w' p b l:=h.keep (B:=0) (Keep.of_ext hx hp (Nat.zero_le _))
theorem two_boxes {B p:Nat}{w:World}{S:TS}(h:Plays B w p S)(o1 o2:Obj) :
  HeldP ((w.alloc o1).alloc o2).drew p w.heap.size o1/\HeldP ((w.alloc o1).alloc o2).drew p (w.heap.size+1) o2/\Plays B ((w.alloc o1).alloc o2).drew p S/\KeepP B p w ((w.alloc o1).alloc o2).drew:=by
 have h2:=(h.alloc o1).held o2
 rw [World.size_alloc] at h2
 exact⟨((h.held o1).alloc o2 (h.alloc o1).lt).drew,h2.drew,((h.alloc o1).alloc o2).drew,((Keep.alloc o1 h.lt h.le).trans (Keep.alloc o2 (h.alloc o1).lt (h.alloc o1).le)).drew⟩
end Go.Proofs.YtbaajjkopdjbgaaGreat
namespace Kv
inductive Prog.Asks {α:Type}:Prog α->Prop
 | read (c:Int) (k:Int->Prog α):Asks (.read c k)
 | write (c v:Int) (k:Unit->Prog α):Asks (.write c v k)
 | get (i:Int) {k:Int->Prog α}:(∀ x,Asks (k x))->Asks (.get i k)
 | set (i v:Int) {k:Unit->Prog α}:Asks (k ())->Asks (.set i v k)
 | note (m:Int) {k:Unit->Prog α}:Asks (k ())->Asks (.note m k)
theorem Prog.Asks.bind {α β:Type}{p:Prog α}(h:p.Asks)(f:α->Prog β):(p.bind f).Asks:=by
 induction h with
 | read c k=>exact .read _ _
 | write c v k=>exact .write _ _ _
 | get i _ ih=>exact .get i fun x=>ih x
 | set i v _ ih=>exact .set i v ih
 | note m _ ih=>exact .note m ih
theorem Prog.Asks.then {α β:Type}{f:α->Prog β}(h:∀ a,(f a).Asks):∀ p:Prog α,(p.bind f).Asks
 | .ret a=>h a
 | .read _ _=>.read _ _
 | .write _ _ _=>.write _ _ _
 | .get i k=>.get i fun x=>Asks.then h (k x)
 | .set i v k=>.set i v (Asks.then h (k ()))
 | .note m k=>.note m (Asks.then h (k ()))
theorem Prog.run_len {α:Type}(p:Prog α)(S:TS):S.acc.length<=(p.run S).2.acc.length:=by
 obtain⟨l,h⟩:=Prog.run_acc p S
 rw [h];simp
theorem Prog.Asks.run {α:Type}{p:Prog α}(h:p.Asks):∀ S:TS,S.acc.length<(p.run S).2.acc.length:=by
 induction h with
 | read c k =>
   intro S
   simp only [Prog.run]
   cases S.next with
   | none=>simp [TS.put]
   | some v=>have:=Prog.run_len (k v) (S.put ⟨1,c,0⟩);simp [TS.put] at this ⊢;omega
 | write c v k =>
   intro S
   simp only [Prog.run]
   cases S.next with
   | none=>simp [TS.put]
   | some _=>have:=Prog.run_len (k ()) (S.put ⟨2,c,v⟩);simp [TS.put] at this ⊢;omega
 | get i _ ih=>intro S;exact ih _ _
 | set i v _ ih=>intro S;have:=ih (S.upd i v);rw [TS.upd_acc] at this;exact this
 | note m _ ih=>intro S;exact ih (S.noted m)
def TS.left (S:TS):Nat:=S.ans.length-S.acc.length
theorem Prog.run_left {α:Type}(p:Prog α)(S:TS):(p.run S).2.left<=S.left:=by
 have h1:=Prog.run_ans p S
 have h2:=Prog.run_len p S
 unfold TS.left
 rw [h1];omega
theorem Prog.Asks.left {α:Type}{p:Prog α}(h:p.Asks){S S1:TS}{a:α}(hr:p.run S=(some a,S1))(hl:S1.acc.length<=S1.ans.length):S1.left<S.left:=by
 have h1:=Prog.run_ans p S
 have h2:=h.run S
 rw [hr] at h1 h2
 simp only at h1 h2
 unfold TS.left
 rw [<- h1];omega
theorem asks_rd (c:Int):(rd c).Asks:=.read _ _
theorem asks_wr (c v:Int):(wr c v).Asks:=.write _ _ _
theorem asks_trompR (b l:Int):(trompR b l).Asks:=(asks_rd _).bind _
theorem asks_slotsR (b l:Int):(slotsR b l).Asks:=(asks_trompR _ _).bind _
theorem asks_tableR (b l n w top me:Int)(h:me≠w):(tableR b l n w top me).Asks:=by
 unfold tableR
 rw [if_neg h]
 exact (asks_slotsR _ _).bind _
theorem asks_manyRs (b l n top me:Int)(k:Nat)(j s v:Int):(manyRs b l n top me (k+2) j s v).Asks:=by
 by_cases h:me=j
 · unfold manyRs
   refine Prog.Asks.then (fun y=>?_) _
   split
   · exact (asks_tableR _ _ _ _ _ _ (by omega)).bind _
   · exact (asks_tableR _ _ _ _ _ _ (by omega)).bind _
 · exact (asks_tableR _ _ _ _ _ _ h).bind _
def Reg.told (r:Reg) (me:Int):Prop:=r.kind=1∨(r.kind=6/\me≠r.wr)∨(r.kind=7/\2<=r.n)
theorem asks_regR (r:Reg)(me:Int)(h:r.told me):(regR r me).Asks:=by
 unfold regR
 rcases h with h | ⟨h,h2⟩ | ⟨h,h2⟩
 · rw [if_pos h];exact asks_rd _
 · rw [if_neg (by omega),if_pos h];exact asks_tableR _ _ _ _ _ _ h2
 · rw [if_neg (by omega),if_neg (by omega)]
   unfold manyR
   obtain⟨k,hk⟩:∃ k:Nat,r.n.toNat=k+2:=⟨r.n.toNat-2,by omega⟩
   rw [hk]
   exact (asks_manyRs _ _ _ _ _ _ _ _ _).bind _
def tameL (L:List Int) (top:Int):List Int:=(L.take 3000).map fun x=>wrapI x top
def shortN (L:List Int):Nat->Nat
 | 0=>0
 | n+1=>if L.getD n 0=0 then shortN L n else n+1
def shortL (L:List Int):List Int:=L.take (shortN L L.length)
theorem shortN_le (L:List Int):∀ n,shortN L n<=n
 | 0=>Nat.le_refl _
 | n+1=>by
   unfold shortN
   split
   · exact Nat.le_succ_of_le (shortN_le L n)
   · exact Nat.le_refl _
end Kv
namespace Go.Proofs.YtbaajjkopdjbgaaGreat
open Go.RowKit Kv
set_option maxRecDepth 100000 in
theorem tame_r (v:Value)(L:List Int)(top:Int)(w:World)(h:Ints w v L) :
  Calls Tryz.prog 24 #[v,V Z top] w fun e w'=>∃ v',e=.returned v'/\IntRow w' w.heap.size v' (tameL L top)/\Ext w w':=by
 obtain⟨A,c,rfl,q1,q2⟩:=h.slice
 go_enter Tryz.func24,Tryz.ntmps24
 go_wp2_with fail
 go_loopw [5,6] (fun v i wr=>∃ j:Nat,i=V Z j/\j<=L.length/\j<=3000/\IntRow wr w.heap.size v ((L.take j).map fun x=>wrapI x top)/\Ext w wr) (fun _ i _=>3000-(intOf i).toNat)
 case atStart=>exact⟨0,rfl,by omega,by omega,IntRow.nil _ _,Ext.refl _⟩
 case round =>
  obtain⟨j,rfl,hj,hj2,hown,hE⟩:=hrel
  have hsz:=hE.size
  have hlt1:((L.take j).map fun x=>wrapI x top).length<1000000000000:=by simp;omega
  by_cases hl:j<L.length/\j<3000
  · obtain⟨hl1,hl2⟩:=hl
    obtain⟨b,off,rfl,hb,hcell⟩:=(h.ext hE).at_ hl1
    have hs:((L.take (j+1)).map fun x=>wrapI x top)=((L.take j).map fun x=>wrapI x top)++[wrapI (L.getD j 0) top]:=by
     rw [List.take_succ_eq_append_getElem hl1,List.map_append]
     simp [List.getD,hl1]
    have H1:=Hd hs
    clear hs
    generalize L.getD j 0=E at *
    have hEh:=Hd hE
    clear hE
    generalize hM:((L.take j).map fun x=>wrapI x top)=M at *
    clear hM
    have hh:=Hd h
    clear h
    go_wp2_with (first | (go_at_call 43;refine (wrap_r _ _ _).mono ?_;rintro e w' ⟨rfl,rfl⟩) | (at_builtin;refine append_int rfl _ _ rfl w.heap.size _ M (wrapI E top) hown rfl rfl hlt1 hsz ?_))
    intro v' w1 hown' hgrow
    have hE':=hEh.out.appended hown hgrow
    rw [<- H1.out] at hown'
    clear hown hgrow;go_wp2_with fail
    go_roundw
    case rel=>exact⟨j+1,by go_num,by omega,by omega,hown',hE'⟩
    case measure=>simp [intOf];omega
  · have hf:((L.take j).map fun x=>wrapI x top)=tameL L top:=by
     unfold tameL
     congr 1
     by_cases e:j<L.length
     · rw [show j=3000 by omega]
     · rw [List.take_of_length_le (by omega),List.take_of_length_le (by omega)]
    rw [hf] at hown;clear hf hlt1
    by_cases e:j<L.length
    · have e3:¬ j<3000:=fun e3=>hl ⟨e,e3⟩
      clear hl h;go_wp2_with fail
      go_ret
      exact⟨_,rfl,hown,hE⟩
    · clear hl h
      go_wp2_with fail
      go_ret
      exact⟨_,rfl,hown,hE⟩
theorem Ints.take {w:World}{A:Option Addr}{c:Nat}{L:List Int}(h:Ints w (.slice A L.length c) L)(m:Nat)(hm:m<=L.length):Ints w (.slice A m c) (L.take m):=by
 obtain⟨A',c',he,h1,h2,h3⟩:=h
 injection he with e1 e2 e3
 subst e1 e3
 have hl:(L.take m).length=m:=by rw [List.length_take];omega
 refine⟨A,c,by rw [hl],by omega,h2,fun hne=>?_⟩
 obtain⟨b,off,rfl,hb,hc⟩:=h3 (fun e=>hne (by rw [e];simp))
 refine⟨b,off,rfl,hb,fun i x hi=>hc i x ?_⟩
 rw [List.getElem?_take] at hi
 split at hi
 · exact hi
 · cases hi
set_option maxRecDepth 100000 in
theorem short_at (A:Option Addr)(c:Nat)(L:List Int)(w:World)(h:Ints w (.slice A L.length c) L)(q1:L.length<=c)(q2:c<=9223372036854775807) :
  Calls Tryz.prog 62 #[.slice A L.length c] w fun e w'=>e=.returned (.slice A (shortN L L.length) c)/\w=w':=by
 go_enter Tryz.func62,Tryz.ntmps62
 go_wp2_with fail
 go_loopw [0] (fun v wr=>∃ n:Nat,v=.slice A n c/\n<=L.length/\Hid (shortN L n=shortN L L.length)/\w=wr) (fun v _=>match v with
  | .slice _ n _=>n
  | _=>0)
 case atStart=>exact⟨L.length,rfl,by omega,rfl,rfl⟩
 case round =>
  obtain⟨n,rfl,hn,hs,rfl⟩:=hrel
  cases n with
  | zero =>
    have hf:=Hd (show shortN L L.length=0 from hs.out.symm)
    clear hs h;go_wp2_with fail
    go_ret
    exact⟨by rw [hf.out];rfl,rfl⟩
  | succ n =>
    obtain⟨b,off,rfl,hb,hcell⟩:=h.at_ (show n<L.length by omega)
    by_cases e:L.getD n 0=0
    · have hs2:Hid (shortN L n=shortN L L.length):=Hd (by rw [<- hs.out];show _=(if L.getD n 0=0 then shortN L n else n+1);rw [if_pos e])
      rw [e] at hcell;clear hs e h;go_wp2_with fail
      exact⟨⟨n,rfl,by omega,hs2,by trivial⟩,Nat.lt_succ_self n⟩
    · have hf:=Hd (show shortN L L.length=n+1 from by rw [<- hs.out];show (if L.getD n 0=0 then shortN L n else n+1)=_;rw [if_neg e])
      have e2:(L.getD n 0==0)=false:=by rw [beq_eq_false_iff_ne];exact e
      generalize L.getD n 0=E at *
      clear hs e h;go_wp2_with fail
      go_ret
      exact⟨by rw [hf.out];rfl,rfl⟩
theorem shortL_ints {w:World}{A:Option Addr}{c:Nat}{L:List Int}(h:Ints w (.slice A L.length c) L):Ints w (.slice A (shortN L L.length) c) (shortL L):=h.take _ (shortN_le _ _)
end Go.Proofs.YtbaajjkopdjbgaaGreat
namespace Kv
theorem shortN_zero (L:List Int):∀ n i,shortN L n<=i->i<n->L.getD i 0=0
 | 0,i,_,h=>absurd h (Nat.not_lt_zero i)
 | n+1,i,h1,h2=>by
   unfold shortN at h1
   split at h1
   · rename_i e
     by_cases hi:i=n
     · rw [hi];exact e
     · exact shortN_zero L n i h1 (by omega)
   · omega
theorem shortN_last (L:List Int):∀ n,shortN L n=0∨L.getD (shortN L n-1) 0≠0
 | 0=>.inl rfl
 | n+1=>by
   unfold shortN
   split
   · exact shortN_last L n
   · rename_i e;exact .inr e
theorem shortL_zero (L:List Int)(i:Nat)(h:shortN L L.length<=i):L.getD i 0=0:=by
 by_cases hi:i<L.length
 · exact shortN_zero L _ i h hi
 · simp [List.getD,List.getElem?_eq_none (show L.length<=i by omega)]
theorem shortN_eq {L L':List Int}(h:∀ i,L.getD i 0=L'.getD i 0):shortN L L.length=shortN L' L'.length:=by
 have a:=shortN_last L L.length
 have b:=shortN_last L' L'.length
 have a2:=shortL_zero L
 have b2:=shortL_zero L'
 generalize shortN L L.length=N at *
 generalize shortN L' L'.length=N' at *
 rcases Nat.lt_trichotomy N N' with e | e | e
 · rcases b with b | b
   · omega
   · exact absurd ((h _).symm.trans (a2 (N'-1) (by omega))) b
 · exact e
 · rcases a with a | a
   · omega
   · exact absurd ((h _).trans (b2 (N-1) (by omega))) a
theorem shortL_eq {L L':List Int}(h:∀ i,L.getD i 0=L'.getD i 0):shortL L=shortL L':=by
 have e:=shortN_eq h
 have l1:=shortN_le L L.length
 have l2:=shortN_le L' L'.length
 unfold shortL
 apply List.ext_getElem?
 intro i
 rw [List.getElem?_take,List.getElem?_take,e]
 split
 · rename_i hi
   have hh:=h i
   rw [List.getD_eq_getElem?_getD,List.getD_eq_getElem?_getD] at hh
   rw [List.getElem?_eq_getElem (show i<L.length by omega),List.getElem?_eq_getElem (show i<L'.length by omega)] at hh ⊢
   simpa using hh
 · rfl
theorem Ref.outcome {α:Type}{p:Prog α}{S S':TS}{a:α}{o:Bool}(h:Ref p false S a o S'):p.run S=(if o then none else some a,S'):=by
 cases h with
 | done h=>exact h
 | stop _ h=>exact h
end Kv
namespace Go.Proofs.YtbaajjkopdjbgaaGreat
open Go.RowKit Kv
theorem out_r (B p:Nat)(o:Bool)(S:TS)(w:World)(h:RAt B w p o S) :
  Calls Tryz.prog 31 #[.pointer (some ⟨p,0,none⟩)] w fun e w'=>∃ vC vN vs L,e=.returned (.agg #[.bool (!o),vC,vN,vs])/\w'.ownsRow B 112 3 vC S.acc.length (accVals S.acc)/\w'.ownsRow B 114 2 vN S.nts.length (ntVals S.nts)/\Ints w' vs (shortL L)/\LocIs L S.loc/\L.length<=32768/\Ext w w':=by
 obtain⟨n,vA,vC,vN,vL,L,h,-⟩:=h
 have hc:=cell_of_heap h.heap
 have hI:Ints w vL L:=IntRow.ints h.rowL
 obtain⟨Ac,cc,hvC⟩:∃ A c,vC=.slice A S.acc.length c:=by
  rcases h.rowC.2 with⟨rfl,h0⟩ | ⟨g,cap,cur,rfl,_⟩
  · exact⟨none,0,by rw [h0]⟩
  · exact⟨_,_,rfl⟩
 obtain⟨An,cn,hvN⟩:∃ A c,vN=.slice A S.nts.length c:=by
  rcases h.rowN.2 with⟨rfl,h0⟩ | ⟨g,cap,cur,rfl,_⟩
  · exact⟨none,0,by rw [h0]⟩
  · exact⟨_,_,rfl⟩
 subst hvC hvN
 obtain⟨As,cs,rfl,hs1,hs2⟩:=hI.slice
 have hlt:=h.lt
 have hh:=Hd h
 clear h
 have hX:=Ext.refl w
 have b1:=Blk.new w (.cells #[.bool false,.slice none 0 0,.slice none 0 0,.slice none 0 0] 30)
 replace hX:=hX.alloc (.cells #[.bool false,.slice none 0 0,.slice none 0 0,.slice none 0 0] 30)
 have c_b1:=b1.cells
 have hc1:∀ i,(w.alloc (.cells #[.bool false,.slice none 0 0,.slice none 0 0,.slice none 0 0] 30)).cell? ⟨p,i,none⟩=(#[vA,V Z n,.bool o,.slice Ac S.acc.length cc,.slice An S.nts.length cn,.slice As L.length cs]:Array Value)[i]?:=fun i=>(hX.cell (p:=⟨p,i,none⟩) hlt).trans (hc i)
 have f_b1:=frozen_of_heap b1
 have hc2:Hid (∀ (O':Obj) (i:Nat),(w.alloc O').drew.cell? ⟨p,i,none⟩=(#[vA,V Z n,.bool o,.slice Ac S.acc.length cc,.slice An S.nts.length cn,.slice As L.length cs]:Array Value)[i]?):=Hd fun O' i=>(((Ext.refl w).alloc O').drew.cell (p:=⟨p,i,none⟩) hlt).trans (hc i)
 clear hc
 go_enter Tryz.func31,Tryz.ntmps31
 go_wp2_with fail
 replace hX:=hX.drew;replace b1:=b1.drew
 have hIh:Hid (∀ w',Ext w w'->Ints w' (.slice As L.length cs) L):=Hd (fun w' hx=>hI.ext hx)
 clear hI
 go_region_held2 (fun w'=>∀ i,w'.cell? ⟨p,i,none⟩=(#[vA,V Z n,.bool o,.slice Ac S.acc.length cc,.slice An S.nts.length cn,.slice As L.length cs]:Array Value)[i]?) (first | with_reducible exact hc1 | with_reducible exact hc2.out _ | go_keep)
  (first
    | (go_at_call 62
       refine (short_at As cs L _ (hIh.out _ hX) hs1 hs2).mono ?_
       rintro e w' ⟨rfl,rfl⟩))
 go_wp2_with fail
 have hX':∀ O',Ext w (w.alloc O').drew:=fun O'=>((Ext.refl w).alloc O').drew
 refine bodyPost_ret (v:=.agg #[.bool (!o),.slice Ac S.acc.length cc,.slice An S.nts.length cn,.slice As (shortN L L.length) cs]) (by simp [results,Tryz.results31,go_sem]) rfl ?_
 exact⟨_,_,_,L,rfl,row_ext hh.out.rowC (hX' _),row_ext hh.out.rowN (hX' _),shortL_ints (hIh.out _ (hX' _)),hh.out.loc,hh.out.locN,hX' _⟩
def Vals (w:World) (A:Option Addr) (vals:List Value):Prop:=vals≠[]->∃ b,A=some ⟨b,0,none⟩/\b<w.heap.size/\∀ i u,vals[i]?=some u->w.cell? ⟨b,i,none⟩=some u
theorem Vals.ext {w w':World}{A:Option Addr}{vals:List Value}(h:Vals w A vals)(hx:Ext w w'):Vals w' A vals:=by
 intro hne
 obtain⟨b,rfl,hb,hc⟩:=h hne
 exact⟨b,rfl,Nat.lt_of_lt_of_le hb hx.size,fun i u hu=>(hx.cell (p:=⟨b,i,none⟩) hb).trans (hc i u hu)⟩
theorem vals_row {w:World}{B e size n:Nat}{v:Value}{xs:List Value}(h:w.ownsRow B e size v n xs):∃ A c,v=.slice A n c/\n<=c/\c<=9223372036854775807/\Vals w A xs:=by
 have h':=h
 obtain⟨hl,h2⟩:=h
 rcases h2 with⟨rfl,h0⟩ | ⟨g,cap,cur,rfl,hg,hh,hn,hm,hs,ht⟩
 · subst h0
   refine⟨none,0,rfl,Nat.le_refl _,by omega,fun hne=>absurd ?_ hne⟩
   simpa using hl
 · refine⟨_,_,rfl,hn,by unfold maxLen at hm;exact hm,fun _=>⟨g,rfl,(Array.getElem?_eq_some_iff.1 hh).1,fun i u hi=>?_⟩⟩
   have hc:=World.ownsRow.cells h' (g:=g) rfl i u hi
   rw [Addr.add_lit,Nat.zero_add] at hc;exact hc
theorem accVals_at:∀ (l:List Acc) (i:Nat) (a:Acc),l[i]?=some a->(accVals l)[3*i]?=some (V Z a.kind)/\(accVals l)[3*i+1]?=some (V Z a.cell)/\(accVals l)[3*i+2]?=some (V Z a.val)
 | [],i,a,h=>by simp at h
 | x :: l,0,a,h=>by
   obtain rfl:x=a:=by simpa using h
   exact⟨rfl,rfl,rfl⟩
 | x :: l,i+1,a,h=>by
   have:=accVals_at l i a (by simpa using h)
   rw [show accVals (x :: l)=[V Z x.kind,V Z x.cell,V Z x.val]++accVals l from rfl]
   refine⟨?_,?_,?_⟩
   · rw [List.getElem?_append_right (by simp;omega)];simpa [show 3*(i+1)-3=3*i by omega] using this.1
   · rw [List.getElem?_append_right (by simp;omega)];simpa [show 3*(i+1)+1-3=3*i+1 by omega] using this.2.1
   · rw [List.getElem?_append_right (by simp;omega)];simpa [show 3*(i+1)+2-3=3*i+2 by omega] using this.2.2
theorem ntVals_at:∀ (l:List Nt) (i:Nat) (a:Nt),l[i]?=some a->(ntVals l)[2*i]?=some (V Z a.kind)/\(ntVals l)[2*i+1]?=some (V Z a.pos)
 | [],i,a,h=>by simp at h
 | x :: l,0,a,h=>by
   obtain rfl:x=a:=by simpa using h
   exact⟨rfl,rfl⟩
 | x :: l,i+1,a,h=>by
   have:=ntVals_at l i a (by simpa using h)
   rw [show ntVals (x :: l)=[V Z x.kind,V Z x.pos]++ntVals l from rfl]
   refine⟨?_,?_⟩
   · rw [List.getElem?_append_right (by simp;omega)];simpa [show 2*(i+1)-2=2*i by omega] using this.1
   · rw [List.getElem?_append_right (by simp;omega)];simpa [show 2*(i+1)+1-2=2*i+1 by omega] using this.2
def AccAt (w:World) (A:Option Addr) (l:List Acc):Prop:=Vals w A (accVals l)
def NtAt (w:World) (A:Option Addr) (l:List Nt):Prop:=Vals w A (ntVals l)
theorem AccAt.at_ {w:World}{A:Option Addr}{l:List Acc}(h:AccAt w A l){i:Nat}{a:Acc}(hi:l[i]?=some a) :
  ∃ b,A=some ⟨b,0,none⟩/\b<w.heap.size/\w.cell? ⟨b,i*3,none⟩=some (V Z a.kind)/\w.cell? ⟨b,i*3+1,none⟩=some (V Z a.cell)/\w.cell? ⟨b,i*3+2,none⟩=some (V Z a.val):=by
 obtain⟨h0,h1,h2⟩:=accVals_at l i a hi
 obtain⟨b,rfl,hb,hc⟩:=h (fun e=>by rw [e] at h0;simp at h0)
 rw [Nat.mul_comm i 3]
 exact⟨b,rfl,hb,hc _ _ h0,hc _ _ h1,hc _ _ h2⟩
theorem NtAt.at_ {w:World}{A:Option Addr}{l:List Nt}(h:NtAt w A l){i:Nat}{a:Nt}(hi:l[i]?=some a) :
  ∃ b,A=some ⟨b,0,none⟩/\b<w.heap.size/\w.cell? ⟨b,i*2,none⟩=some (V Z a.kind)/\w.cell? ⟨b,i*2+1,none⟩=some (V Z a.pos):=by
 obtain⟨h0,h1⟩:=ntVals_at l i a hi
 obtain⟨b,rfl,hb,hc⟩:=h (fun e=>by rw [e] at h0;simp at h0)
 rw [Nat.mul_comm i 2]
 exact⟨b,rfl,hb,hc _ _ h0,hc _ _ h1⟩
structure OutIs (w:World) (d:Bool) (S:TS) (A:Option Addr) (c:Nat) (A':Option Addr) (c':Nat) (vs:Value) (L:List Int):Prop where
 accs:AccAt w A S.acc
 nts:NtAt w A' S.nts
 locs:Ints w vs (shortL L)
 is:LocIs L S.loc
 len:L.length<=32768
 accc:S.acc.length<=c/\c<=9223372036854775807
 ntsc:S.nts.length<=c'/\c'<=9223372036854775807
def outV (d:Bool) (S:TS) (A:Option Addr) (c:Nat) (A':Option Addr) (c':Nat) (vs:Value):Value:=.agg #[.bool d,.slice A S.acc.length c,.slice A' S.nts.length c',vs]
theorem OutIs.ext {w w':World}{d:Bool}{S:TS}{A:Option Addr}{c:Nat}{A':Option Addr}{c':Nat}{vs:Value}{L:List Int}(h:OutIs w d S A c A' c' vs L)(hx:Ext w w'):OutIs w' d S A c A' c' vs L :=
 { h with accs:=Vals.ext h.accs hx,nts:=Vals.ext h.nts hx,locs:=h.locs.ext hx }
def Outs (w:World) (v:Value) (d:Bool) (S:TS):Prop:=∃ A c A' c' vs L,v=outV d S A c A' c' vs/\OutIs w d S A c A' c' vs L
theorem Outs.ext {w w':World}{v:Value}{d:Bool}{S:TS}(h:Outs w v d S)(hx:Ext w w'):Outs w' v d S:=by
 obtain⟨A,c,A',c',vs,L,rfl,h⟩:=h
 exact⟨A,c,A',c',vs,L,rfl,h.ext hx⟩
theorem outs_of {w:World}{B:Nat}{d:Bool}{S:TS}{vC vN vs:Value}{L:List Int}(h1:w.ownsRow B 112 3 vC S.acc.length (accVals S.acc))(h2:w.ownsRow B 114 2 vN S.nts.length (ntVals S.nts))(h3:Ints w vs (shortL L))(h4:LocIs L S.loc)(h5:L.length<=32768) :
  Outs w (.agg #[.bool d,vC,vN,vs]) d S:=by
 obtain⟨A,c,rfl,q1,q2,q3⟩:=vals_row h1
 obtain⟨A',c',rfl,r1,r2,r3⟩:=vals_row h2
 exact⟨A,c,A',c',vs,L,rfl,q3,r3,h3,h4,h5,⟨q1,q2⟩,⟨r1,r2⟩⟩
theorem dout_r (B p:Nat)(o:Bool)(S:TS)(w:World)(h:RAt B w p o S) :
  Calls Tryz.prog 31 #[.pointer (some ⟨p,0,none⟩)] w fun e w'=>∃ v,e=.returned v/\Outs w' v (!o) S/\Ext w w' :=
 (out_r B p o S w h).mono fun _ _ ⟨_,_,_,_,he,h1,h2,h3,h4,h5,hx⟩=>⟨_,he,outs_of h1 h2 h3 h4 h5,hx⟩
end Go.Proofs.YtbaajjkopdjbgaaGreat
namespace Kv
structure Want where
 wr:Int
 top:Int
def topM (t:Int):Int:=if clamp t 255=0 then 1 else clamp t 255
def kindM (mode w:Int):Int:=if mode=2 then (if 0<=w then 6 else 7) else 1
def regOf (n mode b l:Int) (q:Want):Reg:=⟨kindM mode q.wr,b,l,n,q.wr,-1,topM q.top⟩
def cellsM (r:Reg):Int:=if r.kind=1 then 1 else if r.kind=6 then 16*(r.n-1)*(r.n-1) else 16*(r.n-1)*(r.n-1)*r.n
def localsM (r:Reg):Int:=if r.kind=1 then 0 else if r.kind=6 then 2+18*(r.n-1)*(r.n-1) else r.n*(2+18*(r.n-1)*(r.n-1))
def fineM (r:Reg):Bool:=decide (r.base<=32768)&&decide (r.loc<=32768)&&decide (r.base+cellsM r<=32768)&&decide (r.loc+localsM r<=32768)
def layFrom (n mode:Int):List Want->Int->Int->Option (List Reg)
 | [],_,_=>some []
 | q :: l,b,c=>if fineM (regOf n mode b c q) then (layFrom n mode l (b+cellsM (regOf n mode b c q)) (c+localsM (regOf n mode b c q))).map (regOf n mode b c q :: ·) else none
def argsM (l:List Want) (n mode b c:Int):Bool:=decide (1<=mode/\mode<=2/\1<=n/\n<=8/\0<=b/\0<=c)&&l.all fun q=>decide (-1<=q.wr/\q.wr<n)
def layM (l:List Want) (n mode b c:Int):Option (List Reg):=if argsM l n mode b c then layFrom n mode l b c else none
theorem topM_bd (t:Int):1<=topM t/\topM t<=255:=by
 unfold topM clamp within
 split <;> omega
theorem cells_nat (r:Reg)(h:1<=r.n/\r.n<=8):0<=cellsM r/\cellsM r<=6272/\0<=localsM r/\localsM r<=7072:=by
 obtain⟨h1,h2⟩:=h
 have:r.n=1∨r.n=2∨r.n=3∨r.n=4∨r.n=5∨r.n=6∨r.n=7∨r.n=8:=by omega
 unfold cellsM localsM
 rcases this with h | h | h | h | h | h | h | h <;> rw [h] <;> (split <;> (try split) <;> omega)
structure Laid (n mode:Int) (q:Want) (r:Reg):Prop where
 is:∃ b c,r=regOf n mode b c q/\0<=b/\0<=c
 fine:fineM r=true
theorem layFrom_laid (n mode:Int)(hn:1<=n/\n<=8):∀ (l:List Want) (b c:Int) (rs:List Reg),0<=b->0<=c->layFrom n mode l b c=some rs ->
  rs.length=l.length/\∀ (i:Nat) q,l[i]?=some q->∃ r,rs[i]?=some r/\Laid n mode q r
 | [],b,c,rs,_,_,h=>by
   obtain rfl:[]=rs:=by simpa [layFrom] using h
   exact⟨rfl,fun i q hq=>by simp at hq⟩
 | q :: l,b,c,rs,hb,hc,h=>by
   unfold layFrom at h
   split at h
   · rename_i hf
     have hz:=cells_nat (regOf n mode b c q) hn
     cases hr:layFrom n mode l (b+cellsM (regOf n mode b c q)) (c+localsM (regOf n mode b c q)) with
     | none=>rw [hr] at h;cases h
     | some rs' =>
       rw [hr] at h
       obtain rfl:regOf n mode b c q :: rs'=rs:=by simpa using h
       obtain⟨e,g⟩:=layFrom_laid n mode hn l _ _ rs' (by omega) (by omega) hr
       refine⟨by simp [e],fun i q' hq=>?_⟩
       cases i with
       | zero =>
         obtain rfl:q=q':=by simpa using hq
         exact⟨_,rfl,⟨b,c,rfl,hb,hc⟩,hf⟩
       | succ i=>exact g i q' (by simpa using hq)
   · cases h
theorem layM_args {l:List Want}{n mode b c:Int}{rs:List Reg}(h:layM l n mode b c=some rs):(1<=mode/\mode<=2/\1<=n/\n<=8/\0<=b/\0<=c)/\(∀ q∈l,-1<=q.wr/\q.wr<n)/\layFrom n mode l b c=some rs:=by
 unfold layM at h
 split at h
 · rename_i ha
   unfold argsM at ha;rw [Bool.and_eq_true,decide_eq_true_eq,List.all_eq_true] at ha
   exact⟨ha.1,fun q hq=>by simpa using ha.2 q hq,h⟩
 · cases h
theorem layM_len {l:List Want}{n mode b c:Int}{rs:List Reg}(h:layM l n mode b c=some rs):rs.length=l.length:=by
 obtain⟨⟨_,_,hn1,hn2,hb,hc⟩,_,hf⟩:=layM_args h
 exact (layFrom_laid n mode ⟨hn1,hn2⟩ l b c rs hb hc hf).1
theorem layM_at {l:List Want}{n mode b c:Int}{rs:List Reg}(h:layM l n mode b c=some rs){i:Nat}{q:Want}(hq:l[i]?=some q):∃ r,rs[i]?=some r/\Laid n mode q r:=by
 obtain⟨⟨_,_,hn1,hn2,hb,hc⟩,_,hf⟩:=layM_args h
 exact (layFrom_laid n mode ⟨hn1,hn2⟩ l b c rs hb hc hf).2 i q hq
theorem Laid.ok {n mode:Int}{q:Want}{r:Reg}(h:Laid n mode q r)(hn:1<=n/\n<=8)(hw:-1<=q.wr/\q.wr<n):r.ok/\r.n=n/\r.wr=q.wr:=by
 obtain⟨⟨b,c,rfl,hb,hc⟩,hf⟩:=h
 have hf2:b<=32768/\c<=32768:=by
  unfold fineM regOf at hf
  simp only [Bool.and_eq_true,decide_eq_true_eq] at hf
  omega
 refine⟨⟨?_,⟨hb,hf2.1⟩,⟨hc,hf2.2⟩,hn,fun hk=>?_⟩,rfl,rfl⟩
 · show kindM mode q.wr=1∨kindM mode q.wr=6∨kindM mode q.wr=7
   unfold kindM
   split
   · split <;> omega
   · omega
 · show 0<=q.wr/\q.wr<n
   have hk:kindM mode q.wr=6:=hk
   unfold kindM at hk
   split at hk
   · split at hk <;> omega
   · omega
end Kv
namespace Go.Proofs.YtbaajjkopdjbgaaGreat
open Go.RowKit Kv
theorem eqIn_acc (a b c a' b' c':Int)(w:World):(Op.equalIn 10000 112 (.agg #[V Z a,V Z b,V Z c]) (.agg #[V Z a',V Z b',V Z c'])).run Tryz.prog w=.ok (decide (a=a'/\b=b'/\c=c')) w:=by
 rw [run_equalIn_struct w 9999 112 _ _ (by kernel_rfl) (by kernel_rfl)]
 have hu:Tryz.prog.underlying 3=some (.int .i64):=Tryz.underlying3
 simp only [Program.fieldsOf,Tryz.underlying112,Op.eqFields]
 simp [go_sem,run_equalIn_int,hu]
 by_cases h0:a=a' <;> by_cases h1:b=b' <;> by_cases h2:c=c' <;> simp [h0,h1,h2]
@[go_sem] theorem eql_acc (a b c a' b' c':Int) (w:World):(binOp .eql 112 (.agg #[V Z a,V Z b,V Z c]) (.agg #[V Z a',V Z b',V Z c'])).run Tryz.prog w=.ok (.bool (decide (a=a'/\b=b'/\c=c'))) w:=by
 rw [run_eql_struct,eqIn_acc];rfl
@[go_sem] theorem neq_acc (a b c a' b' c':Int) (w:World):(binOp .neq 112 (.agg #[V Z a,V Z b,V Z c]) (.agg #[V Z a',V Z b',V Z c'])).run Tryz.prog w=.ok (.bool (!decide (a=a'/\b=b'/\c=c'))) w:=by
 rw [run_neq_struct,eqIn_acc];rfl
theorem eqIn_nt (a b a' b':Int)(w:World):(Op.equalIn 10000 114 (.agg #[V Z a,V Z b]) (.agg #[V Z a',V Z b'])).run Tryz.prog w=.ok (decide (a=a'/\b=b')) w:=by
 rw [run_equalIn_struct w 9999 114 _ _ (by kernel_rfl) (by kernel_rfl)]
 have hu:Tryz.prog.underlying 3=some (.int .i64):=Tryz.underlying3
 simp only [Program.fieldsOf,Tryz.underlying114,Op.eqFields]
 simp [go_sem,run_equalIn_int,hu]
 by_cases h0:a=a' <;> by_cases h1:b=b' <;> simp [h0,h1]
@[go_sem] theorem eql_nt (a b a' b':Int) (w:World):(binOp .eql 114 (.agg #[V Z a,V Z b]) (.agg #[V Z a',V Z b'])).run Tryz.prog w=.ok (.bool (decide (a=a'/\b=b'))) w:=by
 rw [run_eql_struct,eqIn_nt];rfl
@[go_sem] theorem neq_nt (a b a' b':Int) (w:World):(binOp .neq 114 (.agg #[V Z a,V Z b]) (.agg #[V Z a',V Z b'])).run Tryz.prog w=.ok (.bool (!decide (a=a'/\b=b'))) w:=by
 rw [run_neq_struct,eqIn_nt];rfl
theorem eqIn_want (a b a' b':Int)(w:World):(Op.equalIn 10000 179 (.agg #[V Z a,V Z b]) (.agg #[V Z a',V Z b'])).run Tryz.prog w=.ok (decide (a=a'/\b=b')) w:=by
 rw [run_equalIn_struct w 9999 179 _ _ (by kernel_rfl) (by kernel_rfl)]
 have hu:Tryz.prog.underlying 3=some (.int .i64):=Tryz.underlying3
 simp only [Program.fieldsOf,Tryz.underlying179,Op.eqFields]
 simp [go_sem,run_equalIn_int,hu]
 by_cases h0:a=a' <;> by_cases h1:b=b' <;> simp [h0,h1]
@[go_sem] theorem eql_want (a b a' b':Int) (w:World):(binOp .eql 179 (.agg #[V Z a,V Z b]) (.agg #[V Z a',V Z b'])).run Tryz.prog w=.ok (.bool (decide (a=a'/\b=b'))) w:=by
 rw [run_eql_struct,eqIn_want];rfl
@[go_sem] theorem neq_want (a b a' b':Int) (w:World):(binOp .neq 179 (.agg #[V Z a,V Z b]) (.agg #[V Z a',V Z b'])).run Tryz.prog w=.ok (.bool (!decide (a=a'/\b=b'))) w:=by
 rw [run_neq_struct,eqIn_want];rfl
theorem flat_at {α:Type}(f:α->List Value)(k:Nat)(hf:∀ a,(f a).length=k):∀ (l:List α) (i j:Nat) (a:α),l[i]?=some a->j<k->(l.flatMap f)[k*i+j]?=(f a)[j]?
 | [],i,j,a,h,_=>by simp at h
 | x :: l,0,j,a,h,hj=>by
   obtain rfl:x=a:=by simpa using h
   rw [List.flatMap_cons,Nat.mul_zero,Nat.zero_add,List.getElem?_append_left (by rw [hf];exact hj)]
 | x :: l,i+1,j,a,h,hj=>by
   have:=flat_at f k hf l i j a (by simpa using h) hj
   rw [List.flatMap_cons,List.getElem?_append_right (by rw [hf,Nat.mul_add];omega),hf,show k*(i+1)+j-k=k*i+j by rw [Nat.mul_add];omega]
   exact this
theorem flat_len {α:Type}(f:α->List Value)(k:Nat)(hf:∀ a,(f a).length=k):∀ l:List α,(l.flatMap f).length=k*l.length
 | []=>rfl
 | x :: l=>by rw [List.flatMap_cons,List.length_append,hf,flat_len f k hf l,List.length_cons,Nat.mul_add];omega
def wantVals (q:Want):List Value:=[V Z q.wr,V Z q.top]
def Recs (w:World) (v:Value) (n:Nat) (vals:List Value):Prop:=∃ A c,v=.slice A n c/\n<=c/\c<=9223372036854775807/\Vals w A vals
theorem Recs.ext {w w':World}{v:Value}{n:Nat}{vals:List Value}(h:Recs w v n vals)(hx:Ext w w'):Recs w' v n vals:=by
 obtain⟨A,c,e,h1,h2,h3⟩:=h
 exact⟨A,c,e,h1,h2,h3.ext hx⟩
theorem Recs.of_row {w:World}{B e size n:Nat}{v:Value}{xs:List Value}(h:w.ownsRow B e size v n xs):Recs w v n xs:=vals_row h
def WantsAt (w:World) (v:Value) (l:List Want):Prop:=Recs w v l.length (l.flatMap wantVals)
def RegsV (w:World) (v:Value) (l:List Reg):Prop:=Recs w v l.length (l.flatMap regVals)
theorem want_at {w:World}{A:Option Addr}{l:List Want}(h:Vals w A (l.flatMap wantVals)){i:Nat}{q:Want}(hi:l[i]?=some q) :
  ∃ b,A=some ⟨b,0,none⟩/\b<w.heap.size/\w.cell? ⟨b,i*2,none⟩=some (V Z q.wr)/\w.cell? ⟨b,i*2+1,none⟩=some (V Z q.top):=by
 have h0:=flat_at wantVals 2 (fun _=>rfl) l i 0 q hi (by omega)
 have h1:=flat_at wantVals 2 (fun _=>rfl) l i 1 q hi (by omega)
 obtain⟨b,rfl,hb,hc⟩:=h (fun e=>by rw [e] at h0;simp [wantVals] at h0)
 rw [Nat.mul_comm i 2]
 exact⟨b,rfl,hb,hc _ _ h0,hc _ _ h1⟩
structure RegCells (w:World) (b o:Nat) (r:Reg):Prop where
 kind:w.cell? ⟨b,o,none⟩=some (V Z r.kind)
 base:w.cell? ⟨b,o+1,none⟩=some (V Z r.base)
 loc:w.cell? ⟨b,o+2,none⟩=some (V Z r.loc)
 n:w.cell? ⟨b,o+3,none⟩=some (V Z r.n)
 wr:w.cell? ⟨b,o+4,none⟩=some (V Z r.wr)
 rd:w.cell? ⟨b,o+5,none⟩=some (V Z r.rd)
 top:w.cell? ⟨b,o+6,none⟩=some (V Z r.top)
theorem reg_cells {w:World}{b:Nat}{l:List Reg}(hc:∀ (i:Nat) u,(l.flatMap regVals)[i]?=some u->w.cell? ⟨b,i,none⟩=some u){i:Nat}{r:Reg}(hi:l[i]?=some r):RegCells w b (i*7) r:=by
 have f:=fun j hj=>flat_at regVals 7 (fun _=>rfl) l i j r hi hj
 rw [Nat.mul_comm i 7]
 exact⟨hc _ _ (f 0 (by omega)),hc _ _ (f 1 (by omega)),hc _ _ (f 2 (by omega)),hc _ _ (f 3 (by omega)),hc _ _ (f 4 (by omega)),hc _ _ (f 5 (by omega)),hc _ _ (f 6 (by omega))⟩
theorem info_reg:(Tryz.prog.info? 67).map (fun i=>(i.zero,i.size,i.bytes))=some (some (.agg #[V Z 0,V Z 0,V Z 0,V Z 0,V Z 0,V Z 0,V Z 0]),7,56):=by kernel_rfl
theorem info_want:(Tryz.prog.info? 179).map (fun i=>(i.zero,i.size,i.bytes))=some (some (.agg #[V Z 0,V Z 0]),2,16):=by kernel_rfl
theorem append_rec {ops:Array Oper}{rest:List Oper}{o:Oper}{a:Act}{Q:Exit->Act->World->Prop}{w0 w:World}{e t:TypeId}{z:Value}{size bytes:Nat}
  (hinfo:(Tryz.prog.info? e).map (fun i=>(i.zero,i.size,i.bytes))=some (some z,size,bytes))(hund:Tryz.prog.underlying t=some (.slice e))(hzs:z.cells.size=size)(hsz:0<size)(hby:bytes<=100)
  (hgd:o.guard=none)(s x:Operand)(ho:o.op=.call { callee:=.builtin .append,args:=#[s,x],argTypes:=#[t,t] })
  (v:Value)(n:Nat)(xs news:List Value)(hX:Ext w0 w)(hown:w.ownsRow w0.heap.size e size v n xs)(hs:a.eval s=v)(hx:a.eval x=.slice (some ⟨w.heap.size,0,none⟩) 1 1)
  (hnl:news.length=size)(h1:∀ u∈news,u.oneCell'=true)(hlen:n<1000000000)
  (h:∀ v' w',w'.ownsRow w0.heap.size e size v' (n+1) (xs++news)->Ext w0 w'->(∀ k,k<w.heap.size->v.ownBlock≠some k->w'.heap[k]?=w.heap[k]?)->wpList Tryz.prog ops Q rest (a.put o.dst v') w') :
  wpList Tryz.prog ops Q (o :: rest) a (w.alloc (.cells news.toArray e)):=by
 obtain⟨i0,hi,hz0,hz1,hz2⟩:=info_parts hinfo
 refine wpList_append_own_at _ hgd s x t ho w0.heap.size e i0 z size bytes hund hi hz0 hz1 hz2 hzs hsz v n xs hs (World.ownsRow.alloc hown _) ⟨w.heap.size,0,none⟩ 1 1 news hx (by omega) ?_ h1 (by unfold maxLen;omega) ?_ (by have:=hX.size;simp;omega) fun v' w' h2 h3 _ _=>?_
 · intro j u hu
   rw [Addr.add_lit,Nat.zero_add]
   refine (cell_of_heap (w:=w.alloc (.cells news.toArray e)) (b:=w.heap.size) (cs:=news.toArray) (t:=e) (fz:=(0,0)) (heap_alloc_new w _) j).trans (by simpa using hu)
 · have:(n+1)*bytes<=(n+1)*100:=Nat.mul_le_mul_left _ hby
   omega
 · refine h v' w' h2 (Below.grown (Below.alloc hX hX.size _) h3 (by have:=hX.size;simp;omega) fun k hk=>?_) (fun k hk hv=>(h3.block k (by simp;omega) (fun e=>hv e.symm)).trans (Below.heap_alloc w _ k hk))
   rcases hown.2 with⟨rfl,_⟩ | ⟨g,cap,cur,rfl,hgb,_⟩
   · simp [Value.ownBlock] at hk
   · simp [Value.ownBlock] at hk
     omega
def lenOf:Option Value->Nat
 | some (.slice _ n _)=>n
 | _=>0
def leftW (i j:Nat) (w:World) (p:Nat):Nat:=lenOf (w.cell? ⟨p,i,none⟩)-lenOf (w.cell? ⟨p,j,none⟩)
theorem row_slice {w:World}{B e size n:Nat}{v:Value}{xs:List Value}(h:w.ownsRow B e size v n xs):∃ A c,v=.slice A n c:=by
 rcases h.2 with⟨rfl,h0⟩ | ⟨g,cap,cur,rfl,_⟩
 · exact⟨none,0,by rw [h0]⟩
 · exact⟨_,_,rfl⟩
theorem Plays.left {B p:Nat}{w:World}{S:TS}(h:Plays B w p S):leftW 1 3 w p=S.left:=by
 obtain⟨_,vA,vL,vC,vN,L,h⟩:=h
 obtain⟨A,c,rfl,_⟩:=h.ans.slice
 obtain⟨C,d,rfl⟩:=row_slice h.rowC
 unfold leftW TS.left
 rw [cell_of_heap h.heap,cell_of_heap h.heap]
 rfl
theorem RAt.left {B p:Nat}{w:World}{o:Bool}{S:TS}(h:RAt B w p o S):leftW 0 3 w p=S.left:=by
 obtain⟨n,vA,vC,vN,vL,L,h,_⟩:=h
 obtain⟨A,c,rfl,_⟩:=h.ans.slice
 obtain⟨C,d,rfl⟩:=row_slice h.rowC
 unfold leftW TS.left
 rw [cell_of_heap h.heap,cell_of_heap h.heap]
 rfl
theorem RegsAt.extL {ix:List Nat}{p b:Nat}{w w':World}{l:List Reg}(h:RegsAt ix w p b l)(hx:Ext w w')(hp:p<w.heap.size):RegsAt ix w' p b l:=h.keep (B:=0) (Keep.of_ext hx hp (Nat.zero_le _))
theorem Plays.len {B p:Nat}{w:World}{S:TS}(h:Plays B w p S):S.acc.length<=S.ans.length:=h.1
theorem RegsAt.four {ix:List Nat}{p b:Nat}{w:World}{x y z u:Reg}(h:RegsAt ix w p b [x,y,z,u]) :
  RegCells w b 0 x/\RegCells w b 7 y/\RegCells w b 14 z/\RegCells w b 21 u :=
 ⟨⟨h.cells 0 _ rfl,h.cells 1 _ rfl,h.cells 2 _ rfl,h.cells 3 _ rfl,h.cells 4 _ rfl,h.cells 5 _ rfl,h.cells 6 _ rfl⟩,⟨h.cells 7 _ rfl,h.cells 8 _ rfl,h.cells 9 _ rfl,h.cells 10 _ rfl,h.cells 11 _ rfl,h.cells 12 _ rfl,h.cells 13 _ rfl⟩,
  ⟨h.cells 14 _ rfl,h.cells 15 _ rfl,h.cells 16 _ rfl,h.cells 17 _ rfl,h.cells 18 _ rfl,h.cells 19 _ rfl,h.cells 20 _ rfl⟩,⟨h.cells 21 _ rfl,h.cells 22 _ rfl,h.cells 23 _ rfl,h.cells 24 _ rfl,h.cells 25 _ rfl,h.cells 26 _ rfl,h.cells 27 _ rfl⟩⟩
theorem tstepL {α β:Type}{B p:Nat}{w0 w:World}{S:TS}{R:Ending->World->Prop}{P:Program}{f:FuncId}{args:Array Value}{K:Ending->World->Prop}{enc:α->Value}{enc':β->Value}{T:Prog α}{g:α->Prog β}
  (hO:Owes R enc' B p w0 ((T.bind g).run S))(hB:KeepP B p w0 w)(h:Calls P f args w (Post enc B p w (T.run S)))(hp:∀ w',R (stopE p) w'->K (stopE p) w')
  (hk:∀ v S1 w1,S1.left<=S.left->(T.Asks->S1.left<S.left)->Plays B w1 p S1->KeepP B p w w1->KeepP B p w0 w1->Owes R enc' B p w0 ((g v).run S1)->K (.returned (enc v)) w1):Calls P f args w K:=by
 refine tstep hO hB h hp fun v S1 w1 hr hP hk1 hk2 hO1=>hk v S1 w1 ?_ (fun ha=>ha.left hr hP.1) hP hk1 hk2 hO1
 have:=Prog.run_left T S
 rw [hr] at this
 exact this
def leftR (w:World) (p:Nat):Nat:=leftW 0 3 w p+(match w.cell? ⟨p,2,none⟩ with
 | some (.bool true)=>0
 | _=>1)
theorem RAt.leftR {B p:Nat}{w:World}{o:Bool}{S:TS}(h:RAt B w p o S):leftR w p=S.left+(if o then 0 else 1):=by
 unfold Go.Proofs.YtbaajjkopdjbgaaGreat.leftR
 rw [h.left]
 obtain⟨_,_,_,_,_,hc⟩:=h.cell
 rw [hc]
 cases o <;> rfl
theorem RAt.len {B p:Nat}{w:World}{S:TS}(h:RAt B w p false S):S.acc.length<=S.ans.length:=by
 obtain⟨n,vA,vC,vN,vL,L,_,_,h⟩:=h
 simp at h
 exact h
theorem ref_lefts {α:Type}{T:Prog α}{o o':Bool}{S S':TS}{a:α}(h:Ref T o S a o' S'):S'.left<=S.left:=by
 cases h with
 | over=>exact Nat.le_refl _
 | done h=>have:=Prog.run_left T S;rw [h] at this;exact this
 | stop _ h=>have:=Prog.run_left T S;rw [h] at this;exact this
theorem rstepL {α β:Type}{B p:Nat}{w0 w:World}{o:Bool}{S:TS}{R:Ending->World->Prop}{P:Program}{f:FuncId}{args:Array Value}{K:Ending->World->Prop}{enc:α->Value}{enc':β->Value}{T:Prog α}{g:α->Prog β}
  (hO:ROwes R enc' B p w0 (T.bind g) o S)(hB:KeepR B p w0 w)(h:Calls P f args w (RPost enc B p w T o S))
  (hk:∀ v o1 S1 w1,S1.left<=S.left->(o1=false->o=false/\(T.Asks->S1.left<S.left))->RAt B w1 p o1 S1->KeepR B p w w1->KeepR B p w0 w1->ROwes R enc' B p w0 (g v) o1 S1->K (.returned (enc v)) w1):Calls P f args w K:=by
 refine h.mono fun e w1 hp1=>?_
 obtain⟨a,o',S',rfl,hr,h1,h2⟩:=hp1
 refine hk a o' S' w1 (ref_lefts hr) (fun ho=>?_) h1 h2 (hB.trans h2) (hO.then hr)
 subst ho
 cases hr with
 | done hr=>exact⟨rfl,fun ha=>ha.left hr h1.len⟩
end Go.Proofs.YtbaajjkopdjbgaaGreat
namespace Kv
theorem notes_forP {σ:Type}{T:Int->σ->Prog σ}(h:∀ a x,(T a x).Notes 0):∀ (l:List Int) (x:σ),(forP T l x).Notes 0
 | [],x=>.ret x 0
 | a :: l,x=>(h a x).bind0 fun y=>notes_forP h l y
theorem notes_trompW (b l v:Int):(trompW b l v).Notes 0:=by
 refine (notes_gt _).bind0 fun x=>?_
 split
 · exact .ret _ _
 · refine (notes_wr _ _).bind0 fun _=>(notes_st _ _).bind0 fun _=>(notes_gt _).bind0 fun _=>(notes_rd _).bind0 fun _=>?_
   split
   · exact (notes_wr _ _).bind0 fun _=>notes_st _ _
   · exact .ret _ _
theorem notes_trompR3 (b l x:Int):(trompR3 b l x).Notes 0:=by
 refine (notes_rd _).bind0 fun _=>(notes_st _ _).bind0 fun _=>(notes_rd _).bind0 fun _=>(notes_gt _).bind0 fun _=>?_
 split
 · exact notes_gt _
 · exact (notes_rd _).bind0 fun _=>(notes_st _ _).bind0 fun _=>.ret _ _
theorem notes_trompR2 (b l x:Int):(trompR2 b l x).Notes 0:=by
 refine (notes_rd _).bind0 fun _=>(notes_gt _).bind0 fun _=>?_
 split
 · exact notes_trompR3 _ _ _
 · exact (notes_gt _).bind0 fun _=>(notes_wr _ _).bind0 fun _=>(notes_st _ _).bind0 fun _=>notes_trompR3 _ _ _
theorem notes_trompR (b l:Int):(trompR b l).Notes 0:=by
 refine (notes_rd _).bind0 fun _=>(notes_gt _).bind0 fun _=>?_
 split
 · exact notes_gt _
 · exact (notes_rd _).bind0 fun _=>notes_trompR2 _ _ _
theorem notes_slotsW (b l v:Int):(slotsW b l v).Notes 0 :=
 (notes_trompR _ _).bind0 fun _=>(notes_gt _).bind0 fun _=>(notes_wr _ _).bind0 fun _=>(notes_st _ _).bind0 fun _=>(notes_trompW _ _ _).bind0 fun _=>notes_trompW _ _ _
theorem notes_slotsR (b l:Int):(slotsR b l).Notes 0 :=
 (notes_trompR _ _).bind0 fun _=>(notes_trompW _ _ _).bind0 fun _=>(notes_trompR _ _).bind0 fun _=>notes_rd _
theorem notes_tableW (b l n w top me v:Int):(tableW b l n w top me v).Notes 0:=by
 unfold tableW
 split
 · exact .ret _ _
 · exact (notes_gt _).bind0 fun _=>(notes_st _ _).bind0 fun _=>(notes_forP (fun _ _=>notes_slotsW _ _ _) _ _).bind0 fun _=>notes_st _ _
theorem notes_tableR (b l n w top me:Int):(tableR b l n w top me).Notes 0:=by
 unfold tableR
 split
 · exact notes_gt _
 · exact (notes_slotsR _ _).bind0 fun _=>(notes_forP (fun _ _=>(notes_slotsR _ _).bind0 fun _=>.ret _ _) _ _).bind0 fun _=>(notes_forP (fun _ _=>notes_slotsW _ _ _) _ _).bind0 fun _=>.ret _ _
theorem notes_manyRs (b l n top me:Int):∀ (k:Nat) (j s v:Int),(manyRs b l n top me k j s v).Notes 0
 | 0,_,_,_=>.ret _ _
 | k+1,j,s,v=>by
   unfold manyRs
   refine (notes_tableR _ _ _ _ _ _).bind0 fun y=>?_
   split
   · exact notes_manyRs b l n top me k _ _ _
   · exact notes_manyRs b l n top me k _ _ _
theorem notes_regR (r:Reg)(me:Int):(regR r me).Notes 0:=by
 unfold regR
 split
 · exact notes_rd _
 · split
   · exact notes_tableR _ _ _ _ _ _
   · exact (notes_manyRs _ _ _ _ _ _ _ _ _).bind0 fun _=>.ret _ _
theorem notes_regW (r:Reg)(me v:Int):(regW r me v).Notes 0:=by
 unfold regW
 split
 · exact notes_wr _ _
 · split
   · exact notes_tableW _ _ _ _ _ _ _
   · exact (notes_manyRs _ _ _ _ _ _ _ _ _).bind0 fun _=>notes_tableW _ _ _ _ _ _ _
theorem Prog.Notes.keep {α:Type}{p:Prog α}{n:Nat}(h:p.Notes 0){S S1:TS}{a:Option α}(hr:p.run S=(a,S1))(hn:S.nts.length<=n):S1.nts.length<=n:=by
 have:=h.run S
 rw [hr] at this
 simp only at this
 omega
end Kv
namespace Go.Proofs.YtbaajjkopdjbgaaGreat
open Go.RowKit Kv
set_option maxRecDepth 100000 in
theorem note_p (B p:Nat)(S:TS)(n:Int)(w:World)(h:Plays B w p S)(hl:S.nts.length<maxAns) :
  Calls Tryz.prog 89 #[.pointer (some ⟨p,0,none⟩),V Z n] w fun e w'=>e=.returned (.tuple #[])/\Plays B w' p (S.noted n)/\KeepP B p w w':=by
 obtain⟨h1,vA,vL,vC,vN,L,h⟩:=h
 have hc:=cell_of_heap h.heap
 have hbo:=h.ansN;have hbn:=h.ntsN
 unfold maxAns at hbo hbn hl
 have hle:=h.lt;have hge:=h.ge
 obtain⟨An,cn,hvN⟩:∃ A c,vN=.slice A S.nts.length c:=by
  rcases h.rowN.2 with⟨rfl,h0⟩ | ⟨g,cap,cur,rfl,_⟩
  · exact⟨none,0,by rw [h0]⟩
  · exact⟨_,_,rfl⟩
 subst hvN
 obtain⟨Ac,cc,hvC⟩:∃ A c,vC=.slice A S.acc.length c:=by
  rcases h.rowC.2 with⟨rfl,h0⟩ | ⟨g,cap,cur,rfl,_⟩
  · exact⟨none,0,by rw [h0]⟩
  · exact⟨_,_,rfl⟩
 subst hvC
 have hL:=Hd h
 clear h
 obtain⟨i0,hi,hz0,hz1,hz2⟩:=info_parts info_note
 go_enter Tryz.func89,Tryz.ntmps89
 go_wp2_with fail
 go_region_law ((refine step_append_lies _ (by rfl) _ _ _ (by rfl) B 114 i0 _ 2 16 Tryz.underlying28 hi hz0 hz1 hz2 rfl (by omega) (Value.slice An S.nts.length cn) S.nts.length (ntVals S.nts) (by rfl) ((World.ownsRow.drew hL.out.rowN).alloc _) ⟨w.heap.size,0,none⟩ 1 1 [V Z n,V Z S.acc.length] (by rfl) (by rfl) (cells_new1 w _ _) (by simp [Value.oneCell']) (by omega) (by unfold maxLen;omega) (by omega) (by simp;omega) (w.heap.size+1) (by simp) ?_;intro gg cap w1 hown1 hgrow hat hlt;have hp1:=grown_heap hL.out.heap hL.out.cNe.2.2 (grown1 hgrow);have hq1:=cell_of_heap hp1;have hf1:=frozen_of_heap hp1))
 all_goals
  obtain⟨HM,HK⟩:=hL.out.grewN n (grown1 hgrow) (hat.imp id (by omega)) hown1 hl
  clear hown1 hgrow hat hlt hp1 hq1 hf1 hc
  generalize hv':(Value.slice (some ⟨gg,0,none⟩) (S.nts.length+1) cap)=v' at *
  generalize w1.setCell ⟨p,4,none⟩ v'=W at *
  clear hv' w1
  have HMh:Plays B W p (S.noted n):=⟨h1,_,_,_,_,_,HM⟩
  have HKh:=Hd HK
  clear HM HK;go_wp2_with fail
  first | go_end0 | refine bodyPost_ret (results_none rfl _ _ _) rfl ?_
  exact⟨rfl,HMh,HKh.out⟩
set_option maxRecDepth 100000 in
theorem note_rf (B p:Nat)(S:TS)(n:Int)(w:World)(h:RAt B w p false S)(hl:S.nts.length<maxAns) :
  Calls Tryz.prog 197 #[.pointer (some ⟨p,0,none⟩),V Z n] w fun e w'=>e=.returned (.tuple #[])/\RAt B w' p false (S.noted n)/\KeepR B p w w':=by
 obtain⟨m,vA,vC,vN,vL,L,h,hn1,hn2⟩:=h
 have hnh:=Hd (And.intro hn1 hn2)
 clear hn1 hn2
 have hc:=cell_of_heap h.heap
 have hbo:=h.ansN;have hbn:=h.ntsN
 unfold maxAns at hbo hbn hl
 have hle:=h.lt;have hge:=h.ge
 obtain⟨An,cn,hvN⟩:∃ A c,vN=.slice A S.nts.length c:=by
  rcases h.rowN.2 with⟨rfl,h0⟩ | ⟨g,cap,cur,rfl,_⟩
  · exact⟨none,0,by rw [h0]⟩
  · exact⟨_,_,rfl⟩
 subst hvN
 obtain⟨Ac,cc,hvC⟩:∃ A c,vC=.slice A S.acc.length c:=by
  rcases h.rowC.2 with⟨rfl,h0⟩ | ⟨g,cap,cur,rfl,_⟩
  · exact⟨none,0,by rw [h0]⟩
  · exact⟨_,_,rfl⟩
 subst hvC
 have hL:=Hd h
 clear h
 obtain⟨i0,hi,hz0,hz1,hz2⟩:=info_parts info_note
 go_enter Tryz.func197,Tryz.ntmps197
 go_wp2_with fail
 go_region_law ((refine step_append_lies _ (by rfl) _ _ _ (by rfl) B 114 i0 _ 2 16 Tryz.underlying28 hi hz0 hz1 hz2 rfl (by omega) (Value.slice An S.nts.length cn) S.nts.length (ntVals S.nts) (by rfl) ((World.ownsRow.drew hL.out.rowN).alloc _) ⟨w.heap.size,0,none⟩ 1 1 [V Z n,V Z S.acc.length] (by rfl) (by rfl) (cells_new1 w _ _) (by simp [Value.oneCell']) (by omega) (by unfold maxLen;omega) (by omega) (by simp;omega) (w.heap.size+1) (by simp) ?_;intro gg cap w1 hown1 hgrow hat hlt;have hp1:=grown_heap hL.out.heap hL.out.cNe.2.2 (grown1 hgrow);have hq1:=cell_of_heap hp1;have hf1:=frozen_of_heap hp1))
 all_goals
  obtain⟨HM,HK⟩:=hL.out.grewN n (grown1 hgrow) (hat.imp id (by omega)) hown1 hl
  clear hown1 hgrow hat hlt hp1 hq1 hf1 hc
  generalize hv':(Value.slice (some ⟨gg,0,none⟩) (S.nts.length+1) cap)=v' at *
  generalize w1.setCell ⟨p,4,none⟩ v'=W at *
  clear hv' w1
  have HMh:RAt B W p false (S.noted n):=⟨_,_,_,_,_,_,HM,hnh.out.1,hnh.out.2⟩
  have HKh:=Hd HK
  clear HM HK;go_wp2_with fail
  first | go_end0 | refine bodyPost_ret (results_none rfl _ _ _) rfl ?_
  exact⟨rfl,HMh,HKh.out⟩
theorem note_r (B p:Nat)(o:Bool)(S:TS)(n:Int)(w:World)(h:RAt B w p o S)(hl:S.nts.length<maxAns) :
  Calls Tryz.prog 197 #[.pointer (some ⟨p,0,none⟩),V Z n] w (RPost encU B p w (nt n) o S):=by
 cases o with
 | false=>exact (note_rf B p S n w h hl).mono fun e w' ⟨h1,h2,h3⟩=>⟨(),false,_,h1,.done rfl,h2,h3⟩
 | true =>
   have hP:=Hd h
   have hK:=Hd (Keep.refl [3,4,5] B p w)
   obtain⟨vA,m,vC,vN,vL,hc⟩:=h.cell
   clear h
   go_enter Tryz.func197,Tryz.ntmps197
   go_wp2_with fail
   first | go_end0 | refine bodyPost_ret (results_none rfl _ _ _) rfl ?_
   exact⟨(),true,S,rfl,.over _ _,hP.out,hK.out⟩
theorem noteO {B p:Nat}{S:TS}{n:Int}{w:World}(h:Plays B w p S)(hl:S.nts.length<maxAns) :
  Calls Tryz.prog 89 #[.pointer (some ⟨p,0,none⟩),V Z n] w (Post encU B p w ((nt n).run S)) :=
 (note_p B p S n w h hl).mono fun _ _ ⟨h1,h2,h3⟩=>⟨h1,h2,h3⟩
end Go.Proofs.YtbaajjkopdjbgaaGreat
namespace Kv
theorem forP_consB {σ β:Type}(T:Int->σ->Prog σ)(a:Int)(l:List Int)(x:σ)(k:σ->Prog β):(forP T (a :: l) x).bind k=(T a x).bind fun y=>(forP T l y).bind k:=Prog.bind_assoc _ _ _
theorem forP_nilB {σ β:Type}(T:Int->σ->Prog σ)(x:σ)(k:σ->Prog β):(forP T [] x).bind k=k x:=rfl
theorem ranks_cons (but:Int)(n:Nat)(i:Int)(h:i≠but):ranksFrom but (n+1) i=i :: ranksFrom but n (i+1):=by
 rw [ranksFrom,if_neg h]
theorem ranks_skip (n:Nat)(i:Int):ranksFrom i (n+1) i=ranksFrom i n (i+1):=by
 rw [ranksFrom,if_pos rfl]
theorem ranks_zero (but i:Int):ranksFrom but 0 i=[]:=rfl
end Kv
namespace Go.Proofs.YtbaajjkopdjbgaaGreat
open Go.RowKit Kv
theorem RegsAt.nth {ix:List Nat}{p b:Nat}{w:World}{l:List Reg}(h:RegsAt ix w p b l){i:Nat}{r:Reg}(hi:l[i]?=some r):RegCells w b (i*7) r:=reg_cells h.cells hi
theorem Plays.fresh {B p b:Nat}{w w':World}{S:TS}(h:Plays B w p S)(hx:Ext w w')(hb:w.heap.size<=b):¬ ownR [2,3,4] w' p b:=by
 obtain⟨_,_,_,_,_,_,h⟩:=h
 intro ho
 have:=(h.own ((ownR_same (Below.block hx p h.lt) b).1 ho)).2
 omega
theorem RAt.fresh {B p b:Nat}{w w':World}{o:Bool}{S:TS}(h:RAt B w p o S)(hx:Ext w w')(hb:w.heap.size<=b):¬ ownR [3,4,5] w' p b:=by
 obtain⟨_,_,_,_,_,_,h,_⟩:=h
 intro ho
 have:=(h.own ((ownR_same (Below.block hx p h.lt) b).1 ho)).2
 omega
theorem tstepN {α β:Type}{B p:Nat}{w0 w:World}{S:TS}{R:Ending->World->Prop}{P:Program}{f:FuncId}{args:Array Value}{K:Ending->World->Prop}{enc:α->Value}{enc':β->Value}{T:Prog α}{g:α->Prog β}{k:Nat}(hN:T.Notes k)
  (hO:Owes R enc' B p w0 ((T.bind g).run S))(hB:KeepP B p w0 w)(h:Calls P f args w (Post enc B p w (T.run S)))(hp:∀ w',R (stopE p) w'->K (stopE p) w')
  (hk:∀ v S1 w1,S1.left<=S.left->(T.Asks->S1.left<S.left)->S1.nts.length<=S.nts.length+k->Plays B w1 p S1->KeepP B p w w1->KeepP B p w0 w1->Owes R enc' B p w0 ((g v).run S1)->K (.returned (enc v)) w1):Calls P f args w K:=by
 refine tstep hO hB h hp fun v S1 w1 hr hP hk1 hk2 hO1=>hk v S1 w1 ?_ (fun ha=>ha.left hr hP.1) ?_ hP hk1 hk2 hO1
 · have:=Prog.run_left T S
   rw [hr] at this
   exact this
 · have:=hN.run S
   rw [hr] at this
   exact this
theorem ref_notes {α:Type}{T:Prog α}{o o':Bool}{S S':TS}{a:α}{k:Nat}(hN:T.Notes k)(h:Ref T o S a o' S'):S'.nts.length<=S.nts.length+k:=by
 have:=hN.run S
 cases h with
 | over=>omega
 | done h=>rw [h] at this;exact this
 | stop _ h=>rw [h] at this;exact this
theorem rstepN {α β:Type}{B p:Nat}{w0 w:World}{o:Bool}{S:TS}{R:Ending->World->Prop}{P:Program}{f:FuncId}{args:Array Value}{K:Ending->World->Prop}{enc:α->Value}{enc':β->Value}{T:Prog α}{g:α->Prog β}{k:Nat}(hN:T.Notes k)
  (hO:ROwes R enc' B p w0 (T.bind g) o S)(hB:KeepR B p w0 w)(h:Calls P f args w (RPost enc B p w T o S))
  (hk:∀ v o1 S1 w1,S1.left<=S.left->(o1=false->o=false/\(T.Asks->S1.left<S.left))->S1.nts.length<=S.nts.length+k->RAt B w1 p o1 S1->KeepR B p w w1->KeepR B p w0 w1->ROwes R enc' B p w0 (g v) o1 S1->K (.returned (enc v)) w1):Calls P f args w K:=by
 refine h.mono fun e w1 ⟨v,o1,S1,he,hr,h1,h2⟩=>?_
 subst he
 refine hk v o1 S1 w1 (ref_lefts hr) (fun ho=>?_) (ref_notes hN hr) h1 h2 (hB.trans h2) (hO.then hr)
 subst ho
 cases hr with
 | done hr=>exact⟨rfl,fun ha=>ha.left hr h1.len⟩
theorem RegsAt.node2 {ix:List Nat}{p b k:Nat}{w:World}{rs:List Reg}{x y:Reg}(h:RegsAt ix w p b rs)(hi:rs[k]?=some x/\rs[k+1]?=some y) :
  RegCells w b (k*7) x/\RegCells w b (k*7+7) y:=by
 have h1:=h.nth hi.2
 rw [show (k+1)*7=k*7+7 from by omega] at h1
 exact⟨h.nth hi.1,h1⟩
set_option maxRecDepth 100000 in
set_option maxHeartbeats 4000000 in
theorem passn_p (B p:Nat)(S:TS)(x y:Reg)(me:Int)(b c k:Nat)(rs:List Reg)(w:World)(h:Plays B w p S)(hl:RegsAt [2,3,4] w p b rs)(hi:rs[k]?=some x/\rs[k+1]?=some y)(hx:x.ok)(hy:y.ok)(hm:0<=me)(hmx:me<x.n)(hmy:me<y.n) :
  Calls Tryz.prog 168 #[.pointer (some ⟨p,0,none⟩),.slice (some ⟨b,k*7,none⟩) 2 c,V Z me] w (Post encI B p w ((passM x y me).run S)):=by
 generalize hR:Post encI B p w ((passM x y me).run S)=R
 have hO:Owes R encI B p w ((passM x y me).run S):=hR▸owes _ _ _ _ _
 clear hR;replace hi:=Hd hi
 have hmw:=IntWalk.i64_in (me+1) (by have:=hx.n;omega)
 obtain⟨⟨c0,c1,c2,c3,c4,c5,c6⟩,⟨c7,c8,c9,c10,c11,c12,c13⟩⟩:=hl.node2 hi.out
 have hn:=hx.n
 have hK:=Keep.refl [2,3,4] B p w
 have hP:=h;clear h;unfold passM at hO
 go_enter Tryz.func168,Tryz.ntmps168
 go_wp2_with fail
 go_region_held2 (fun w'=>(w'.cell? ⟨b,k*7,none⟩=some (V Z x.kind)/\w'.cell? ⟨b,k*7+1,none⟩=some (V Z x.base)/\w'.cell? ⟨b,k*7+2,none⟩=some (V Z x.loc)/\w'.cell? ⟨b,k*7+3,none⟩=some (V Z x.n)/\w'.cell? ⟨b,k*7+4,none⟩=some (V Z x.wr)/\w'.cell? ⟨b,k*7+5,none⟩=some (V Z x.rd)/\w'.cell? ⟨b,k*7+6,none⟩=some (V Z x.top)) /\
   (w'.cell? ⟨b,k*7+7,none⟩=some (V Z y.kind)/\w'.cell? ⟨b,k*7+7+1,none⟩=some (V Z y.base)/\w'.cell? ⟨b,k*7+7+2,none⟩=some (V Z y.loc)/\w'.cell? ⟨b,k*7+7+3,none⟩=some (V Z y.n)/\w'.cell? ⟨b,k*7+7+4,none⟩=some (V Z y.wr)/\w'.cell? ⟨b,k*7+7+5,none⟩=some (V Z y.rd)/\w'.cell? ⟨b,k*7+7+6,none⟩=some (V Z y.top))) (first | with_reducible exact hl.node2 hi.out | go_keep) (fail)
 · rename_i hh
   clear hh
   obtain⟨b1,b2,hP2,hK2⟩:=two_boxes hP (.cells #[V Z x.kind,V Z x.base,V Z x.loc,V Z x.n,V Z x.wr,V Z x.rd,V Z x.top] 67) (.cells #[V Z y.kind,V Z y.base,V Z y.loc,V Z y.n,V Z y.wr,V Z y.rd,V Z y.top] 67)
   clear hP hK hl;have hP:=hP2;have hK:=hK2;clear hP2 hK2;have c_b1:=b1.cells;have c_b2:=b2.cells;clear c0 c1 c2 c3 c4 c5 c6 c7 c8 c9 c10 c11 c12 c13;go_wp2_with fail
   refine tstep hO hK (reg_write_p B p S x me (me+1) _ hP hx ⟨hm,hmx⟩) (fun _ h=>⟨rfl,h⟩) ?_
   clear hO hK hP c_b1 c_b2;intro u S w1 hr hP hk hK hO;replace b1:=b1.keep hk;have c_b1:=b1.cells;replace b2:=b2.keep hk;have c_b2:=b2.cells;clear hk hr;go_wp2_with fail
   refine tstep hO hK (reg_read_p B p S y me _ hP hy ⟨hm,hmy⟩) (fun _ h=>⟨rfl,h⟩) ?_
   clear hO hK hP c_b1 c_b2;intro v S w1 hr hP hk hK hO;replace b1:=b1.keep hk;have c_b1:=b1.cells;replace b2:=b2.keep hk;have c_b2:=b2.cells;clear hk hr
   by_cases hv:v=0
   · rw [if_neg (by simpa using hv)] at hO
     have hv2:(v != 0)=false:=by simp [hv]
     clear hv;go_wp2_with fail
     refine tstep hO hK (reg_write_p B p S y me 1 _ hP hy ⟨hm,hmy⟩) (fun _ h=>⟨rfl,h⟩) ?_
     clear hO hK hP c_b1 c_b2;intro u S w1 hr hP hk hK hO;replace b1:=b1.keep hk;have c_b1:=b1.cells;replace b2:=b2.keep hk;have c_b2:=b2.cells;clear hk hr;go_wp2_with fail
     refine tstep hO hK (reg_read_p B p S x me _ hP hx ⟨hm,hmx⟩) (fun _ h=>⟨rfl,h⟩) ?_
     clear hO hK hP c_b1 c_b2;intro z S w1 hr hP hk hK hO;replace b1:=b1.keep hk;have c_b1:=b1.cells;replace b2:=b2.keep hk;have c_b2:=b2.cells;clear hk hr
     by_cases hz:z=me+1
     · rw [if_pos hz] at hO
       have hz2:(z==me+1)=true:=by simp [hz]
       clear hz
       have hf:R (.returned (V Z 0)) w1:=hO.done hP hK
       clear hO hP hK;go_wp2_with fail
       exact hf
     · rw [if_neg hz] at hO
       have hz2:(z==me+1)=false:=by rw [beq_eq_false_iff_ne];exact hz
       clear hz
       have hf:R (.returned (V Z 2)) w1:=hO.done hP hK
       clear hO hP hK;go_wp2_with fail
       exact hf
   · rw [if_pos hv] at hO
     have hv2:(v != 0)=true:=by rw [bne_iff_ne];exact hv
     have hf:R (.returned (V Z 1)) w1:=hO.done hP hK
     clear hO hP hK hv;go_wp2_with fail
     exact hf
 · rename_i hh
   clear hh
   obtain⟨b2,b1,hP2,hK2⟩:=two_boxes hP (.cells #[V Z y.kind,V Z y.base,V Z y.loc,V Z y.n,V Z y.wr,V Z y.rd,V Z y.top] 67) (.cells #[V Z x.kind,V Z x.base,V Z x.loc,V Z x.n,V Z x.wr,V Z x.rd,V Z x.top] 67)
   clear hP hK hl;have hP:=hP2;have hK:=hK2;clear hP2 hK2;have c_b1:=b1.cells;have c_b2:=b2.cells;clear c0 c1 c2 c3 c4 c5 c6 c7 c8 c9 c10 c11 c12 c13;go_wp2_with fail
   refine tstep hO hK (reg_write_p B p S x me (me+1) _ hP hx ⟨hm,hmx⟩) (fun _ h=>⟨rfl,h⟩) ?_
   clear hO hK hP c_b1 c_b2;intro u S w1 hr hP hk hK hO;replace b1:=b1.keep hk;have c_b1:=b1.cells;replace b2:=b2.keep hk;have c_b2:=b2.cells;clear hk hr;go_wp2_with fail
   refine tstep hO hK (reg_read_p B p S y me _ hP hy ⟨hm,hmy⟩) (fun _ h=>⟨rfl,h⟩) ?_
   clear hO hK hP c_b1 c_b2;intro v S w1 hr hP hk hK hO;replace b1:=b1.keep hk;have c_b1:=b1.cells;replace b2:=b2.keep hk;have c_b2:=b2.cells;clear hk hr
   by_cases hv:v=0
   · rw [if_neg (by simpa using hv)] at hO
     have hv2:(v != 0)=false:=by simp [hv]
     clear hv;go_wp2_with fail
     refine tstep hO hK (reg_write_p B p S y me 1 _ hP hy ⟨hm,hmy⟩) (fun _ h=>⟨rfl,h⟩) ?_
     clear hO hK hP c_b1 c_b2;intro u S w1 hr hP hk hK hO;replace b1:=b1.keep hk;have c_b1:=b1.cells;replace b2:=b2.keep hk;have c_b2:=b2.cells;clear hk hr;go_wp2_with fail
     refine tstep hO hK (reg_read_p B p S x me _ hP hx ⟨hm,hmx⟩) (fun _ h=>⟨rfl,h⟩) ?_
     clear hO hK hP c_b1 c_b2;intro z S w1 hr hP hk hK hO;replace b1:=b1.keep hk;have c_b1:=b1.cells;replace b2:=b2.keep hk;have c_b2:=b2.cells;clear hk hr
     by_cases hz:z=me+1
     · rw [if_pos hz] at hO
       have hz2:(z==me+1)=true:=by simp [hz]
       clear hz
       have hf:R (.returned (V Z 0)) w1:=hO.done hP hK
       clear hO hP hK;go_wp2_with fail
       exact hf
     · rw [if_neg hz] at hO
       have hz2:(z==me+1)=false:=by rw [beq_eq_false_iff_ne];exact hz
       clear hz
       have hf:R (.returned (V Z 2)) w1:=hO.done hP hK
       clear hO hP hK;go_wp2_with fail
       exact hf
   · rw [if_pos hv] at hO
     have hv2:(v != 0)=true:=by rw [bne_iff_ne];exact hv
     have hf:R (.returned (V Z 1)) w1:=hO.done hP hK
     clear hO hP hK hv;go_wp2_with fail
     exact hf
end Go.Proofs.YtbaajjkopdjbgaaGreat
namespace Kv
def regAt (l:List Reg) (i:Int):Reg:=l.getD i.toNat ⟨1,0,0,1,-1,-1,1⟩
theorem regAt_of {l:List Reg}{i:Int}{k:Nat}{r:Reg}(hi:i=k)(h:l[k]?=some r):regAt l i=r:=by
 unfold regAt
 rw [hi,Int.toNat_natCast,List.getD_eq_getElem?_getD,h];rfl
def filWait (r v:Reg) (me level:Int):Nat->Prog Unit
 | 0=>.ret ()
 | n+1=>(regR r me).bind fun x=>if x<level then .ret () else (regR v me).bind fun y=>if y=me+1 then filWait r v me level n else .ret ()
def filLevel (N:Nat) (l:List Reg) (n me level:Int):Prog Unit :=
 (regW (regAt l me) me level).bind fun _=>(regW (regAt l (n-1+level)) me (me+1)).bind fun _ =>
   forP (fun j _=>filWait (regAt l j) (regAt l (n-1+level)) me level N) (ranksFrom me n.toNat 0) ()
def filA (N:Nat) (l:List Reg) (n me:Int):Prog Int :=
 (nt 1).bind fun _=>(forP (fun level _=>filLevel N l n me level) (ranksFrom (-1) (n-1).toNat 1) ()).bind fun _=>(nt 3).bind fun _=>.ret 0
def filR (l:List Reg) (me:Int):Prog Unit:=(nt 5).bind fun _=>regW (regAt l me) me 0
def zeroP (r:Reg) (me:Int):Nat->Prog Unit
 | 0=>.ret ()
 | n+1=>(regR r me).bind fun x=>if x=0 then .ret () else zeroP r me n
def fastTry (N:Nat) (l:List Reg) (n me:Int):Nat->Prog Unit
 | 0=>.ret ()
 | k+1=>(regW (regAt l (2+me)) me 1).bind fun _=>(regW (regAt l 0) me (me+1)).bind fun _=>(regR (regAt l 1) me).bind fun y =>
    if y=0 then
     (regW (regAt l 1) me (me+1)).bind fun _=>(regR (regAt l 0) me).bind fun x =>
       if x=me+1 then .ret () else
        (regW (regAt l (2+me)) me 0).bind fun _=>(forP (fun j _=>zeroP (regAt l (2+j)) me N) (ranksFrom (-1) n.toNat 0) ()).bind fun _ =>
          (regR (regAt l 1) me).bind fun y=>if y=me+1 then .ret () else (zeroP (regAt l 1) me N).bind fun _=>fastTry N l n me k
    else (regW (regAt l (2+me)) me 0).bind fun _=>(zeroP (regAt l 1) me N).bind fun _=>fastTry N l n me k
def fastA (N:Nat) (l:List Reg) (n me:Int):Prog Int:=(nt 1).bind fun _=>(fastTry N l n me N).bind fun _=>(nt 3).bind fun _=>.ret 0
def fastR (l:List Reg) (me:Int):Prog Unit:=(nt 5).bind fun _=>(regW (regAt l 1) me 0).bind fun _=>regW (regAt l (2+me)) me 0
def bwMost (l:List Reg) (n me c:Int) (t:Int):Prog Int :=
 forP (fun j t=>(regR (regAt l (1+n+j)) me).bind fun x=>.ret (if x % 2=c then max t (x / 2) else t)) (ranksFrom me n.toNat 0) t
def bwChoose (r:Reg) (me:Int):Nat->Prog Unit
 | 0=>.ret ()
 | n+1=>(regR r me).bind fun x=>if x=0 then .ret () else bwChoose r me n
def bwWait (l:List Reg) (n me j t c:Int):Nat->Prog Unit
 | 0=>.ret ()
 | k+1=>(regR (regAt l (1+n+j)) me).bind fun x =>
    if x / 2=0 then .ret () else if x % 2=c then (if t<x / 2∨(x / 2=t/\me<j) then .ret () else bwWait l n me j t c k)
    else (regR (regAt l 0) me).bind fun y=>if bitM y=c then bwWait l n me j t c k else .ret ()
def bwA (N:Nat) (l:List Reg) (own n me:Int):Prog Int :=
 (nt 1).bind fun _=>(regW (regAt l (1+me)) me 1).bind fun _=>(regR (regAt l 0) me).bind fun y=>(st own (bitM y)).bind fun _ =>
   (bwMost l n me (bitM y) 0).bind fun t=>(regW (regAt l (1+n+me)) me (2*(t+1)+bitM y)).bind fun _=>(regW (regAt l (1+me)) me 0).bind fun _=>(nt 2).bind fun _ =>
     (forP (fun j _=>(bwChoose (regAt l (1+j)) me N).bind fun _=>bwWait l n me j (t+1) (bitM y) N) (ranksFrom me n.toNat 0) ()).bind fun _=>(nt 3).bind fun _=>.ret 0
def bwR (l:List Reg) (own n me:Int):Prog Unit :=
 (nt 5).bind fun _=>(gt own).bind fun x=>(regW (regAt l 0) me (1-bitM x)).bind fun _=>regW (regAt l (1+n+me)) me (bitM x)
theorem filLevel_bind {β:Type}(N:Nat)(l:List Reg)(n me level:Int)(f:Unit->Prog β):(filLevel N l n me level).bind f=(regW (regAt l me) me level).bind fun _=>(regW (regAt l (n-1+level)) me (me+1)).bind fun _ =>
  (forP (fun j _=>filWait (regAt l j) (regAt l (n-1+level)) me level N) (ranksFrom me n.toNat 0) ()).bind f:=by
 unfold filLevel
 simp only [Prog.bind_assoc]
theorem filWait_bind {β:Type}(r v:Reg)(me level:Int)(n:Nat)(f:Unit->Prog β):(filWait r v me level (n+1)).bind f=(regR r me).bind fun x=>if x<level then f () else (regR v me).bind fun y=>if y=me+1 then (filWait r v me level n).bind f else f ():=by
 rw [show filWait r v me level (n+1)=(regR r me).bind fun x=>if x<level then .ret () else (regR v me).bind fun y=>if y=me+1 then filWait r v me level n else .ret () from rfl,Prog.bind_assoc]
 congr 1
 funext x
 split
 · rfl
 · rw [Prog.bind_assoc]
   congr 1
   funext y
   split <;> rfl
theorem zeroP_bind {β:Type}(r:Reg)(me:Int)(n:Nat)(f:Unit->Prog β):(zeroP r me (n+1)).bind f=(regR r me).bind fun x=>if x=0 then f () else (zeroP r me n).bind f:=by
 rw [show zeroP r me (n+1)=(regR r me).bind fun x=>if x=0 then .ret () else zeroP r me n from rfl,Prog.bind_assoc]
 congr 1
 funext x
 split <;> rfl
theorem notes_filWait (r v:Reg)(me level:Int):∀ n:Nat,(filWait r v me level n).Notes 0
 | 0=>.ret _ _
 | n+1=>by
   rw [show filWait r v me level (n+1)=(regR r me).bind fun x=>if x<level then .ret () else (regR v me).bind fun y=>if y=me+1 then filWait r v me level n else .ret () from rfl]
   refine (notes_regR _ _).bind0 fun x=>?_
   split
   · exact .ret _ _
   · refine (notes_regR _ _).bind0 fun y=>?_
     split
     · exact notes_filWait r v me level n
     · exact .ret _ _
theorem notes_zeroP (r:Reg)(me:Int):∀ n:Nat,(zeroP r me n).Notes 0
 | 0=>.ret _ _
 | n+1=>by
   rw [show zeroP r me (n+1)=(regR r me).bind fun x=>if x=0 then .ret () else zeroP r me n from rfl]
   refine (notes_regR _ _).bind0 fun x=>?_
   split
   · exact .ret _ _
   · exact notes_zeroP r me n
end Kv
namespace Kv
open Go
def Fr:Nat->(List Value->Prop)->Prop
 | 0,G=>G []
 | n+1,G=>∀ u:Value,Fr n fun l=>G (u :: l)
theorem fr_list:∀ (n:Nat) (G:List Value->Prop),Fr n G->∀ l:List Value,l.length=n->G l
 | 0,G,h,[],_=>h
 | n+1,G,h,u :: l,hl=>fr_list n (fun l=>G (u :: l)) (h u) l (by simpa using hl)
theorem fr_act (n:Nat)(G:Act->Prop)(h:Fr n fun l=>G ⟨l.toArray,[]⟩)(a:Act)(hd:a.defers=[])(hs:a.tmps.size=n):G a:=by
 obtain⟨⟨l⟩,d⟩:=a
 obtain rfl:d=[]:=hd
 exact fr_list n (fun l=>G ⟨l.toArray,[]⟩) h l (by simpa using hs)
def Jumps (J:Nat->Act->World->Prop) (Q:Exit->Act->World->Prop):Exit->Act->World->Prop
 | .goto l,a,w=>J l a w
 | e,a,w=>Q e a w
section
variable {P:Program} {a:Act} {w:World} {J:Nat->Act->World->Prop} {Q:Exit->Act->World->Prop}
@[go_sem] theorem jumps_normal:Jumps J Q .normal a w=Q .normal a w:=rfl
@[go_sem] theorem jumps_exit (id:Nat):Jumps J Q (.exit id) a w=Q (.exit id) a w:=rfl
@[go_sem] theorem jumps_ret:Jumps J Q .ret a w=Q .ret a w:=rfl
@[go_sem] theorem jumps_panic (c:List PanicEntry):Jumps J Q (.panic c) a w=Q (.panic c) a w:=rfl
@[go_sem] theorem jumps_goto (l:Nat):Jumps J Q (.goto l) a w=J l a w:=rfl
theorem wp_scope_labels {c:Code}(J:Nat->Act->World->Prop)(μ:Nat->Act->World->Nat)(first:c.wp P (Jumps J Q) a w)
  (pass:∀ l a w,J l a w->∃ rest,findLabel c l=some rest/\rest.wp P (Jumps (fun l' a' w'=>J l' a' w'/\μ l' a' w'<μ l a w) Q) a w):(Code.scope c).wp P Q a w:=by
 intro b k cs
 have key:∀ n l a w rest,findLabel c l=some rest->μ l a w=n->J l a w->∃ e a' w',Q e a' w'/\Arrives P (lone (b.at a (.code rest :: .inScope c :: k)) cs w) b k cs e a' w':=by
  intro n
  induction n using Nat.strongRecOn with
  | _ n ih =>
    intro l a w rest hf hn hJ
    obtain⟨rest',hf',hp⟩:=pass l a w hJ
    obtain rfl:rest=rest':=by rw [hf] at hf';injection hf'
    obtain⟨e,a₁,w₁,hq,harr⟩:=hp b (.inScope c :: k) cs
    cases e with
    | normal=>exact⟨.normal,a₁,w₁,hq,Steps.trans harr (.one step_inScope)⟩
    | exit id=>exact⟨.exit id,a₁,w₁,hq,fun k' hk=>harr k' (by simp [exitTo,hk])⟩
    | goto l' =>
      obtain⟨hJ',hlt⟩:=hq
      obtain⟨rest2,hf2,_⟩:=pass l' a₁ w₁ hJ'
      have hg:gotoIn l' (.inScope c :: k)=some (.code rest2 :: .inScope c :: k):=by simp [gotoIn,hf2]
      obtain⟨e₂,a₂,w₂,hq₂,harr₂⟩:=ih _ (by omega) l' a₁ w₁ rest2 hf2 rfl hJ'
      exact⟨e₂,a₂,w₂,hq₂,.of_steps (harr _ hg) harr₂⟩
    | ret=>exact⟨_,a₁,w₁,hq,harr⟩
    | panic ch=>exact⟨_,a₁,w₁,hq,harr⟩
    | outgrown=>exact⟨_,a₁,w₁,hq,harr⟩
 obtain⟨e,a₁,w₁,hq,harr⟩:=first b (.inScope c :: k) cs
 cases e with
 | normal=>exact⟨.normal,a₁,w₁,hq,.head step_scope (Steps.trans harr (.one step_inScope))⟩
 | exit id=>exact⟨.exit id,a₁,w₁,hq,fun k' hk=>.head step_scope (harr k' (by simp [exitTo,hk]))⟩
 | goto l' =>
   obtain⟨rest2,hf2,_⟩:=pass l' a₁ w₁ hq
   have hg:gotoIn l' (.inScope c :: k)=some (.code rest2 :: .inScope c :: k):=by simp [gotoIn,hf2]
   obtain⟨e₂,a₂,w₂,hq₂,harr₂⟩:=key _ l' a₁ w₁ rest2 hf2 rfl hq
   exact⟨e₂,a₂,w₂,hq₂,.of_steps (.head step_scope (harr _ hg)) harr₂⟩
 | ret=>exact⟨_,a₁,w₁,hq,.of_steps (.one step_scope) harr⟩
 | panic ch=>exact⟨_,a₁,w₁,hq,.of_steps (.one step_scope) harr⟩
 | outgrown=>exact⟨_,a₁,w₁,hq,.of_steps (.one step_scope) harr⟩
theorem wp_scope_fall {c:Code}(J:Nat->Act->World->Prop)(μ:Nat->Act->World->Nat)
  (pass:∀ l a w,J l a w->∃ rest,findLabel c l=some (.seq .skip rest)/\rest.wp P (Jumps (fun l' a' w'=>J l' a' w'/\μ l' a' w'<μ l a w) Q) a w)
  (first:(∀ l rest a w,findLabel c l=some (.seq .skip rest)->J l a w->rest.wp P (Jumps J Q) a w)->c.wp P (Jumps J Q) a w):(Code.scope c).wp P Q a w:=by
 refine wp_scope_labels J μ (first fun l rest a w hf hJ=>?_) fun l a w hJ=>?_
 · obtain⟨rest',hf',hp⟩:=pass l a w hJ
   obtain rfl:rest=rest':=by rw [hf] at hf';simpa using hf'
   refine Code.wp_mono (fun e a2 w2 hq=>?_) hp
   cases e with
   | goto l'=>exact hq.1
   | normal=>exact hq
   | exit id=>exact hq
   | ret=>exact hq
   | panic ch=>exact hq
   | outgrown=>exact hq
 · obtain⟨rest,hf,hp⟩:=pass l a w hJ
   exact⟨_,hf,wp_seq (wp_skip hp)⟩
end
end Kv
namespace Kv
open Go Go.RowKit
def nameM (l:List Reg) (N:Nat) (me:Int):Nat->Nat->Nat->Prog Int
 | 0,_,_=>.ret ((triN N:Int)-1)
 | f+1,x,y=>(passM (regAt l (2*(triName x y:Int))) (regAt l (2*(triName x y:Int)+1)) me).bind fun told =>
    if told=0 then .ret (triName x y:Int) else if told=1 then nameM l N me f (x+1) y else nameM l N me f x (y+1)
def getM (l:List Reg) (N:Nat) (own me:Int):Prog Int :=
 (gt own).bind fun had=>if had≠0 then .ret (wrap64 (had-1)) else (nameM l N me N 0 0).bind fun name=>(st own (name+1)).bind fun _=>.ret name
end Kv
namespace Go.Proofs.YtbaajjkopdjbgaaGreat
open Go.RowKit Kv
theorem rat_p (b len k d:Nat)(w:World)(h:2*k+2<=len)(_hc:len<=d+2*k+2)(hc2:d+2*k+2<=9223372036854775807)(_hl:len<=100000) :
  Calls Tryz.prog 169 #[.slice (some ⟨b,0,none⟩) len (d+2*k+2),V Z k] w fun e w'=>(∃ c2,e=.returned (.slice (some ⟨b,2*k*7,none⟩) 2 c2))/\w=w':=by
 have e1:=IntWalk.i64_in (2*(k:Int)) (by omega)
 have e2:=IntWalk.i64_in (2*(k:Int)+2) (by omega)
 have e3:decide ((k:Int)<0)=false:=by rw [decide_eq_false_iff_not];omega
 have e4:decide ((len:Int)<2*(k:Int)+2)=false:=by rw [decide_eq_false_iff_not];omega
 have e5:(2*(k:Int)).toNat=2*k:=by omega
 have e6:(2*(k:Int)+2).toNat=2*k+2:=by omega
 have e7:2*(k:Int)+2<=((d+2*k+2:Nat):Int):=by omega
 have e8:0<=2*(k:Int):=by omega
 have e9:2*(k:Int)<=2*(k:Int)+2:=by omega
 go_enter Tryz.func169,Tryz.ntmps169
 go_wp2_with fail
 go_ret
 exact⟨⟨_,rfl⟩,rfl⟩
def zsum:Value->Nat
 | .complex _ a b=>match ptOf a b with
   | some p=>(p.1+p.2).toNat
   | none=>0
 | _=>0
theorem zsum_eq {a b x y:Nat}(h:ptOf a b=some ((x:Int),(y:Int))):zsum (.complex .f64 a b)=x+y:=by
 simp only [zsum,h]
 omega
set_option maxRecDepth 100000 in
set_option maxHeartbeats 2000000 in
theorem getname_p (B p N:Nat)(S:TS)(rs:List Reg)(own:Int)(m b d:Nat)(w:World)(h:Plays B w p S)(hreg:RegsAt [2,3,4] w p b rs)(hlen:rs.length=2*triN N)(hok:∀ r∈rs,r.ok/\r.n=N)(h1:1<=N)(h2:N<=8)(hm1:m<N)
  (hd:d<=9223372036854775000) :
  Calls Tryz.prog 90 #[.pointer (some ⟨p,0,none⟩),.slice (some ⟨b,0,none⟩) rs.length (d+rs.length),V Z N,V Z own,V Z m] w (Post encI B p w ((getM rs N own m).run S)):=by
 generalize hR:Post encI B p w ((getM rs N own m).run S)=R
 have hO:Owes R encI B p w ((getM rs N own m).run S):=hR▸owes _ _ _ _ _
 clear hR
 have hK:=Keep.refl [2,3,4] B p w
 have hP:=h;clear h;unfold getM at hO;rw [run_gt] at hO
 have hT36:triN N<=36:=by
  have:=triN_mono h2
  rw [show triN 8=36 from by decide] at this
  exact this
 have hT1:1<=triN N:=by
  have:=triN_mono h1
  rw [show triN 1=1 from by decide] at this
  exact this
 have hsz:=fun w=>gsize_p N (by omega) w
 have hat1:=fun w=>at_p 1 0 w
 have hat2:=fun w=>at_p 0 1 w
 have hat3:=fun w=>at_p 0 0 w
 rw [show clampR 1=1 from by decide,show clampR 0=0 from by decide] at hat1 hat2
 rw [show clampR 0=0 from by decide] at hat3
 have hpt1:ptOf (floatOfInt .f64 1) (floatOfInt .f64 0)=some (1,0):=pt_nat 1 0 (by omega) (by omega)
 have hpt2:ptOf (floatOfInt .f64 0) (floatOfInt .f64 1)=some (0,1):=pt_nat 0 1 (by omega) (by omega)
 have hpt3:ptOf (floatOfInt .f64 0) (floatOfInt .f64 0)=some (((0:Nat):Int),((0:Nat):Int)):=pt_nat 0 0 (by omega) (by omega)
 have hptsh:=Hd (And.intro hpt1 (And.intro hpt2 hpt3))
 clear hpt1 hpt2 hpt3
 obtain⟨r1,hr1⟩:∃ x,floatOfInt .f64 1=x:=⟨_,rfl⟩
 obtain⟨r0,hr0⟩:∃ x,floatOfInt .f64 0=x:=⟨_,rfl⟩
 have hw1:=IntWalk.i64_in ((triN N:Int)-1) (by omega)
 have hoh:=Hd hO
 have hlenh:=Hd hlen
 have hokh:=Hd hok
 clear hO hok
 go_enter Tryz.func90,Tryz.ntmps90
 go_wp2_with fail
 refine wp_scope_straight ?_
 go_wp2_with fail
 refine (get_p B p S own _ hP).mono ?_
 rintro e w' ⟨rfl,rfl⟩;have hO:=hoh.out;clear hoh
 generalize S.got own=x at hO ⊢
 by_cases hx:x=0
 · have dx:(x != 0)=false:=by simpa using hx
   rw [if_neg (by simpa using hx)] at hO
   have hOh:=Hd hO;clear hO hx;go_wp2_with fail
   refine (hsz _).mono ?_
   rintro e w' ⟨rfl,rfl⟩;go_wp2_with fail
   refine (hat1 _).mono ?_
   rintro e w' ⟨rfl,rfl⟩;go_wp2_with fail
   refine (hat2 _).mono ?_
   rintro e w' ⟨rfl,rfl⟩;go_wp2_with fail
   refine (hat3 _).mono ?_
   rintro e w' ⟨rfl,rfl⟩;go_wp2_with fail
   apply wp_label
   rename_i hKK
   replace hKK:=Hd hKK
   refine hKK.out _ _ ?_
   clear hKK
   obtain⟨G,hG⟩:∃ G:Int->Prog Int,G=fun name=>(st own (name+1)).bind fun _=>.ret name:=⟨_,rfl⟩
   replace hO:=hOh.out
   rw [<- hG] at hO
   have hOh2:=Hd hO
   have hGh:=Hd hG
   clear hO hOh hG hsz hat1 hat2 hat3;go_wp2_with fail
   go_loopw [12,15] (fun u z wr=>∃ (f x y za zb:Nat) (S2:TS),z=.complex .f64 za zb/\Hid (ptOf za zb=some ((x:Int),(y:Int)))/\x+y+f=N/\u=V Z ((triN N:Int)-1)/\Plays B wr p S2/\KeepP B p w wr/\RegsAt [2,3,4] wr p b rs/\Hid (Owes R encI B p w (((nameM rs N m f x y).bind G).run S2))) (fun _ z _=>N-zsum z)
   case atStart=>exact⟨N,0,0,r0,r0,S,rfl,Hd (by rw [<- hr0];exact hptsh.out.2.2),by omega,rfl,hP,hK,hreg,hOh2⟩
   case round =>
    clear hP hK hreg hOh2
    obtain⟨f,x,y,za,zb,S2,rfl,hpt,hxy,rfl,hP,hK,hreg,hOh⟩:=hrel
    have hon:=fun w=>gon_p N za zb x y hpt.out (by omega) w
    cases f with
    | zero =>
      have d1:decide (x+y<N)=false:=by rw [decide_eq_false_iff_not];omega
      rw [d1] at hon;replace hO:=hOh.out
      rw [show nameM rs N m 0 x y=.ret ((triN N:Int)-1) from rfl,Prog.bind_ret,show G ((triN N:Int)-1)=(st own (triN N:Int)).bind fun _=>.ret ((triN N:Int)-1) from by
       rw [hGh.out]
       show (st own ((triN N:Int)-1+1)).bind _=_
       rw [show (triN N:Int)-1+1=(triN N:Int) from by omega]] at hO
      clear hOh;have hOh:=Hd hO
      have hw2:IntKind.i64.wrap ((triN N:Int)-1+1)=(triN N:Int):=by rw [IntWalk.i64_in _ (by omega)];omega
      have hw3:IntKind.i64.wrap (triN N:Int)=(triN N:Int):=IntWalk.i64_in _ (by omega)
      clear hO hpt hxy;go_wp2_with fail
      refine (hon _).mono ?_
      rintro e w' ⟨rfl,rfl⟩;go_wp2_with fail
      refine tstep hOh.out hK (setO hP) (fun _ h=>⟨rfl,h⟩) ?_
      clear hOh hK hP;intro u9 S9 w9 _ hP hk hK hO
      have hf:=hO.done (v:=(triN N:Int)-1) hP hK
      clear hO hP hK hk;go_wp2_with fail
      first | exact hf | (go_ret;exact hf)
    | succ f =>
      have d1:decide (x+y<N)=true:=by rw [decide_eq_true_eq];omega
      rw [d1] at hon
      have hkl:=triName_lt (x:=x) (y:=y) (N:=N) (by omega)
      have hnm:=fun w=>gname_p za zb x y hpt.out (by omega) w
      obtain⟨k,hk⟩:∃ k,triName x y=k:=⟨_,rfl⟩
      rw [hk] at hkl hnm
      obtain⟨q0,hq0⟩:∃ r,rs[2*k]?=some r:=⟨_,List.getElem?_eq_getElem (by omega)⟩
      obtain⟨q1,hq1⟩:∃ r,rs[2*k+1]?=some r:=⟨_,List.getElem?_eq_getElem (by omega)⟩
      have hok0:=hokh.out _ (List.mem_of_getElem? hq0)
      have hok1:=hokh.out _ (List.mem_of_getElem? hq1)
      have hra:=fun w=>rat_p b (2*triN N) k (d+2*triN N-(2*k+2)) w (by omega) (by omega) (by omega) (by omega)
      rw [show d+2*triN N-(2*k+2)+2*k+2=d+2*triN N from by omega] at hra
      replace hO:=hOh.out
      rw [show nameM rs N m (f+1) x y=((passM (regAt rs (2*(triName x y:Int))) (regAt rs (2*(triName x y:Int)+1)) m).bind fun told =>
       if told=0 then .ret (triName x y:Int) else if told=1 then nameM rs N m f (x+1) y else nameM rs N m f x (y+1)) from rfl,hk,regAt_of (show 2*(k:Int)=((2*k:Nat):Int) from by omega) hq0,regAt_of (show 2*(k:Int)+1=((2*k+1:Nat):Int) from by omega) hq1,Prog.bind_assoc] at hO
      clear hOh;have hOh:=Hd hO
      have hqq:=Hd (And.intro hq0 hq1)
      have hzs:=Hd (zsum_eq hpt.out)
      have hxyh:=Hd hxy
      have hkh:=Hd hk
      clear hO hq0 hq1 hxy hk;go_wp2_with fail
      refine (hon _).mono ?_
      rintro e w' ⟨rfl,rfl⟩;go_wp2_with fail
      refine (hnm _).mono ?_
      rintro e w' ⟨rfl,rfl⟩;go_wp2_with fail
      refine (hra _).mono ?_
      rintro e w' ⟨⟨cc,rfl⟩,rfl⟩
      go_wp2_with fail
      refine tstep hOh.out hK (passn_p B p S2 q0 q1 m b cc (2*k) rs _ hP hreg hqq.out hok0.1 hok1.1 (by omega) (by rw [hok0.2];omega) (by rw [hok1.2];omega)) (fun _ h=>⟨rfl,h⟩) ?_
      clear hOh hK hP;intro told S3 w3 hrun hP hk1 hK hO;replace hreg:=hreg.keep hk1;clear hk1 hrun hqq hok0 hok1 hra hon
      by_cases ht0:told=0
      · have dt:(told==0)=true:=by rw [beq_iff_eq];exact ht0
        rw [if_pos ht0,Prog.bind_ret,show G (k:Int)=(st own ((k:Int)+1)).bind fun _=>.ret (k:Int) from by rw [hGh.out]] at hO
        have hOh:=Hd hO
        have hw2:IntKind.i64.wrap ((k:Int)+1)=(k:Int)+1:=IntWalk.i64_in _ (by omega)
        clear hO ht0 hzs hpt;go_wp2_with fail
        refine (hnm _).mono ?_
        rintro e w' ⟨rfl,rfl⟩;go_wp2_with fail
        refine tstep hOh.out hK (setO hP) (fun _ h=>⟨rfl,h⟩) ?_
        clear hOh hK hP;intro u9 S9 w9 _ hP hk hK hO
        have hf:=hO.done (v:=(k:Int)) hP hK
        clear hO hP hK hk;go_wp2_with fail
        first | exact hf | (go_ret;exact hf)
      · have dt:(told==0)=false:=by rw [beq_eq_false_iff_ne];exact ht0
        rw [if_neg ht0] at hO;clear hnm ht0
        by_cases ht1:told=1
        · have dt1:(told==1)=true:=by rw [beq_iff_eq];exact ht1
          rw [if_pos ht1] at hO;have hOh:=Hd hO
          obtain⟨re,im,hsum,hp2⟩:=padd hpt.out hptsh.out.1 (by have:=hxyh.out;exact⟨by simp only;omega,by simp only;omega,by simp only;omega,by simp only;omega⟩)
          rw [hr1,hr0] at hsum
          have hadd:=fun W=>run_complex_sum (P:=Tryz.prog) W .add (.inl rfl) 138 .f64 za zb r1 r0 re im hsum
          have hp3:ptOf re im=some (((x+1:Nat):Int),((y:Nat):Int)):=by rw [hp2];simp
          have hp3h:=Hd hp3
          clear hO ht1 hpt hsum hp2 hp3;go_wp2_with fail
          refine⟨⟨f,x+1,y,re,im,S3,rfl,hp3h,by have:=hxyh.out;omega,rfl,hP,hK,hreg,hOh⟩,?_⟩
          rw [hzs.out,zsum_eq hp3h.out]
          have:=hxyh.out
          omega
        · have dt1:(told==1)=false:=by rw [beq_eq_false_iff_ne];exact ht1
          rw [if_neg ht1] at hO;have hOh:=Hd hO
          obtain⟨re,im,hsum,hp2⟩:=padd hpt.out hptsh.out.2.1 (by have:=hxyh.out;exact⟨by simp only;omega,by simp only;omega,by simp only;omega,by simp only;omega⟩)
          rw [hr1,hr0] at hsum
          have hadd:=fun W=>run_complex_sum (P:=Tryz.prog) W .add (.inl rfl) 138 .f64 za zb r0 r1 re im hsum
          have hp3:ptOf re im=some (((x:Nat):Int),((y+1:Nat):Int)):=by rw [hp2];simp
          have hp3h:=Hd hp3
          clear hO ht1 hpt hsum hp2 hp3;go_wp2_with fail
          refine⟨⟨f,x,y+1,re,im,S3,rfl,hp3h,by have:=hxyh.out;omega,rfl,hP,hK,hreg,hOh⟩,?_⟩
          rw [hzs.out,zsum_eq hp3h.out]
          have:=hxyh.out
          omega
 · have dx:(x != 0)=true:=by simpa using hx
   rw [if_pos (by simpa using hx)] at hO
   have hf:=hO.done hP hK
   clear hO hx;go_wp2_with fail
   first | exact hf | (go_ret;exact hf)
end Go.Proofs.YtbaajjkopdjbgaaGreat
