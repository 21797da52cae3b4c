/-
  EisenOneSaid: part 2 of its proof.
-/
import Derived.Test.YtbphlkaihfbgeaaJEisenOneSaid1
import Derived.Laws.StructEq
import Derived.Deep.DeepCutAuto
namespace Go.Proofs.Ytbphlkaihfbgeaa
open Go.RowKit Kv
def encP (q:Int × Int):Value:=.agg #[.int .i64 q.1,.int .i64 q.2]
@[go_sem] theorem encP_eq (q:Int × Int):encP q=.agg #[.int .i64 q.1,.int .i64 q.2]:=rfl
theorem Held.set2 {ix:List Nat}{w:World}{p b:Nat}{u v:Value}{t:TypeId}(h:Held ix w p b (.cells #[u,v] t (0,0)))(u' v':Value):Held ix ((w.setCell ⟨b,0,none⟩ u').setCell ⟨b,1,none⟩ v') p b (.cells #[u',v'] t (0,0)):=by
 have h1:Held ix (w.setCell ⟨b,0,none⟩ u') p b (.cells #[u',v] t (0,0)):=⟨heap_setCell h.1 u',fun h'=>h.2 ((ownR_same ((OneB.setCell w b 0 u').block p (fun e=>h.2 (.inl e.symm))) b).1 h')⟩
 exact⟨heap_setCell h1.1 v',fun h'=>h1.2 ((ownR_same ((OneB.setCell _ b 1 v').block p (fun e=>h1.2 (.inl e.symm))) b).1 h')⟩
theorem OneB.set2 (w:World)(b:Nat)(u v:Value):OneB b w ((w.setCell ⟨b,0,none⟩ u).setCell ⟨b,1,none⟩ v) :=
 ⟨rfl,rfl,rfl,by simp,fun k hk=>(heap_setCell_ne _ v hk).trans (heap_setCell_ne w u hk)⟩
theorem manyRs_step (b l n top me:Int)(k:Nat)(j s v:Int):manyRs b l n top me (k+1) j s v=(tableR (manyB b n j) (manyL l n j) n j (manyTop top) me).bind fun y =>
   if s<=unHi y (clamp top 255) then manyRs b l n top me k (j+1) (unHi y (clamp top 255)) (unLo y (clamp top 255)) else manyRs b l n top me k (j+1) s v:=rfl
set_option maxHeartbeats 2000000 in
theorem greatest_p (B p:Nat)(S:TS)(r:Reg)(me:Int)(w:World)(h:Plays B w p S)(hn1:1<=r.n)(hn2:r.n<=8)(hm:0<=me/\me<r.n)(hb1:0<=r.base)(hb2:r.base<=50000)(hl1:0<=r.loc)(hl2:r.loc<=49000) :
  Calls Try.prog 164 #[.pointer (some ⟨p,0,none⟩),encR r,.int .i64 me] w (Post encP B p w ((manyRs r.base r.loc r.n r.top me r.n.toNat 0 0 0).run S)):=by
 generalize hR:Post encP B p w ((manyRs r.base r.loc r.n r.top me r.n.toNat 0 0 0).run S)=R
 have hO:Owes R encP B p w ((manyRs r.base r.loc r.n r.top me r.n.toNat 0 0 0).run S):=hR▸owes _ _ _ _ _
 clear hR
 obtain⟨kind,base,loc,n,wr',rd,top⟩:=r
 simp only at hn1 hn2 hm hb1 hb2 hl1 hl2 hO
 unfold encR
 have hK:=Keep.refl [2,3,4] B p w
 have hP:=h
 have b1:=hP.held (.cells #[.int .i64 kind,.int .i64 base,.int .i64 loc,.int .i64 n,.int .i64 wr',.int .i64 rd,.int .i64 top] 56)
 replace hK:=hK.trans (Keep.alloc (.cells #[.int .i64 kind,.int .i64 base,.int .i64 loc,.int .i64 n,.int .i64 wr',.int .i64 rd,.int .i64 top] 56) hP.lt hP.le)
 replace hP:=hP.alloc (.cells #[.int .i64 kind,.int .i64 base,.int .i64 loc,.int .i64 n,.int .i64 wr',.int .i64 rd,.int .i64 top] 56)
 have b2:=hP.held (.cells #[.int .i64 0,.int .i64 0] 141)
 simp only [World.size_alloc] at b2
 replace b1:=b1.alloc (.cells #[.int .i64 0,.int .i64 0] 141) hP.lt
 replace hK:=hK.trans (Keep.alloc (.cells #[.int .i64 0,.int .i64 0] 141) hP.lt hP.le)
 replace hP:=hP.alloc (.cells #[.int .i64 0,.int .i64 0] 141)
 have b3:=hP.held (.cells #[.int .i64 0,.int .i64 0] 141)
 simp only [World.size_alloc] at b3
 replace b1:=b1.alloc (.cells #[.int .i64 0,.int .i64 0] 141) hP.lt
 replace b2:=b2.alloc (.cells #[.int .i64 0,.int .i64 0] 141) hP.lt
 replace hK:=hK.trans (Keep.alloc (.cells #[.int .i64 0,.int .i64 0] 141) hP.lt hP.le)
 replace hP:=hP.alloc (.cells #[.int .i64 0,.int .i64 0] 141)
 have c_b1:=b1.cells
 have c_b2:=b2.cells
 have c_b3:=b3.cells
 have hBw:=Lib.hid h.le
 clear h
 go_enter Try.func164,Try.ntmps164
 go_wp2_with fail
 refine (mthreads_p n _ hn1 hn2).mono ?_
 rintro e w' ⟨rfl,rfl⟩
 go_wp2_with fail
 obtain⟨N,rfl⟩:∃ N:Nat,n=(N:Int):=⟨n.toNat,by omega⟩
 rw [Int.toNat_natCast] at hO
 go_loopw [14] (fun z wr=>∃ (j:Nat) (s v:Int) (S:TS),z=.int .i64 j/\j<=N/\HeldP wr p w.heap.size (.cells #[.int .i64 kind,.int .i64 base,.int .i64 loc,.int .i64 (N:Int),.int .i64 wr',.int .i64 rd,.int .i64 top] 56)/\HeldP wr p (w.heap.size+1) (.cells #[.int .i64 0,.int .i64 0] 141)/\HeldP wr p (w.heap.size+1+1) (.cells #[.int .i64 s,.int .i64 v] 141)/\Plays B wr p S/\KeepP B p w wr/\Owes R encP B p w ((manyRs base loc N top me (N-j) j s v).run S)) (fun z _=>N-(intOf z).toNat)
 case atStart=>exact⟨0,0,0,S,rfl,by omega,b1,b2,b3,hP,hK,hO⟩
 case round =>
  clear b1 b2 b3 c_b1 c_b2 c_b3 hO hP hK
  obtain⟨j,s,v,S,rfl,hj,b1,b2,b3,hP,hK,hO⟩:=hrel
  have c_b1:=b1.cells
  have c_b2:=b2.cells
  have c_b3:=b3.cells
  by_cases hlt:j<N
  · obtain⟨k,hk⟩:∃ k,N-j=k+1:=⟨N-j-1,by omega⟩
    have hkh:=Lib.hid hk
    rw [hk,manyRs_step] at hO
    clear hk
    have hm2:=many_bd N j hn1 hn2 (by omega)
    go_wp2_with fail
    replace hP:=hP.drew
    replace hK:=hK.drew
    replace b1:=b1.drew
    replace b2:=b2.drew
    replace b3:=b3.drew
    go_region_held2 (fun w'=>∀ i:Nat,w'.cell? ⟨w.heap.size,i,none⟩=(#[.int .i64 kind,.int .i64 base,.int .i64 loc,.int .i64 (N:Int),.int .i64 wr',.int .i64 rd,.int .i64 top]:Array Value)[i]?) (first | exact c_b1 | go_keep)
     (first
       | (go_at_call 165
          refine (of_p ⟨kind,base,loc,N,wr',rd,top⟩ j _ hn1 hn2 (by simp only;omega) hb1 hb2 hl1 hl2).mono ?_
          rintro e w2 ⟨rfl,hx⟩
          clear c_b1 c_b2 c_b3
          replace hK:=hK.trans (Keep.of_ext hx hP.lt hP.le)
          replace b1:=b1.ext hx hP.lt
          have c_b1:=b1.cells
          replace b2:=b2.ext hx hP.lt
          have c_b2:=b2.cells
          replace b3:=b3.ext hx hP.lt
          have c_b3:=b3.cells
          replace hP:=hP.ext hx
          clear hx)
       | (go_at_call 112
          refine tstep hO hK (table_read_p B p S ⟨6,manyB base N j,manyL loc N j,N,j,-1,manyTop top⟩ me _ hP hn1 hn2 (by simp only;omega) (by simp only;omega) hm (by simp only [manyB];omega) (by simp only [manyB];omega) (by simp only [manyL];omega) (by simp only [manyL];omega)) (fun _ h=>⟨rfl,h⟩) ?_
          clear hO hK hP c_b1 c_b2 c_b3
          intro y S w1 hr hP hk hK hO
          replace b1:=b1.keep hk
          have c_b1:=b1.cells
          replace b2:=b2.keep hk
          have c_b2:=b2.cells
          replace b3:=b3.keep hk
          have c_b3:=b3.cells
          clear hk hr)
       | (go_at_call 166
          refine (mmost_p top _).mono ?_
          rintro e w' ⟨rfl,rfl⟩)
       | (go_at_call 171
          refine (unpack_x _ _ _).mono ?_
          rintro e w2 ⟨rfl,hx⟩
          clear c_b1 c_b2 c_b3
          replace hK:=hK.trans (Keep.of_ext hx hP.lt hP.le)
          replace b1:=b1.ext hx hP.lt
          have c_b1:=b1.cells
          replace b2:=b2.ext hx hP.lt
          have c_b2:=b2.cells
          replace b3:=b3.ext hx hP.lt
          have c_b3:=b3.cells
          replace hP:=hP.ext hx
          clear hx))
    clear hm2
    generalize unHi y (clamp top 255)=hi at *
    generalize unLo y (clamp top 255)=lo at *
    have hks:=Lib.hid hK.size
    by_cases hs:s<=hi
    · rw [if_pos hs] at hO
      have f_b3:=frozen_of_heap b3.1
      have hOh:=Lib.hid hO
      have hPh:=Lib.hid hP
      have hKh:=Lib.hid hK
      clear hO hP hK
      have n3:=b3.2
      go_wp2_with fail
      have o3:=OneB.set2 w2 (w.heap.size+1+1) (.int .i64 hi) (.int .i64 lo)
      refine⟨⟨j+1,hi,lo,S,by go_num,by omega,b1.one o3 (by omega) n3,b2.one o3 (by omega) n3,b3.set2 _ _,hPh.out.one o3 n3 (by have:=hBw.out;omega),hKh.out.one o3 (by omega) n3 hBw.out,?_⟩,by simp [intOf];omega⟩
      rw [show N-(j+1)=k from by have:=hkh.out;omega,show ((j+1:Nat):Int)=(j:Int)+1 from by omega]
      exact hOh.out
    · rw [if_neg hs] at hO
      have hOh:=Lib.hid hO
      have hPh:=Lib.hid hP
      have hKh:=Lib.hid hK
      clear hO hP hK
      go_wp2_with fail
      refine⟨⟨j+1,s,v,S,by go_num,by omega,b1,b2,b3,hPh.out,hKh.out,?_⟩,by simp [intOf];omega⟩
      rw [show N-(j+1)=k from by have:=hkh.out;omega,show ((j+1:Nat):Int)=(j:Int)+1 from by omega]
      exact hOh.out
  · obtain rfl:j=N:=by omega
    rw [Nat.sub_self] at hO
    have f_b2:=frozen_of_heap b2.1
    have o2:=OneB.set2 wr (w.heap.size+1) (.int .i64 s) (.int .i64 v)
    have hf:R (.returned (encP (s,v))) _:=hO.done (hP.one o2 b2.2 (by have:=hBw.out;omega)) (hK.one o2 (by omega) b2.2 hBw.out)
    have hr:=(b2.set2 (.int .i64 s) (.int .i64 v)).cells
    clear hO o2
    go_wp2_with fail
    exact bodyPost_ret (v:=.agg #[.int .i64 s,.int .i64 v]) (by simp [results,Try.results164,go_sem,hr]) rfl hf
theorem unHi_bd (y t:Int):0<=unHi y t/\unHi y t<=4398046511104:=by
 have h1:=unX_bd y
 have h2:=room_bd t
 unfold unHi
 exact⟨Int.ediv_nonneg h1.1 (by omega),Int.le_trans (Int.ediv_le_self _ h1.1) h1.2⟩
theorem manyRs_le (b l n top me:Int):∀ (k:Nat) (j s v:Int) (S:TS) (q:Int × Int) (S1:TS),(manyRs b l n top me k j s v).run S=(some q,S1)->0<=s/\s<=4398046511104->0<=q.1/\q.1<=4398046511104
 | 0,j,s,v,S,q,S1,h,hs=>by
   cases h
   exact hs
 | k+1,j,s,v,S,q,S1,h,hs=>by
   rw [manyRs_step,Prog.run_bind] at h
   generalize (tableR (manyB b n j) (manyL l n j) n j (manyTop top) me).run S=r at h
   obtain⟨o,S2⟩:=r
   cases o with
   | none=>cases h
   | some y =>
     simp only [thenR] at h
     split at h
     · exact manyRs_le b l n top me k _ _ _ _ _ _ h (unHi_bd _ _)
     · exact manyRs_le b l n top me k _ _ _ _ _ _ h hs
set_option maxRecDepth 100000 in
theorem many_write_p (B p:Nat)(S:TS)(r:Reg)(me v:Int)(w:World)(h:Plays B w p S)(hn1:1<=r.n)(hn2:r.n<=8)(hm:0<=me/\me<r.n)(hb1:0<=r.base)(hb2:r.base<=50000)(hl1:0<=r.loc)(hl2:r.loc<=49000) :
  Calls Try.prog 106 #[.pointer (some ⟨p,0,none⟩),encR r,.int .i64 me,.int .i64 v] w (Post encU B p w ((manyW r.base r.loc r.n r.top me v).run S)):=by
 generalize hR:Post encU B p w ((manyW r.base r.loc r.n r.top me v).run S)=R
 have hO:Owes R encU B p w ((manyW r.base r.loc r.n r.top me v).run S):=hR▸owes _ _ _ _ _
 clear hR
 obtain⟨kind,base,loc,n,wr,rd,top⟩:=r
 simp only at hn1 hn2 hm hb1 hb2 hl1 hl2 hO
 unfold encR
 obtain⟨b1,hK,hP⟩:=h.entry (.cells #[.int .i64 kind,.int .i64 base,.int .i64 loc,.int .i64 n,.int .i64 wr,.int .i64 rd,.int .i64 top] 56)
 have c_b1:=b1.cells
 clear h
 unfold manyW at hO
 have hd1:decide (me<0)=false:=by simpa using hm.1
 have hd2:decide (n<=me)=false:=by simpa using hm.2
 go_enter Try.func106,Try.ntmps106
 go_wp2_with fail
 refine (mthreads_p n _ hn1 hn2).mono ?_
 rintro e w' ⟨rfl,rfl⟩
 go_wp2_with fail
 refine tstep hO hK (greatest_p B p S ⟨kind,base,loc,n,wr,rd,top⟩ me _ hP hn1 hn2 hm hb1 hb2 hl1 hl2) (fun _ h=>⟨rfl,h⟩) ?_
 clear hO hK hP c_b1
 intro q S w1 hr hP hk hK hO
 replace b1:=b1.keep hk
 have c_b1:=b1.cells
 have hq:=manyRs_le _ _ _ _ _ _ _ _ _ _ _ _ hr (by omega)
 obtain⟨q1,q2⟩:=q
 simp only at hq hO
 have hq1:=IntWalk.i64_in (q1+1) (by omega)
 have hm2:=many_bd n me hn1 hn2 hm
 clear hk hr
 have hfd:∀ w:World,(Instr.field 141 (.agg #[.int .i64 q1,.int .i64 q2]) 0).run Try.prog w=.ok (.int .i64 q1) w:=fun _=>by kernel_rfl
 rw [encP_eq]
 go_wp2_with fail
 replace hP:=hP.drew
 replace hK:=hK.drew
 replace b1:=b1.drew
 go_region_held2 (fun w'=>∀ i:Nat,w'.cell? ⟨w.heap.size,i,none⟩=(#[.int .i64 kind,.int .i64 base,.int .i64 loc,.int .i64 n,.int .i64 wr,.int .i64 rd,.int .i64 top]:Array Value)[i]?) (first | exact c_b1 | go_keep)
  (first
    | (go_at_call 165
       refine (of_p ⟨kind,base,loc,n,wr,rd,top⟩ me _ hn1 hn2 (by simp only;omega) hb1 hb2 hl1 hl2).mono ?_
       rintro e w2 ⟨rfl,hx⟩
       clear c_b1
       replace hK:=hK.trans (Keep.of_ext hx hP.lt hP.le)
       replace b1:=b1.ext hx hP.lt
       have c_b1:=b1.cells
       replace hP:=hP.ext hx
       clear hx)
    | (go_at_call 166
       refine (mmost_p top _).mono ?_
       rintro e w' ⟨rfl,rfl⟩)
    | (go_at_call 158
       refine (clamp_p _ _ _).mono ?_
       rintro e w' ⟨rfl,rfl⟩)
    | (go_at_call 159
       refine (pack_p _ _ _ _).mono ?_
       rintro e w' ⟨rfl,rfl⟩)
    | (go_at_call 105
       refine tlast hO hK (table_write_p B p S ⟨6,manyB base n me,manyL loc n me,n,me,-1,manyTop top⟩ me _ _ hP hn1 hn2 (by simp only;omega) (by simp only;omega) (by simp only [manyB];omega) (by simp only [manyB];omega) (by simp only [manyL];omega) (by simp only [manyL];omega)) (fun _ h=>⟨rfl,h⟩) ?_
       clear hO hK hP c_b1
       intro y S w1 hr hP hk hK hO
       replace b1:=b1.keep hk
       have c_b1:=b1.cells
       clear hk hr))
 go_wp2_with fail
 first | go_end0 | refine bodyPost_ret (results_none rfl _ _ _) rfl ?_
 exact hO.done hP hK
set_option maxRecDepth 100000 in
theorem many_read_p (B p:Nat)(S:TS)(r:Reg)(me:Int)(w:World)(h:Plays B w p S)(hn1:1<=r.n)(hn2:r.n<=8)(hm:0<=me/\me<r.n)(hb1:0<=r.base)(hb2:r.base<=50000)(hl1:0<=r.loc)(hl2:r.loc<=49000) :
  Calls Try.prog 113 #[.pointer (some ⟨p,0,none⟩),encR r,.int .i64 me] w (Post encI B p w ((manyR r.base r.loc r.n r.top me).run S)):=by
 generalize hR:Post encI B p w ((manyR r.base r.loc r.n r.top me).run S)=R
 have hO:Owes R encI B p w ((manyR r.base r.loc r.n r.top me).run S):=hR▸owes _ _ _ _ _
 clear hR
 obtain⟨kind,base,loc,n,wr,rd,top⟩:=r
 simp only at hn1 hn2 hm hb1 hb2 hl1 hl2 hO
 unfold encR
 obtain⟨b1,hK,hP⟩:=h.entry (.cells #[.int .i64 kind,.int .i64 base,.int .i64 loc,.int .i64 n,.int .i64 wr,.int .i64 rd,.int .i64 top] 56)
 have c_b1:=b1.cells
 clear h
 unfold manyR at hO
 have hd1:decide (me<0)=false:=by simpa using hm.1
 have hd2:decide (n<=me)=false:=by simpa using hm.2
 go_enter Try.func113,Try.ntmps113
 go_wp2_with fail
 refine (mthreads_p n _ hn1 hn2).mono ?_
 rintro e w' ⟨rfl,rfl⟩
 go_wp2_with fail
 refine tstep hO hK (greatest_p B p S ⟨kind,base,loc,n,wr,rd,top⟩ me _ hP hn1 hn2 hm hb1 hb2 hl1 hl2) (fun _ h=>⟨rfl,h⟩) ?_
 clear hO hK hP c_b1
 intro q S w1 hr hP hk hK hO
 replace b1:=b1.keep hk
 have c_b1:=b1.cells
 clear hk hr
 obtain⟨q1,q2⟩:=q
 simp only at hO
 have hfd:∀ w:World,(Instr.field 141 (.agg #[.int .i64 q1,.int .i64 q2]) 1).run Try.prog w=.ok (.int .i64 q2) w:=fun _=>by kernel_rfl
 rw [encP_eq]
 go_wp2_with fail
 exact hO.done hP hK
set_option maxRecDepth 100000 in
set_option maxHeartbeats 2000000 in
theorem reg_write_p (B p:Nat)(S:TS)(r:Reg)(me v:Int)(w:World)(h:Plays B w p S)(hr:r.ok)(hm:0<=me/\me<r.n) :
  Calls Try.prog 42 #[.pointer (some ⟨p,0,none⟩),encR r,.int .i64 me,.int .i64 v] w (Post encU B p w ((regW r me v).run S)):=by
 generalize hR:Post encU B p w ((regW r me v).run S)=R
 have hO:Owes R encU B p w ((regW r me v).run S):=hR▸owes _ _ _ _ _
 clear hR
 obtain⟨hk,hb,hl,hn,hw⟩:=hr
 obtain⟨kind,base,loc,n,wr,rd,top⟩:=r
 simp only at hk hb hl hn hw hm hO
 unfold encR
 obtain⟨b1,hK,hP⟩:=h.entry (.cells #[.int .i64 kind,.int .i64 base,.int .i64 loc,.int .i64 n,.int .i64 wr,.int .i64 rd,.int .i64 top] 56)
 have c_b1:=b1.cells
 clear h
 unfold regW at hO
 simp only at hO
 rcases hk with rfl | rfl | rfl
 · simp at hO
   go_enter Try.func42,Try.ntmps42
   go_wp2_with fail
   refine tlast hO hK (write_p B p S _ _ _ hP) (fun _ h=>⟨rfl,h⟩) ?_
   clear hO hK hP c_b1
   intro u S w1 hr hP hk hK hO
   replace b1:=b1.keep hk
   have c_b1:=b1.cells
   clear hk hr
   go_wp2_with fail
   first | go_end0 | refine bodyPost_ret (results_none rfl _ _ _) rfl ?_
   exact hO.done hP hK
 · simp at hO
   obtain⟨hw1,hw2⟩:=hw rfl
   clear hw
   go_enter Try.func42,Try.ntmps42
   go_wp2_with fail
   refine tlast hO hK (table_write_p B p S ⟨6,base,loc,n,wr,rd,top⟩ me v _ hP hn.1 hn.2 hw1 hw2 hb.1 (by simp only;omega) hl.1 (by simp only;omega)) (fun _ h=>⟨rfl,h⟩) ?_
   clear hO hK hP c_b1
   intro u S w1 hr hP hk hK hO
   replace b1:=b1.keep hk
   have c_b1:=b1.cells
   clear hk hr
   go_wp2_with fail
   first | go_end0 | refine bodyPost_ret (results_none rfl _ _ _) rfl ?_
   exact hO.done hP hK
 · simp at hO
   go_enter Try.func42,Try.ntmps42
   go_wp2_with fail
   refine tlast hO hK (many_write_p B p S ⟨7,base,loc,n,wr,rd,top⟩ me v _ hP hn.1 hn.2 hm hb.1 (by simp only;omega) hl.1 (by simp only;omega)) (fun _ h=>⟨rfl,h⟩) ?_
   clear hO hK hP c_b1
   intro u S w1 hr hP hk hK hO
   replace b1:=b1.keep hk
   have c_b1:=b1.cells
   clear hk hr
   go_wp2_with fail
   first | go_end0 | refine bodyPost_ret (results_none rfl _ _ _) rfl ?_
   exact hO.done hP hK
set_option maxRecDepth 100000 in
set_option maxHeartbeats 2000000 in
theorem reg_read_p (B p:Nat)(S:TS)(r:Reg)(me:Int)(w:World)(h:Plays B w p S)(hr:r.ok)(hm:0<=me/\me<r.n) :
  Calls Try.prog 44 #[.pointer (some ⟨p,0,none⟩),encR r,.int .i64 me] w (Post encI B p w ((regR r me).run S)):=by
 generalize hR:Post encI B p w ((regR r me).run S)=R
 have hO:Owes R encI B p w ((regR r me).run S):=hR▸owes _ _ _ _ _
 clear hR
 obtain⟨hk,hb,hl,hn,hw⟩:=hr
 obtain⟨kind,base,loc,n,wr,rd,top⟩:=r
 simp only at hk hb hl hn hw hm hO
 unfold encR
 obtain⟨b1,hK,hP⟩:=h.entry (.cells #[.int .i64 kind,.int .i64 base,.int .i64 loc,.int .i64 n,.int .i64 wr,.int .i64 rd,.int .i64 top] 56)
 have c_b1:=b1.cells
 clear h
 unfold regR at hO
 simp only at hO
 rcases hk with rfl | rfl | rfl
 · simp at hO
   go_enter Try.func44,Try.ntmps44
   go_wp2_with fail
   refine tlast hO hK (read_p B p S _ _ hP) (fun _ h=>⟨rfl,h⟩) ?_
   clear hO hK hP c_b1
   intro x S w1 hr hP hk hK hO
   replace b1:=b1.keep hk
   have c_b1:=b1.cells
   clear hk hr
   go_wp2_with fail
   exact hO.done hP hK
 · simp at hO
   obtain⟨hw1,hw2⟩:=hw rfl
   clear hw
   go_enter Try.func44,Try.ntmps44
   go_wp2_with fail
   refine tlast hO hK (table_read_p B p S ⟨6,base,loc,n,wr,rd,top⟩ me _ hP hn.1 hn.2 hw1 hw2 hm hb.1 (by simp only;omega) hl.1 (by simp only;omega)) (fun _ h=>⟨rfl,h⟩) ?_
   clear hO hK hP c_b1
   intro x S w1 hr hP hk hK hO
   replace b1:=b1.keep hk
   have c_b1:=b1.cells
   clear hk hr
   go_wp2_with fail
   exact hO.done hP hK
 · simp at hO
   go_enter Try.func44,Try.ntmps44
   go_wp2_with fail
   refine tlast hO hK (many_read_p B p S ⟨7,base,loc,n,wr,rd,top⟩ me _ hP hn.1 hn.2 hm hb.1 (by simp only;omega) hl.1 (by simp only;omega)) (fun _ h=>⟨rfl,h⟩) ?_
   clear hO hK hP c_b1
   intro x S w1 hr hP hk hK hO
   replace b1:=b1.keep hk
   have c_b1:=b1.cells
   clear hk hr
   go_wp2_with fail
   exact hO.done hP hK
end Go.Proofs.Ytbphlkaihfbgeaa
namespace Kv
inductive Prog.Asks {α:Type}:Prog α->Prop
 | read (c:Int) (k:Int->Prog α):Asks (.read c k)
 | write (c v:Int) (k:Unit->Prog α):Asks (.write c v k)
 | get (i:Int) {k:Int->Prog α}:(∀ x,Asks (k x))->Asks (.get i k)
 | set (i v:Int) {k:Unit->Prog α}:Asks (k ())->Asks (.set i v k)
 | note (m:Int) {k:Unit->Prog α}:Asks (k ())->Asks (.note m k)
theorem Prog.Asks.bind {α β:Type}{p:Prog α}(h:p.Asks)(f:α->Prog β):(p.bind f).Asks:=by
 induction h with
 | read c k=>exact .read _ _
 | write c v k=>exact .write _ _ _
 | get i _ ih=>exact .get i fun x=>ih x
 | set i v _ ih=>exact .set i v ih
 | note m _ ih=>exact .note m ih
theorem Prog.Asks.then {α β:Type}{f:α->Prog β}(h:∀ a,(f a).Asks):∀ p:Prog α,(p.bind f).Asks
 | .ret a=>h a
 | .read _ _=>.read _ _
 | .write _ _ _=>.write _ _ _
 | .get i k=>.get i fun x=>Asks.then h (k x)
 | .set i v k=>.set i v (Asks.then h (k ()))
 | .note m k=>.note m (Asks.then h (k ()))
theorem Prog.run_len {α:Type}(p:Prog α)(S:TS):S.acc.length<=(p.run S).2.acc.length:=by
 obtain⟨l,h⟩:=Prog.run_acc p S
 rw [h];simp
theorem Prog.Asks.run {α:Type}{p:Prog α}(h:p.Asks):∀ S:TS,S.acc.length<(p.run S).2.acc.length:=by
 induction h with
 | read c k =>
   intro S
   simp only [Prog.run]
   cases S.next with
   | none=>simp [TS.put]
   | some v=>have:=Prog.run_len (k v) (S.put ⟨1,c,0⟩);simp [TS.put] at this ⊢;omega
 | write c v k =>
   intro S
   simp only [Prog.run]
   cases S.next with
   | none=>simp [TS.put]
   | some _=>have:=Prog.run_len (k ()) (S.put ⟨2,c,v⟩);simp [TS.put] at this ⊢;omega
 | get i _ ih=>intro S;exact ih _ _
 | set i v _ ih=>intro S;have:=ih (S.upd i v);rw [TS.upd_acc] at this;exact this
 | note m _ ih=>intro S;exact ih (S.noted m)
def TS.left (S:TS):Nat:=S.ans.length-S.acc.length
theorem Prog.run_left {α:Type}(p:Prog α)(S:TS):(p.run S).2.left<=S.left:=by
 have h1:=Prog.run_ans p S
 have h2:=Prog.run_len p S
 unfold TS.left
 rw [h1];omega
theorem Prog.Asks.left {α:Type}{p:Prog α}(h:p.Asks){S S1:TS}{a:α}(hr:p.run S=(some a,S1))(hl:S1.acc.length<=S1.ans.length):S1.left<S.left:=by
 have h1:=Prog.run_ans p S
 have h2:=h.run S
 rw [hr] at h1 h2
 simp only at h1 h2
 unfold TS.left
 rw [<- h1];omega
theorem asks_rd (c:Int):(rd c).Asks:=.read _ _
theorem asks_wr (c v:Int):(wr c v).Asks:=.write _ _ _
def Reg.told (r:Reg) (me:Int):Prop:=r.kind=1∨(r.kind=6/\me≠r.wr)∨(r.kind=7/\2<=r.n)
end Kv
namespace Go.Proofs.Ytbphlkaihfbgeaa
open Go.RowKit Kv
def Blk (w:World) (b:Nat) (o:Obj):Prop:=w.heap[b]?=some o
theorem Blk.lt {w:World}{b:Nat}{o:Obj}(h:Blk w b o):b<w.heap.size:=(Array.getElem?_eq_some_iff.1 h).1
theorem Blk.new (w:World)(o:Obj):Blk (w.alloc o) w.heap.size o:=heap_alloc_new w o
theorem Blk.ext {w w':World}{b:Nat}{o:Obj}(h:Blk w b o)(hx:Ext w w'):Blk w' b o:=(Below.block hx b (Array.getElem?_eq_some_iff.1 h).1).trans h
theorem Blk.alloc {w:World}{b:Nat}{o:Obj}(h:Blk w b o)(o':Obj):Blk (w.alloc o') b o:=h.ext ((Ext.refl w).alloc o')
theorem Blk.drew {w:World}{b:Nat}{o:Obj}(h:Blk w b o):Blk w.drew b o:=h
theorem Blk.cells {w:World}{b:Nat}{cs:Array Value}{t:TypeId}{fz:Nat × Nat}(h:Blk w b (.cells cs t fz))(i:Nat):w.cell? ⟨b,i,none⟩=cs[i]?:=cell_of_heap h i
theorem rn_r (r:Reg)(w:World)(h1:1<=r.n)(h2:r.n<=8):Calls Try.prog 148 #[encR r] w fun e w'=>e=.returned (.int .i64 r.n)/\Ext w w':=by
 obtain⟨kind,base,loc,n,wr,rd,top⟩:=r
 simp only at h1 h2
 have hc:clamp n 8=n:=by unfold clamp within;omega
 have hx:=Lib.hid ((Ext.refl w).alloc (.cells #[.int .i64 kind,.int .i64 base,.int .i64 loc,.int .i64 n,.int .i64 wr,.int .i64 rd,.int .i64 top] 56))
 unfold encR
 go_enter Try.func148,Try.ntmps148
 go_wp2_with fail
 refine (clamp_r _ _ _).mono ?_
 rintro e w' ⟨rfl,rfl⟩
 rw [hc]
 go_wp2_with fail
 go_ret
 exact⟨rfl,hx.out⟩
def Vals (w:World) (A:Option Addr) (vals:List Value):Prop:=vals≠[]->∃ b,A=some ⟨b,0,none⟩/\b<w.heap.size/\∀ i u,vals[i]?=some u->w.cell? ⟨b,i,none⟩=some u
theorem Vals.ext {w w':World}{A:Option Addr}{vals:List Value}(h:Vals w A vals)(hx:Ext w w'):Vals w' A vals:=by
 intro hne
 obtain⟨b,rfl,hb,hc⟩:=h hne
 exact⟨b,rfl,Nat.lt_of_lt_of_le hb hx.size,fun i u hu=>(hx.cell (p:=⟨b,i,none⟩) hb).trans (hc i u hu)⟩
theorem vals_row {w:World}{B e size n:Nat}{v:Value}{xs:List Value}(h:w.ownsRow B e size v n xs):∃ A c,v=.slice A n c/\n<=c/\c<=9223372036854775807/\Vals w A xs:=by
 have h':=h
 obtain⟨hl,h2⟩:=h
 rcases h2 with⟨rfl,h0⟩ | ⟨g,cap,cur,rfl,hg,hh,hn,hm,hs,ht⟩
 · subst h0
   refine⟨none,0,rfl,Nat.le_refl _,by omega,fun hne=>absurd ?_ hne⟩
   simpa using hl
 · refine⟨_,_,rfl,hn,by unfold maxLen at hm;exact hm,fun _=>⟨g,rfl,(Array.getElem?_eq_some_iff.1 hh).1,fun i u hi=>?_⟩⟩
   have hc:=World.ownsRow.cells h' (g:=g) rfl i u hi
   rw [Addr.add_lit,Nat.zero_add] at hc
   exact hc
theorem accVals_at:∀ (l:List Acc) (i:Nat) (a:Acc),l[i]?=some a->(accVals l)[3*i]?=some (.int .i64 a.kind)/\(accVals l)[3*i+1]?=some (.int .i64 a.cell)/\(accVals l)[3*i+2]?=some (.int .i64 a.val)
 | [],i,a,h=>by simp at h
 | x :: l,0,a,h=>by
   obtain rfl:x=a:=by simpa using h
   exact⟨rfl,rfl,rfl⟩
 | x :: l,i+1,a,h=>by
   have:=accVals_at l i a (by simpa using h)
   rw [show accVals (x :: l)=[.int .i64 x.kind,.int .i64 x.cell,.int .i64 x.val]++accVals l from rfl]
   refine⟨?_,?_,?_⟩
   · rw [List.getElem?_append_right (by simp;omega)];simpa [show 3*(i+1)-3=3*i by omega] using this.1
   · rw [List.getElem?_append_right (by simp;omega)];simpa [show 3*(i+1)+1-3=3*i+1 by omega] using this.2.1
   · rw [List.getElem?_append_right (by simp;omega)];simpa [show 3*(i+1)+2-3=3*i+2 by omega] using this.2.2
theorem ntVals_at:∀ (l:List Nt) (i:Nat) (a:Nt),l[i]?=some a->(ntVals l)[2*i]?=some (.int .i64 a.kind)/\(ntVals l)[2*i+1]?=some (.int .i64 a.pos)
 | [],i,a,h=>by simp at h
 | x :: l,0,a,h=>by
   obtain rfl:x=a:=by simpa using h
   exact⟨rfl,rfl⟩
 | x :: l,i+1,a,h=>by
   have:=ntVals_at l i a (by simpa using h)
   rw [show ntVals (x :: l)=[.int .i64 x.kind,.int .i64 x.pos]++ntVals l from rfl]
   refine⟨?_,?_⟩
   · rw [List.getElem?_append_right (by simp;omega)];simpa [show 2*(i+1)-2=2*i by omega] using this.1
   · rw [List.getElem?_append_right (by simp;omega)];simpa [show 2*(i+1)+1-2=2*i+1 by omega] using this.2
def AccAt (w:World) (A:Option Addr) (l:List Acc):Prop:=Vals w A (accVals l)
def NtAt (w:World) (A:Option Addr) (l:List Nt):Prop:=Vals w A (ntVals l)
theorem AccAt.at_ {w:World}{A:Option Addr}{l:List Acc}(h:AccAt w A l){i:Nat}{a:Acc}(hi:l[i]?=some a) :
  ∃ b,A=some ⟨b,0,none⟩/\b<w.heap.size/\w.cell? ⟨b,i*3,none⟩=some (.int .i64 a.kind)/\w.cell? ⟨b,i*3+1,none⟩=some (.int .i64 a.cell)/\w.cell? ⟨b,i*3+2,none⟩=some (.int .i64 a.val):=by
 obtain⟨h0,h1,h2⟩:=accVals_at l i a hi
 obtain⟨b,rfl,hb,hc⟩:=h (fun e=>by rw [e] at h0;simp at h0)
 rw [Nat.mul_comm i 3]
 exact⟨b,rfl,hb,hc _ _ h0,hc _ _ h1,hc _ _ h2⟩
theorem NtAt.at_ {w:World}{A:Option Addr}{l:List Nt}(h:NtAt w A l){i:Nat}{a:Nt}(hi:l[i]?=some a) :
  ∃ b,A=some ⟨b,0,none⟩/\b<w.heap.size/\w.cell? ⟨b,i*2,none⟩=some (.int .i64 a.kind)/\w.cell? ⟨b,i*2+1,none⟩=some (.int .i64 a.pos):=by
 obtain⟨h0,h1⟩:=ntVals_at l i a hi
 obtain⟨b,rfl,hb,hc⟩:=h (fun e=>by rw [e] at h0;simp at h0)
 rw [Nat.mul_comm i 2]
 exact⟨b,rfl,hb,hc _ _ h0,hc _ _ h1⟩
structure OutIs (w:World) (d:Bool) (S:TS) (A:Option Addr) (c:Nat) (A':Option Addr) (c':Nat) (vs:Value) (L:List Int):Prop where
 accs:AccAt w A S.acc
 nts:NtAt w A' S.nts
 locs:Ints w vs (shortL L)
 is:LocIs L S.loc
 len:L.length<=32768
 accc:S.acc.length<=c/\c<=9223372036854775807
 ntsc:S.nts.length<=c'/\c'<=9223372036854775807
def outV (d:Bool) (S:TS) (A:Option Addr) (c:Nat) (A':Option Addr) (c':Nat) (vs:Value):Value:=.agg #[.bool d,.slice A S.acc.length c,.slice A' S.nts.length c',vs]
theorem OutIs.ext {w w':World}{d:Bool}{S:TS}{A:Option Addr}{c:Nat}{A':Option Addr}{c':Nat}{vs:Value}{L:List Int}(h:OutIs w d S A c A' c' vs L)(hx:Ext w w'):OutIs w' d S A c A' c' vs L :=
 { h with accs:=Vals.ext h.accs hx,nts:=Vals.ext h.nts hx,locs:=h.locs.ext hx }
def Outs (w:World) (v:Value) (d:Bool) (S:TS):Prop:=∃ A c A' c' vs L,v=outV d S A c A' c' vs/\OutIs w d S A c A' c' vs L
theorem Outs.ext {w w':World}{v:Value}{d:Bool}{S:TS}(h:Outs w v d S)(hx:Ext w w'):Outs w' v d S:=by
 obtain⟨A,c,A',c',vs,L,rfl,h⟩:=h
 exact⟨A,c,A',c',vs,L,rfl,h.ext hx⟩
theorem outs_of {w:World}{B:Nat}{d:Bool}{S:TS}{vC vN vs:Value}{L:List Int}(h1:w.ownsRow B 54 3 vC S.acc.length (accVals S.acc))(h2:w.ownsRow B 123 2 vN S.nts.length (ntVals S.nts))(h3:Ints w vs (shortL L))(h4:LocIs L S.loc)(h5:L.length<=32768) :
  Outs w (.agg #[.bool d,vC,vN,vs]) d S:=by
 obtain⟨A,c,rfl,q1,q2,q3⟩:=vals_row h1
 obtain⟨A',c',rfl,r1,r2,r3⟩:=vals_row h2
 exact⟨A,c,A',c',vs,L,rfl,q3,r3,h3,h4,h5,⟨q1,q2⟩,⟨r1,r2⟩⟩
end Go.Proofs.Ytbphlkaihfbgeaa
namespace Kv
structure Want where
 wr:Int
 top:Int
def topM (t:Int):Int:=if clamp t 255=0 then 1 else clamp t 255
def kindM (mode w:Int):Int:=if mode=2 then (if 0<=w then 6 else 7) else 1
def regOf (n mode b l:Int) (q:Want):Reg:=⟨kindM mode q.wr,b,l,n,q.wr,-1,topM q.top⟩
def cellsM (r:Reg):Int:=if r.kind=1 then 1 else if r.kind=6 then 16*(r.n-1)*(r.n-1) else 16*(r.n-1)*(r.n-1)*r.n
def localsM (r:Reg):Int:=if r.kind=1 then 0 else if r.kind=6 then 2+18*(r.n-1)*(r.n-1) else r.n*(2+18*(r.n-1)*(r.n-1))
def fineM (r:Reg):Bool:=decide (r.base<=32768)&&decide (r.loc<=32768)&&decide (r.base+cellsM r<=32768)&&decide (r.loc+localsM r<=32768)
def layFrom (n mode:Int):List Want->Int->Int->Option (List Reg)
 | [],_,_=>some []
 | q :: l,b,c=>if fineM (regOf n mode b c q) then (layFrom n mode l (b+cellsM (regOf n mode b c q)) (c+localsM (regOf n mode b c q))).map (regOf n mode b c q :: ·) else none
def argsM (l:List Want) (n mode b c:Int):Bool:=decide (1<=mode/\mode<=2/\1<=n/\n<=8/\0<=b/\0<=c)&&l.all fun q=>decide (-1<=q.wr/\q.wr<n)
def layM (l:List Want) (n mode b c:Int):Option (List Reg):=if argsM l n mode b c then layFrom n mode l b c else none
theorem topM_bd (t:Int):1<=topM t/\topM t<=255:=by
 unfold topM clamp within
 split <;> omega
theorem cells_nat (r:Reg)(h:1<=r.n/\r.n<=8):0<=cellsM r/\cellsM r<=6272/\0<=localsM r/\localsM r<=7072:=by
 obtain⟨h1,h2⟩:=h
 have:r.n=1∨r.n=2∨r.n=3∨r.n=4∨r.n=5∨r.n=6∨r.n=7∨r.n=8:=by omega
 unfold cellsM localsM
 rcases this with h | h | h | h | h | h | h | h <;> rw [h] <;> (split <;> (try split) <;> omega)
structure Laid (n mode:Int) (q:Want) (r:Reg):Prop where
 is:∃ b c,r=regOf n mode b c q/\0<=b/\0<=c
 fine:fineM r=true
theorem Laid.ok {n mode:Int}{q:Want}{r:Reg}(h:Laid n mode q r)(hn:1<=n/\n<=8)(hw:-1<=q.wr/\q.wr<n):r.ok/\r.n=n/\r.wr=q.wr:=by
 obtain⟨⟨b,c,rfl,hb,hc⟩,hf⟩:=h
 have hf2:b<=32768/\c<=32768:=by
  unfold fineM regOf at hf
  simp only [Bool.and_eq_true,decide_eq_true_eq] at hf
  omega
 refine⟨⟨?_,⟨hb,hf2.1⟩,⟨hc,hf2.2⟩,hn,fun hk=>?_⟩,rfl,rfl⟩
 · show kindM mode q.wr=1∨kindM mode q.wr=6∨kindM mode q.wr=7
   unfold kindM
   split
   · split <;> omega
   · omega
 · show 0<=q.wr/\q.wr<n
   have hk:kindM mode q.wr=6:=hk
   unfold kindM at hk
   split at hk
   · split at hk <;> omega
   · omega
end Kv
namespace Go.Proofs.Ytbphlkaihfbgeaa
open Go.RowKit Kv
def RowX (n0 p:Nat) (w:World) (v:Value) (l:List Int):Prop:=w.ownsRow n0 3 1 v l.length (l.map (Value.int .i64))/\∀ g,v.ownBlock=some g->¬ ownR [3,4,5] w p g
section
variable {n0 B p:Nat} {w w' w1 w0:World} {o:Bool} {S:TS} {v:Value} {l:List Int}
theorem RowX.nil (n0 p:Nat)(w:World):RowX n0 p w (.slice none 0 0) []:=⟨World.ownsRow_nil _ _ _ _,fun g h=>by simp [Value.ownBlock] at h⟩
theorem RowX.keep (h:RowX n0 p w v l)(k:KeepR B p w w'):RowX n0 p w' v l:=by
 obtain⟨⟨h1,h2⟩,h3⟩:=h
 rcases h2 with h2 | ⟨g,cap,cur,rfl,hg,hh,r1,r2,r3,r4⟩
 · exact⟨⟨h1,.inl h2⟩,fun g e=>by rw [h2.1] at e;simp [Value.ownBlock] at e⟩
 · obtain⟨k1,k2⟩:=k.rest g (Array.getElem?_eq_some_iff.1 hh).1 (h3 g rfl)
   exact⟨⟨h1,.inr ⟨g,cap,cur,rfl,hg,k1.trans hh,r1,r2,r3,r4⟩⟩,fun b e=>by simp only [Value.ownBlock,Option.some.injEq] at e;subst e;exact k2⟩
end
end Go.Proofs.Ytbphlkaihfbgeaa
namespace Kv
open Go Go.RowKit
end Kv
namespace Go.Proofs.Ytbphlkaihfbgeaa
open Go.RowKit Kv
def regVals (r:Reg):List Value:=[.int .i64 r.kind,.int .i64 r.base,.int .i64 r.loc,.int .i64 r.n,.int .i64 r.wr,.int .i64 r.rd,.int .i64 r.top]
structure RegsAt (ix:List Nat) (w:World) (p b:Nat) (l:List Reg):Prop where
 lt:b<w.heap.size
 own:¬ ownR ix w p b
 cells:∀ j u,(l.flatMap regVals)[j]?=some u->w.cell? ⟨b,j,none⟩=some u
theorem RegsAt.keep {ix:List Nat}{B p b:Nat}{w w':World}{l:List Reg}(h:RegsAt ix w p b l)(k:Keep ix B p w w'):RegsAt ix w' p b l:=by
 obtain⟨h1,h2⟩:=k.rest b h.lt h.own
 exact⟨Nat.lt_of_lt_of_le h.lt k.size,h2,fun j u hu=>(World.cell?_of_block (w:=w) (a:=⟨b,j,none⟩) h1).trans (h.cells j u hu)⟩
theorem RegsAt.two {ix:List Nat}{p b:Nat}{w:World}{x y:Reg}(h:RegsAt ix w p b [x,y]) :
  (w.cell? ⟨b,0,none⟩=some (.int .i64 x.kind)/\w.cell? ⟨b,1,none⟩=some (.int .i64 x.base)/\w.cell? ⟨b,2,none⟩=some (.int .i64 x.loc)/\w.cell? ⟨b,3,none⟩=some (.int .i64 x.n)/\w.cell? ⟨b,4,none⟩=some (.int .i64 x.wr)/\w.cell? ⟨b,5,none⟩=some (.int .i64 x.rd)/\w.cell? ⟨b,6,none⟩=some (.int .i64 x.top)) /\
    (w.cell? ⟨b,7,none⟩=some (.int .i64 y.kind)/\w.cell? ⟨b,8,none⟩=some (.int .i64 y.base)/\w.cell? ⟨b,9,none⟩=some (.int .i64 y.loc)/\w.cell? ⟨b,10,none⟩=some (.int .i64 y.n)/\w.cell? ⟨b,11,none⟩=some (.int .i64 y.wr)/\w.cell? ⟨b,12,none⟩=some (.int .i64 y.rd)/\w.cell? ⟨b,13,none⟩=some (.int .i64 y.top)) :=
 ⟨⟨h.cells 0 _ rfl,h.cells 1 _ rfl,h.cells 2 _ rfl,h.cells 3 _ rfl,h.cells 4 _ rfl,h.cells 5 _ rfl,h.cells 6 _ rfl⟩,⟨h.cells 7 _ rfl,h.cells 8 _ rfl,h.cells 9 _ rfl,h.cells 10 _ rfl,h.cells 11 _ rfl,h.cells 12 _ rfl,h.cells 13 _ rfl⟩⟩
theorem eqIn_acc (a b c a' b' c':Int)(w:World):(Op.equalIn 10000 54 (.agg #[.int .i64 a,.int .i64 b,.int .i64 c]) (.agg #[.int .i64 a',.int .i64 b',.int .i64 c'])).run Try.prog w=.ok (decide (a=a'/\b=b'/\c=c')) w:=by
 rw [run_equalIn_struct w 9999 54 _ _ (by kernel_rfl) (by kernel_rfl)]
 have hu:Try.prog.underlying 3=some (.int .i64):=Try.underlying3
 simp only [Program.fieldsOf,Try.underlying54,Op.eqFields]
 simp [go_sem,run_equalIn_int,hu]
 by_cases h0:a=a' <;> by_cases h1:b=b' <;> by_cases h2:c=c' <;> simp [h0,h1,h2]
@[go_sem] theorem eql_acc (a b c a' b' c':Int) (w:World):(binOp .eql 54 (.agg #[.int .i64 a,.int .i64 b,.int .i64 c]) (.agg #[.int .i64 a',.int .i64 b',.int .i64 c'])).run Try.prog w=.ok (.bool (decide (a=a'/\b=b'/\c=c'))) w:=by
 rw [run_eql_struct,eqIn_acc];rfl
@[go_sem] theorem neq_acc (a b c a' b' c':Int) (w:World):(binOp .neq 54 (.agg #[.int .i64 a,.int .i64 b,.int .i64 c]) (.agg #[.int .i64 a',.int .i64 b',.int .i64 c'])).run Try.prog w=.ok (.bool (!decide (a=a'/\b=b'/\c=c'))) w:=by
 rw [run_neq_struct,eqIn_acc];rfl
theorem eqIn_nt (a b a' b':Int)(w:World):(Op.equalIn 10000 123 (.agg #[.int .i64 a,.int .i64 b]) (.agg #[.int .i64 a',.int .i64 b'])).run Try.prog w=.ok (decide (a=a'/\b=b')) w:=by
 rw [run_equalIn_struct w 9999 123 _ _ (by kernel_rfl) (by kernel_rfl)]
 have hu:Try.prog.underlying 3=some (.int .i64):=Try.underlying3
 simp only [Program.fieldsOf,Try.underlying123,Op.eqFields]
 simp [go_sem,run_equalIn_int,hu]
 by_cases h0:a=a' <;> by_cases h1:b=b' <;> simp [h0,h1]
@[go_sem] theorem eql_nt (a b a' b':Int) (w:World):(binOp .eql 123 (.agg #[.int .i64 a,.int .i64 b]) (.agg #[.int .i64 a',.int .i64 b'])).run Try.prog w=.ok (.bool (decide (a=a'/\b=b'))) w:=by
 rw [run_eql_struct,eqIn_nt];rfl
@[go_sem] theorem neq_nt (a b a' b':Int) (w:World):(binOp .neq 123 (.agg #[.int .i64 a,.int .i64 b]) (.agg #[.int .i64 a',.int .i64 b'])).run Try.prog w=.ok (.bool (!decide (a=a'/\b=b'))) w:=by
 rw [run_neq_struct,eqIn_nt];rfl
theorem eqIn_want (a b a' b':Int)(w:World):(Op.equalIn 10000 91 (.agg #[.int .i64 a,.int .i64 b]) (.agg #[.int .i64 a',.int .i64 b'])).run Try.prog w=.ok (decide (a=a'/\b=b')) w:=by
 rw [run_equalIn_struct w 9999 91 _ _ (by kernel_rfl) (by kernel_rfl)]
 have hu:Try.prog.underlying 3=some (.int .i64):=Try.underlying3
 simp only [Program.fieldsOf,Try.underlying91,Op.eqFields]
 simp [go_sem,run_equalIn_int,hu]
 by_cases h0:a=a' <;> by_cases h1:b=b' <;> simp [h0,h1]
@[go_sem] theorem eql_want (a b a' b':Int) (w:World):(binOp .eql 91 (.agg #[.int .i64 a,.int .i64 b]) (.agg #[.int .i64 a',.int .i64 b'])).run Try.prog w=.ok (.bool (decide (a=a'/\b=b'))) w:=by
 rw [run_eql_struct,eqIn_want];rfl
@[go_sem] theorem neq_want (a b a' b':Int) (w:World):(binOp .neq 91 (.agg #[.int .i64 a,.int .i64 b]) (.agg #[.int .i64 a',.int .i64 b'])).run Try.prog w=.ok (.bool (!decide (a=a'/\b=b'))) w:=by
 rw [run_neq_struct,eqIn_want];rfl
theorem flat_at {α:Type}(f:α->List Value)(k:Nat)(hf:∀ a,(f a).length=k):∀ (l:List α) (i j:Nat) (a:α),l[i]?=some a->j<k->(l.flatMap f)[k*i+j]?=(f a)[j]?
 | [],i,j,a,h,_=>by simp at h
 | x :: l,0,j,a,h,hj=>by
   obtain rfl:x=a:=by simpa using h
   rw [List.flatMap_cons,Nat.mul_zero,Nat.zero_add,List.getElem?_append_left (by rw [hf];exact hj)]
 | x :: l,i+1,j,a,h,hj=>by
   have:=flat_at f k hf l i j a (by simpa using h) hj
   rw [List.flatMap_cons,List.getElem?_append_right (by rw [hf,Nat.mul_add];omega),hf,show k*(i+1)+j-k=k*i+j by rw [Nat.mul_add];omega]
   exact this
def wantVals (q:Want):List Value:=[.int .i64 q.wr,.int .i64 q.top]
def Recs (w:World) (v:Value) (n:Nat) (vals:List Value):Prop:=∃ A c,v=.slice A n c/\n<=c/\c<=9223372036854775807/\Vals w A vals
theorem Recs.ext {w w':World}{v:Value}{n:Nat}{vals:List Value}(h:Recs w v n vals)(hx:Ext w w'):Recs w' v n vals:=by
 obtain⟨A,c,e,h1,h2,h3⟩:=h
 exact⟨A,c,e,h1,h2,h3.ext hx⟩
theorem Recs.of_row {w:World}{B e size n:Nat}{v:Value}{xs:List Value}(h:w.ownsRow B e size v n xs):Recs w v n xs:=vals_row h
def WantsAt (w:World) (v:Value) (l:List Want):Prop:=Recs w v l.length (l.flatMap wantVals)
theorem want_at {w:World}{A:Option Addr}{l:List Want}(h:Vals w A (l.flatMap wantVals)){i:Nat}{q:Want}(hi:l[i]?=some q) :
  ∃ b,A=some ⟨b,0,none⟩/\b<w.heap.size/\w.cell? ⟨b,i*2,none⟩=some (.int .i64 q.wr)/\w.cell? ⟨b,i*2+1,none⟩=some (.int .i64 q.top):=by
 have h0:=flat_at wantVals 2 (fun _=>rfl) l i 0 q hi (by omega)
 have h1:=flat_at wantVals 2 (fun _=>rfl) l i 1 q hi (by omega)
 obtain⟨b,rfl,hb,hc⟩:=h (fun e=>by rw [e] at h0;simp [wantVals] at h0)
 rw [Nat.mul_comm i 2]
 exact⟨b,rfl,hb,hc _ _ h0,hc _ _ h1⟩
structure RegCells (w:World) (b o:Nat) (r:Reg):Prop where
 kind:w.cell? ⟨b,o,none⟩=some (.int .i64 r.kind)
 base:w.cell? ⟨b,o+1,none⟩=some (.int .i64 r.base)
 loc:w.cell? ⟨b,o+2,none⟩=some (.int .i64 r.loc)
 n:w.cell? ⟨b,o+3,none⟩=some (.int .i64 r.n)
 wr:w.cell? ⟨b,o+4,none⟩=some (.int .i64 r.wr)
 rd:w.cell? ⟨b,o+5,none⟩=some (.int .i64 r.rd)
 top:w.cell? ⟨b,o+6,none⟩=some (.int .i64 r.top)
theorem reg_cells {w:World}{b:Nat}{l:List Reg}(hc:∀ (i:Nat) u,(l.flatMap regVals)[i]?=some u->w.cell? ⟨b,i,none⟩=some u){i:Nat}{r:Reg}(hi:l[i]?=some r):RegCells w b (i*7) r:=by
 have f:=fun j hj=>flat_at regVals 7 (fun _=>rfl) l i j r hi hj
 rw [Nat.mul_comm i 7]
 exact⟨hc _ _ (f 0 (by omega)),hc _ _ (f 1 (by omega)),hc _ _ (f 2 (by omega)),hc _ _ (f 3 (by omega)),hc _ _ (f 4 (by omega)),hc _ _ (f 5 (by omega)),hc _ _ (f 6 (by omega))⟩
theorem info_reg:(Try.prog.info? 56).map (fun i=>(i.zero,i.size,i.bytes))=some (some (.agg #[.int .i64 0,.int .i64 0,.int .i64 0,.int .i64 0,.int .i64 0,.int .i64 0,.int .i64 0]),7,56):=by kernel_rfl
theorem info_want:(Try.prog.info? 91).map (fun i=>(i.zero,i.size,i.bytes))=some (some (.agg #[.int .i64 0,.int .i64 0]),2,16):=by kernel_rfl
theorem append_rec {ops:Array Oper}{rest:List Oper}{o:Oper}{a:Act}{Q:Exit->Act->World->Prop}{w0 w:World}{e t:TypeId}{z:Value}{size bytes:Nat}
  (hinfo:(Try.prog.info? e).map (fun i=>(i.zero,i.size,i.bytes))=some (some z,size,bytes))(hund:Try.prog.underlying t=some (.slice e))(hzs:z.cells.size=size)(hsz:0<size)(hby:bytes<=100)
  (hgd:o.guard=none)(s x:Operand)(ho:o.op=.call { callee:=.builtin .append,args:=#[s,x],argTypes:=#[t,t] })
  (v:Value)(n:Nat)(xs news:List Value)(hX:Ext w0 w)(hown:w.ownsRow w0.heap.size e size v n xs)(hs:a.eval s=v)(hx:a.eval x=.slice (some ⟨w.heap.size,0,none⟩) 1 1)
  (hnl:news.length=size)(h1:∀ u∈news,u.oneCell'=true)(hlen:n<1000000000)
  (h:∀ v' w',w'.ownsRow w0.heap.size e size v' (n+1) (xs++news)->Ext w0 w'->(∀ k,k<w.heap.size->v.ownBlock≠some k->w'.heap[k]?=w.heap[k]?)->wpList Try.prog ops Q rest (a.put o.dst v') w') :
  wpList Try.prog ops Q (o :: rest) a (w.alloc (.cells news.toArray e)):=by
 obtain⟨i0,hi,hz0,hz1,hz2⟩:=info_parts hinfo
 refine wpList_append_own_at _ hgd s x t ho w0.heap.size e i0 z size bytes hund hi hz0 hz1 hz2 hzs hsz v n xs hs (World.ownsRow.alloc hown _) ⟨w.heap.size,0,none⟩ 1 1 news hx (by omega) ?_ h1 (by unfold maxLen;omega) ?_ (by have:=hX.size;simp;omega) fun v' w' h2 h3 _ _=>?_
 · intro j u hu
   rw [Addr.add_lit,Nat.zero_add]
   refine (cell_of_heap (w:=w.alloc (.cells news.toArray e)) (b:=w.heap.size) (cs:=news.toArray) (t:=e) (fz:=(0,0)) (heap_alloc_new w _) j).trans (by simpa using hu)
 · have:(n+1)*bytes<=(n+1)*100:=Nat.mul_le_mul_left _ hby
   omega
 · refine h v' w' h2 (Below.grown (Below.alloc hX hX.size _) h3 (by have:=hX.size;simp;omega) fun k hk=>?_) (fun k hk hv=>(h3.block k (by simp;omega) (fun e=>hv e.symm)).trans (Below.heap_alloc w _ k hk))
   rcases hown.2 with⟨rfl,_⟩ | ⟨g,cap,cur,rfl,hgb,_⟩
   · simp [Value.ownBlock] at hk
   · simp [Value.ownBlock] at hk
     omega
def lenOf:Option Value->Nat
 | some (.slice _ n _)=>n
 | _=>0
def leftW (i j:Nat) (w:World) (p:Nat):Nat:=lenOf (w.cell? ⟨p,i,none⟩)-lenOf (w.cell? ⟨p,j,none⟩)
theorem row_slice {w:World}{B e size n:Nat}{v:Value}{xs:List Value}(h:w.ownsRow B e size v n xs):∃ A c,v=.slice A n c:=by
 rcases h.2 with⟨rfl,h0⟩ | ⟨g,cap,cur,rfl,_⟩
 · exact⟨none,0,by rw [h0]⟩
 · exact⟨_,_,rfl⟩
theorem Plays.left {B p:Nat}{w:World}{S:TS}(h:Plays B w p S):leftW 1 3 w p=S.left:=by
 obtain⟨_,vA,vL,vC,vN,L,h⟩:=h
 obtain⟨A,c,rfl,_⟩:=h.ans.slice
 obtain⟨C,d,rfl⟩:=row_slice h.rowC
 unfold leftW TS.left
 rw [cell_of_heap h.heap,cell_of_heap h.heap]
 rfl
theorem RegsAt.extL {ix:List Nat}{p b:Nat}{w w':World}{l:List Reg}(h:RegsAt ix w p b l)(hx:Ext w w')(hp:p<w.heap.size):RegsAt ix w' p b l:=h.keep (B:=0) (Keep.of_ext hx hp (Nat.zero_le _))
theorem Plays.len {B p:Nat}{w:World}{S:TS}(h:Plays B w p S):S.acc.length<=S.ans.length:=h.1
theorem RegsAt.four {ix:List Nat}{p b:Nat}{w:World}{x y z u:Reg}(h:RegsAt ix w p b [x,y,z,u]) :
  RegCells w b 0 x/\RegCells w b 7 y/\RegCells w b 14 z/\RegCells w b 21 u :=
 ⟨⟨h.cells 0 _ rfl,h.cells 1 _ rfl,h.cells 2 _ rfl,h.cells 3 _ rfl,h.cells 4 _ rfl,h.cells 5 _ rfl,h.cells 6 _ rfl⟩,⟨h.cells 7 _ rfl,h.cells 8 _ rfl,h.cells 9 _ rfl,h.cells 10 _ rfl,h.cells 11 _ rfl,h.cells 12 _ rfl,h.cells 13 _ rfl⟩,
  ⟨h.cells 14 _ rfl,h.cells 15 _ rfl,h.cells 16 _ rfl,h.cells 17 _ rfl,h.cells 18 _ rfl,h.cells 19 _ rfl,h.cells 20 _ rfl⟩,⟨h.cells 21 _ rfl,h.cells 22 _ rfl,h.cells 23 _ rfl,h.cells 24 _ rfl,h.cells 25 _ rfl,h.cells 26 _ rfl,h.cells 27 _ rfl⟩⟩
end Go.Proofs.Ytbphlkaihfbgeaa
namespace Kv
theorem Prog.Notes.keep {α:Type}{p:Prog α}{n:Nat}(h:p.Notes 0){S S1:TS}{a:Option α}(hr:p.run S=(a,S1))(hn:S.nts.length<=n):S1.nts.length<=n:=by
 have:=h.run S
 rw [hr] at this
 simp only at this
 omega
end Kv
namespace Go.Proofs.Ytbphlkaihfbgeaa
open Go.RowKit Kv
theorem RegsAt.nth {ix:List Nat}{p b:Nat}{w:World}{l:List Reg}(h:RegsAt ix w p b l){i:Nat}{r:Reg}(hi:l[i]?=some r):RegCells w b (i*7) r:=reg_cells h.cells hi
theorem Plays.fresh {B p b:Nat}{w w':World}{S:TS}(h:Plays B w p S)(hx:Ext w w')(hb:w.heap.size<=b):¬ ownR [2,3,4] w' p b:=by
 obtain⟨_,_,_,_,_,_,h⟩:=h
 intro ho
 have:=(h.own ((ownR_same (Below.block hx p h.lt) b).1 ho)).2
 omega
end Go.Proofs.Ytbphlkaihfbgeaa
namespace Kv
inductive Prog.Sets {α:Type} (lo hi:Int):Prog α->Prop
 | ret (a:α):Sets lo hi (.ret a)
 | read (c:Int) {k:Int->Prog α}:(∀ x,Sets lo hi (k x))->Sets lo hi (.read c k)
 | write (c v:Int) {k:Unit->Prog α}:Sets lo hi (k ())->Sets lo hi (.write c v k)
 | get (i:Int) {k:Int->Prog α}:(∀ x,Sets lo hi (k x))->Sets lo hi (.get i k)
 | set (i v:Int) {k:Unit->Prog α}:lo<=i->i<hi->Sets lo hi (k ())->Sets lo hi (.set i v k)
 | note (m:Int) {k:Unit->Prog α}:Sets lo hi (k ())->Sets lo hi (.note m k)
theorem Prog.Sets.bind {α β:Type}{lo hi:Int}{p:Prog α}{f:α->Prog β}(h:p.Sets lo hi)(hf:∀ a,(f a).Sets lo hi):(p.bind f).Sets lo hi:=by
 induction h with
 | ret a=>exact hf a
 | read c _ ih=>exact .read c fun x=>ih x
 | write c v _ ih=>exact .write c v ih
 | get c _ ih=>exact .get c fun x=>ih x
 | set c v h1 h2 _ ih=>exact .set c v h1 h2 ih
 | note m _ ih=>exact .note m ih
theorem Prog.Sets.mono {α:Type}{lo hi lo' hi':Int}{p:Prog α}(h:p.Sets lo hi)(h1:lo'<=lo)(h2:hi<=hi'):p.Sets lo' hi':=by
 induction h with
 | ret a=>exact .ret a
 | read c _ ih=>exact .read c fun x=>ih x
 | write c v _ ih=>exact .write c v ih
 | get c _ ih=>exact .get c fun x=>ih x
 | set c v h3 h4 _ ih=>exact .set c v (by omega) (by omega) ih
 | note m _ ih=>exact .note m ih
theorem Prog.Sets.got {α:Type}{lo hi i:Int}{p:Prog α}(h:p.Sets lo hi)(hi2:i<lo∨hi<=i):∀ S:TS,(p.run S).2.got i=S.got i:=by
 induction h with
 | ret a=>intro S;rfl
 | read c _ ih =>
   intro S
   simp only [Prog.run]
   cases S.next with
   | none=>rfl
   | some v=>exact (ih v _).trans rfl
 | write c v _ ih =>
   intro S
   simp only [Prog.run]
   cases S.next with
   | none=>rfl
   | some _=>exact (ih _).trans rfl
 | get c _ ih=>intro S;exact ih _ _
 | set j v h1 h2 _ ih =>
   intro S
   refine (ih (S.upd j v)).trans ?_
   unfold TS.got TS.upd
   split
   · rfl
   · split
     · simp only
       rw [if_neg (by omega)]
     · rfl
 | note m _ ih=>intro S;exact (ih _).trans rfl
theorem ranks_mem {but:Int}:∀ (n:Nat) (i:Int) {a:Int},a∈ranksFrom but n i->i<=a/\a<i+n/\a≠but
 | 0,i,a,h=>by cases h
 | n+1,i,a,h=>by
   unfold ranksFrom at h
   split at h
   · have:=ranks_mem n (i+1) h
     omega
   · rcases List.mem_cons.1 h with rfl | h
     · omega
     · have:=ranks_mem n (i+1) h
       omega
theorem tells_bd {k a b:Int}(ha:0<=a)(ha2:a<k)(hb:0<=b)(hb2:b<k)(hab:a≠b):0<=tellsM k a b/\tellsM k a b<k*k:=by
 unfold tellsM
 have h1:a*(k-1)<=(k-1)*(k-1):=Int.mul_le_mul_of_nonneg_right (by omega) (by omega)
 have h0:0<=a*(k-1):=Int.mul_nonneg ha (by omega)
 have h2:(k-1)*(k-1)=k*k-2*k+1:=by
  rw [Int.sub_mul,Int.mul_sub,Int.mul_one,Int.one_mul];omega
 split
 · omega
 · rename_i h
   by_cases e:a=k-1
   · omega
   · have h3:a*(k-1)<=(k-2)*(k-1):=Int.mul_le_mul_of_nonneg_right (by omega) (by omega)
     have h4:(k-2)*(k-1)=k*k-3*k+2:=by
      rw [Int.sub_mul,Int.mul_sub,Int.mul_one];omega
     omega
end Kv
namespace Go.Proofs.Ytbphlkaihfbgeaa
open Go.RowKit Kv
theorem cells_bd (n:Int)(h1:1<=n)(h2:n<=8):(0<=16*(n-1)/\16*(n-1)<=112)/\(0<=16*(n-1)*(n-1)/\16*(n-1)*(n-1)<=784)/\(0<=16*(n-1)*(n-1)*n/\16*(n-1)*(n-1)*n<=6272):=by
 have a1:0<=16*(n-1)*(n-1):=Int.mul_nonneg (by omega) (by omega)
 have a2:16*(n-1)*(n-1)<=112*7:=Int.mul_le_mul (by omega) (by omega) (by omega) (by omega)
 have a3:0<=16*(n-1)*(n-1)*n:=Int.mul_nonneg a1 (by omega)
 have a4:16*(n-1)*(n-1)*n<=784*8:=Int.mul_le_mul (by omega) (by omega) (by omega) (by omega)
 omega
theorem locals_bd (n:Int)(h1:1<=n)(h2:n<=8):(0<=18*(n-1)/\18*(n-1)<=126)/\(0<=18*(n-1)*(n-1)/\18*(n-1)*(n-1)<=882)/\(0<=n*(2+18*(n-1)*(n-1))/\n*(2+18*(n-1)*(n-1))<=7072):=by
 have a1:0<=18*(n-1)*(n-1):=Int.mul_nonneg (by omega) (by omega)
 have a2:18*(n-1)*(n-1)<=126*7:=Int.mul_le_mul (by omega) (by omega) (by omega) (by omega)
 have a3:0<=n*(2+18*(n-1)*(n-1)):=Int.mul_nonneg (by omega) (by omega)
 have a4:n*(2+18*(n-1)*(n-1))<=8*884:=Int.mul_le_mul (by omega) (by omega) (by omega) (by omega)
 omega
theorem cells_r (r:Reg)(w:World)(hk:r.kind=1∨r.kind=6∨r.kind=7)(hn:1<=r.n/\r.n<=8):Calls Try.prog 95 #[encR r] w fun e w'=>e=.returned (.int .i64 (cellsM r))/\Ext w w':=by
 obtain⟨kind,base,loc,n,wr,rd,top⟩:=r
 simp only at hk hn
 have hb:=cells_bd n hn.1 hn.2
 unfold encR cellsM
 simp only
 have hX:=Ext.refl w
 have b1:=Blk.new w (.cells #[.int .i64 kind,.int .i64 base,.int .i64 loc,.int .i64 n,.int .i64 wr,.int .i64 rd,.int .i64 top] 56)
 replace hX:=hX.alloc (.cells #[.int .i64 kind,.int .i64 base,.int .i64 loc,.int .i64 n,.int .i64 wr,.int .i64 rd,.int .i64 top] 56)
 have c_b1:=b1.cells
 go_enter Try.func95,Try.ntmps95
 go_wp2_with fail
 refine (rn_r ⟨kind,base,loc,n,wr,rd,top⟩ _ hn.1 hn.2).mono ?_
 rintro e w2 ⟨rfl,hx⟩
 clear c_b1
 replace b1:=b1.ext hx
 have c_b1:=b1.cells
 replace hX:=hX.trans hx
 clear hx
 rcases hk with rfl | rfl | rfl
 · go_wp2_with fail
   go_ret
   exact⟨rfl,hX⟩
 · go_wp2_with fail
   go_ret
   exact⟨rfl,hX⟩
 · go_wp2_with fail
   go_ret
   exact⟨rfl,hX⟩
theorem locals_r (r:Reg)(w:World)(hk:r.kind=1∨r.kind=6∨r.kind=7)(hn:1<=r.n/\r.n<=8):Calls Try.prog 96 #[encR r] w fun e w'=>e=.returned (.int .i64 (localsM r))/\Ext w w':=by
 obtain⟨kind,base,loc,n,wr,rd,top⟩:=r
 simp only at hk hn
 have hb:=locals_bd n hn.1 hn.2
 unfold encR localsM
 simp only
 have hX:=Ext.refl w
 have b1:=Blk.new w (.cells #[.int .i64 kind,.int .i64 base,.int .i64 loc,.int .i64 n,.int .i64 wr,.int .i64 rd,.int .i64 top] 56)
 replace hX:=hX.alloc (.cells #[.int .i64 kind,.int .i64 base,.int .i64 loc,.int .i64 n,.int .i64 wr,.int .i64 rd,.int .i64 top] 56)
 have c_b1:=b1.cells
 go_enter Try.func96,Try.ntmps96
 go_wp2_with fail
 refine (rn_r ⟨kind,base,loc,n,wr,rd,top⟩ _ hn.1 hn.2).mono ?_
 rintro e w2 ⟨rfl,hx⟩
 clear c_b1
 replace b1:=b1.ext hx
 have c_b1:=b1.cells
 replace hX:=hX.trans hx
 clear hx
 rcases hk with rfl | rfl | rfl
 · go_wp2_with fail
   go_ret
   exact⟨rfl,hX⟩
 · go_wp2_with fail
   go_ret
   exact⟨rfl,hX⟩
 · go_wp2_with fail
   go_ret
   exact⟨rfl,hX⟩
theorem thread_in (n t:Int)(must:Bool)(w:World)(h:0<=t/\t<n):Calls Try.prog 94 #[.int .i64 n,.int .i64 t,.bool must] w fun e w'=>e=.returned (.bool true)/\w=w':=by
 obtain⟨h1,h2⟩:=h
 go_enter Try.func94,Try.ntmps94
 go_wp2_with fail
 go_ret
 exact⟨rfl,rfl⟩
theorem thread_none (n:Int)(w:World):Calls Try.prog 94 #[.int .i64 n,.int .i64 (-1),.bool false] w fun e w'=>e=.returned (.bool true)/\w=w':=by
 go_enter Try.func94,Try.ntmps94
 go_wp2_with fail
 go_ret
 exact⟨rfl,rfl⟩
theorem thread_any (n t:Int)(must:Bool)(w:World)(h:(0<=t/\t<n)∨(t=-1/\must=false)):Calls Try.prog 94 #[.int .i64 n,.int .i64 t,.bool must] w fun e w'=>e=.returned (.bool true)/\w=w':=by
 rcases h with h | ⟨rfl,rfl⟩
 · exact thread_in n t must w h
 · exact thread_none n w
structure Drawn (r:Reg):Prop where
 kind:r.kind=1∨r.kind=6∨r.kind=7
 base:0<=r.base
 loc:0<=r.loc
 n:1<=r.n/\r.n<=8
 wr:-1<=r.wr/\r.wr<r.n
 wr6:r.kind=6->0<=r.wr
 rd:r.rd=-1
 top:1<=r.top/\r.top<=255
set_option maxRecDepth 100000 in
set_option maxHeartbeats 2000000 in
theorem fine1_r (base loc n wr top C D:Int)(w:World)(hb:0<=base)(hl:0<=loc)(hn:1<=n/\n<=8)(hw:-1<=wr/\wr<n)(ht:1<=top/\top<=255)(hz:0<=C/\C<=6272/\0<=D/\D<=7072)
  (hC:∀ w,Calls Try.prog 95 #[.agg #[.int .i64 1,.int .i64 base,.int .i64 loc,.int .i64 n,.int .i64 wr,.int .i64 (-1),.int .i64 top]] w fun e w'=>e=.returned (.int .i64 C)/\Ext w w')
  (hL:∀ w,Calls Try.prog 96 #[.agg #[.int .i64 1,.int .i64 base,.int .i64 loc,.int .i64 n,.int .i64 wr,.int .i64 (-1),.int .i64 top]] w fun e w'=>e=.returned (.int .i64 D)/\Ext w w') :
  Calls Try.prog 38 #[.agg #[.int .i64 1,.int .i64 base,.int .i64 loc,.int .i64 n,.int .i64 wr,.int .i64 (-1),.int .i64 top]] w fun e w'=>e=.returned (.bool (decide (base<=32768)&&decide (loc<=32768)&&decide (base+C<=32768)&&decide (loc+D<=32768)))/\Ext w w':=by
 have d1:decide (base<0)=false:=by simpa using hb
 have d2:decide (loc<0)=false:=by simpa using hl
 have d3:decide (n<1)=false:=by simpa using hn.1
 have d4:decide (8<n)=false:=by simpa using hn.2
 have d7:decide (1<=top)=true:=by simpa using ht.1
 have hX:=Ext.refl w
 have b1:=Blk.new w (.cells #[.int .i64 1,.int .i64 base,.int .i64 loc,.int .i64 n,.int .i64 wr,.int .i64 (-1),.int .i64 top] 56)
 replace hX:=hX.alloc (.cells #[.int .i64 1,.int .i64 base,.int .i64 loc,.int .i64 n,.int .i64 wr,.int .i64 (-1),.int .i64 top] 56)
 have c_b1:=b1.cells
 by_cases e1:base<=32768
 · have d5:decide (32768<base)=false:=by simpa using e1
   by_cases e2:loc<=32768
   · have d6:decide (32768<loc)=false:=by simpa using e2
     have e1':decide (base<=32768)=true:=by simpa using e1
     have e2':decide (loc<=32768)=true:=by simpa using e2
     rw [e1',e2',Bool.true_and,Bool.true_and]
     clear e1' e2'
     have h1w:=IntWalk.i64_in (base+C) (by omega)
     have h2w:=IntWalk.i64_in (loc+D) (by omega)
     go_enter Try.func38,Try.ntmps38
     go_wp2_with fail
     refine (thread_any n wr false _ (by rcases Int.lt_or_le wr 0 with e | e;exact .inr ⟨by omega,rfl⟩;exact .inl ⟨e,hw.2⟩)).mono ?_
     rintro e w' ⟨rfl,rfl⟩
     go_wp2_with fail
     refine (thread_none n _).mono ?_
     rintro e w' ⟨rfl,rfl⟩
     go_wp2_with fail
     have k1:=b1.alloc (.cells #[.int .i64 0,.int .i64 1099511627776,.int .i64 1,.int .i64 255,.int .i64 1,.int .i64 1099511627776,.int .i64 1048576,.int .i64 255] 3)
     have k2:=Blk.new (w.alloc (.cells #[.int .i64 1,.int .i64 base,.int .i64 loc,.int .i64 n,.int .i64 wr,.int .i64 (-1),.int .i64 top] 56)) (.cells #[.int .i64 0,.int .i64 1099511627776,.int .i64 1,.int .i64 255,.int .i64 1,.int .i64 1099511627776,.int .i64 1048576,.int .i64 255] 3)
     have hXW:=hX.alloc (.cells #[.int .i64 0,.int .i64 1099511627776,.int .i64 1,.int .i64 255,.int .i64 1,.int .i64 1099511627776,.int .i64 1048576,.int .i64 255] 3)
     simp only [World.size_alloc] at k2
     clear b1 c_b1 hX
     generalize World.alloc (World.alloc _ _) _=W at *
     have hX:=(Ext.refl W).drew
     have hS:∀ w',Ext W w'->(∀ i,w'.cell? ⟨w.heap.size,i,none⟩=(#[.int .i64 1,.int .i64 base,.int .i64 loc,.int .i64 n,.int .i64 wr,.int .i64 (-1),.int .i64 top]:Array Value)[i]?)/\(∀ i,w'.cell? ⟨w.heap.size+1,i,none⟩=(#[.int .i64 0,.int .i64 1099511627776,.int .i64 1,.int .i64 255,.int .i64 1,.int .i64 1099511627776,.int .i64 1048576,.int .i64 255]:Array Value)[i]?):=fun w' hx=>⟨(k1.ext hx).cells,(k2.ext hx).cells⟩
     have d8:decide (top<=1099511627776)=true:=by rw [decide_eq_true_eq];omega
     by_cases hc:base+C<=32768
     · have d9:decide (base+C<=32768)=true:=by simpa using hc
       go_region_held2 (fun w'=>(∀ i,w'.cell? ⟨w.heap.size,i,none⟩=(#[.int .i64 1,.int .i64 base,.int .i64 loc,.int .i64 n,.int .i64 wr,.int .i64 (-1),.int .i64 top]:Array Value)[i]?)/\(∀ i,w'.cell? ⟨w.heap.size+1,i,none⟩=(#[.int .i64 0,.int .i64 1099511627776,.int .i64 1,.int .i64 255,.int .i64 1,.int .i64 1099511627776,.int .i64 1048576,.int .i64 255]:Array Value)[i]?)) (exact hS _ hX)
       (first
          | (go_at_call 95
             refine (hC _).mono ?_
             rintro e w2 ⟨rfl,hx⟩
             replace hX:=hX.trans hx
             clear hx)
          | (go_at_call 96
             refine (hL _).mono ?_
             rintro e w2 ⟨rfl,hx⟩
             replace hX:=hX.trans hx
             clear hx))
       go_wp2_with fail
       go_ret
       exact⟨ret_bool (by rw [d9,Bool.true_and]),hXW.trans hX⟩
     · have d9:decide (base+C<=32768)=false:=by simpa using hc
       refine wp_region_held_drew (S:=fun w'=>(∀ i,w'.cell? ⟨w.heap.size,i,none⟩=(#[.int .i64 1,.int .i64 base,.int .i64 loc,.int .i64 n,.int .i64 wr,.int .i64 (-1),.int .i64 top]:Array Value)[i]?)/\(∀ i,w'.cell? ⟨w.heap.size+1,i,none⟩=(#[.int .i64 0,.int .i64 1099511627776,.int .i64 1,.int .i64 255,.int .i64 1,.int .i64 1099511627776,.int .i64 1048576,.int .i64 255]:Array Value)[i]?)) rfl (hS _ hX) (fun hHeld=>?_)
       refine tkb 0 ?_
       iterate 17
        refine tkn (v:=?_) rfl (by kernel_rfl) (fun _ _ _ h=>h) (by assumption) ?_ ?_
        rotate_left
        · (intro w hSw;(try dsimp only at hSw);go_simp;try with_reducible rfl)
        try simp only [put_pack]
       refine tke ?_
       refine wpAnyH_ready (rs:=[17]) (by kernel_rfl) (by simp) ?_
       refine AllReadyH.cons rfl (fun K hKK=>?_) (AllReadyH.nil)
       go_simp
       refine (hC _).mono ?_
       rintro e w2 ⟨rfl,hx⟩
       replace hX:=hX.trans hx
       clear hx
       refine hKK.out _ _ (hS _ hX) (fun hHeld=>?_)
       clear hKK K
       try dsimp only
       refine tkb 18 ?_
       iterate 4
        refine tkn (v:=?_) rfl (by kernel_rfl) (fun _ _ _ h=>h) (by assumption) ?_ ?_
        rotate_left
        · (intro w hSw;(try dsimp only at hSw);go_simp;try with_reducible rfl)
        try simp only [put_pack]
       refine tke ?_
       refine sk 22 rfl (by kernel_rfl) (fun _ _ _ h=>h) (by assumption) ?_
       try simp only [put_pack]
       refine sk 23 rfl (by kernel_rfl) (fun _ _ _ h=>h) (by assumption) ?_
       try simp only [put_pack]
       refine sk 24 rfl (by kernel_rfl) (fun _ _ _ h=>h) (by assumption) ?_
       try simp only [put_pack]
       refine sk 25 rfl (by kernel_rfl) (fun _ _ _ h=>h) (by assumption) ?_
       try simp only [put_pack]
       refine sk 26 rfl (by kernel_rfl) (fun _ _ _ h=>h) (by assumption) ?_
       try simp only [put_pack]
       refine sk 27 rfl (by kernel_rfl) (fun _ _ _ h=>h) (by assumption) ?_
       try simp only [put_pack]
       refine tk 28 (v:=?_) rfl (by kernel_rfl) (fun _ _ _ h=>h) (by assumption) ?_ ?_
       rotate_left
       · (intro w hSw;(try dsimp only at hSw);go_simp;try with_reducible rfl)
       try simp only [put_pack]
       refine tk 29 (v:=?_) rfl (by kernel_rfl) (fun _ _ _ h=>h) (by assumption) ?_ ?_
       rotate_left
       · (intro w hSw;(try dsimp only at hSw);go_simp;try with_reducible rfl)
       try simp only [put_pack]
       refine wpAnyH_done (by kernel_rfl) ?_ _
       go_wp2_with fail
       go_ret
       exact⟨ret_bool (by simp),hXW.trans hX⟩
   · have d6:decide (32768<loc)=true:=by rw [decide_eq_true_eq];omega
     have e2':decide (loc<=32768)=false:=by simpa using e2
     rw [e2',Bool.and_false,Bool.false_and,Bool.false_and]
     go_enter Try.func38,Try.ntmps38
     go_wp2_with fail
     go_ret
     exact⟨rfl,hX⟩
 · have d5:decide (32768<base)=true:=by rw [decide_eq_true_eq];omega
   have e2':decide (base<=32768)=false:=by simpa using e1
   rw [e2',Bool.false_and,Bool.false_and,Bool.false_and]
   go_enter Try.func38,Try.ntmps38
   go_wp2_with fail
   go_ret
   exact⟨rfl,hX⟩
set_option maxRecDepth 100000 in
set_option maxHeartbeats 2000000 in
theorem fine6_r (base loc n wr top C D:Int)(w:World)(hb:0<=base)(hl:0<=loc)(hn:1<=n/\n<=8)(hw:0<=wr/\wr<n)(ht:1<=top/\top<=255)(hz:0<=C/\C<=6272/\0<=D/\D<=7072)
  (hC:∀ w,Calls Try.prog 95 #[.agg #[.int .i64 6,.int .i64 base,.int .i64 loc,.int .i64 n,.int .i64 wr,.int .i64 (-1),.int .i64 top]] w fun e w'=>e=.returned (.int .i64 C)/\Ext w w')
  (hL:∀ w,Calls Try.prog 96 #[.agg #[.int .i64 6,.int .i64 base,.int .i64 loc,.int .i64 n,.int .i64 wr,.int .i64 (-1),.int .i64 top]] w fun e w'=>e=.returned (.int .i64 D)/\Ext w w') :
  Calls Try.prog 38 #[.agg #[.int .i64 6,.int .i64 base,.int .i64 loc,.int .i64 n,.int .i64 wr,.int .i64 (-1),.int .i64 top]] w fun e w'=>e=.returned (.bool (decide (base<=32768)&&decide (loc<=32768)&&decide (base+C<=32768)&&decide (loc+D<=32768)))/\Ext w w':=by
 have d1:decide (base<0)=false:=by simpa using hb
 have d2:decide (loc<0)=false:=by simpa using hl
 have d3:decide (n<1)=false:=by simpa using hn.1
 have d4:decide (8<n)=false:=by simpa using hn.2
 have d7:decide (1<=top)=true:=by simpa using ht.1
 have hX:=Ext.refl w
 have b1:=Blk.new w (.cells #[.int .i64 6,.int .i64 base,.int .i64 loc,.int .i64 n,.int .i64 wr,.int .i64 (-1),.int .i64 top] 56)
 replace hX:=hX.alloc (.cells #[.int .i64 6,.int .i64 base,.int .i64 loc,.int .i64 n,.int .i64 wr,.int .i64 (-1),.int .i64 top] 56)
 have c_b1:=b1.cells
 by_cases e1:base<=32768
 · have d5:decide (32768<base)=false:=by simpa using e1
   by_cases e2:loc<=32768
   · have d6:decide (32768<loc)=false:=by simpa using e2
     have e1':decide (base<=32768)=true:=by simpa using e1
     have e2':decide (loc<=32768)=true:=by simpa using e2
     rw [e1',e2',Bool.true_and,Bool.true_and]
     clear e1' e2'
     have h1w:=IntWalk.i64_in (base+C) (by omega)
     have h2w:=IntWalk.i64_in (loc+D) (by omega)
     go_enter Try.func38,Try.ntmps38
     go_wp2_with fail
     refine (thread_any n wr true _ (by omega)).mono ?_
     rintro e w' ⟨rfl,rfl⟩
     go_wp2_with fail
     refine (thread_none n _).mono ?_
     rintro e w' ⟨rfl,rfl⟩
     go_wp2_with fail
     have k1:=b1.alloc (.cells #[.int .i64 0,.int .i64 1099511627776,.int .i64 1,.int .i64 255,.int .i64 1,.int .i64 1099511627776,.int .i64 1048576,.int .i64 255] 3)
     have k2:=Blk.new (w.alloc (.cells #[.int .i64 6,.int .i64 base,.int .i64 loc,.int .i64 n,.int .i64 wr,.int .i64 (-1),.int .i64 top] 56)) (.cells #[.int .i64 0,.int .i64 1099511627776,.int .i64 1,.int .i64 255,.int .i64 1,.int .i64 1099511627776,.int .i64 1048576,.int .i64 255] 3)
     have hXW:=hX.alloc (.cells #[.int .i64 0,.int .i64 1099511627776,.int .i64 1,.int .i64 255,.int .i64 1,.int .i64 1099511627776,.int .i64 1048576,.int .i64 255] 3)
     simp only [World.size_alloc] at k2
     clear b1 c_b1 hX
     generalize World.alloc (World.alloc _ _) _=W at *
     have hX:=(Ext.refl W).drew
     have hS:∀ w',Ext W w'->(∀ i,w'.cell? ⟨w.heap.size,i,none⟩=(#[.int .i64 6,.int .i64 base,.int .i64 loc,.int .i64 n,.int .i64 wr,.int .i64 (-1),.int .i64 top]:Array Value)[i]?)/\(∀ i,w'.cell? ⟨w.heap.size+1,i,none⟩=(#[.int .i64 0,.int .i64 1099511627776,.int .i64 1,.int .i64 255,.int .i64 1,.int .i64 1099511627776,.int .i64 1048576,.int .i64 255]:Array Value)[i]?):=fun w' hx=>⟨(k1.ext hx).cells,(k2.ext hx).cells⟩
     have d8:decide (top<=1048576)=true:=by rw [decide_eq_true_eq];omega
     by_cases hc:base+C<=32768
     · have d9:decide (base+C<=32768)=true:=by simpa using hc
       go_region_held2 (fun w'=>(∀ i,w'.cell? ⟨w.heap.size,i,none⟩=(#[.int .i64 6,.int .i64 base,.int .i64 loc,.int .i64 n,.int .i64 wr,.int .i64 (-1),.int .i64 top]:Array Value)[i]?)/\(∀ i,w'.cell? ⟨w.heap.size+1,i,none⟩=(#[.int .i64 0,.int .i64 1099511627776,.int .i64 1,.int .i64 255,.int .i64 1,.int .i64 1099511627776,.int .i64 1048576,.int .i64 255]:Array Value)[i]?)) (exact hS _ hX)
       (first
          | (go_at_call 95
             refine (hC _).mono ?_
             rintro e w2 ⟨rfl,hx⟩
             replace hX:=hX.trans hx
             clear hx)
          | (go_at_call 96
             refine (hL _).mono ?_
             rintro e w2 ⟨rfl,hx⟩
             replace hX:=hX.trans hx
             clear hx))
       go_wp2_with fail
       go_ret
       exact⟨ret_bool (by rw [d9,Bool.true_and]),hXW.trans hX⟩
     · have d9:decide (base+C<=32768)=false:=by simpa using hc
       refine wp_region_held_drew (S:=fun w'=>(∀ i,w'.cell? ⟨w.heap.size,i,none⟩=(#[.int .i64 6,.int .i64 base,.int .i64 loc,.int .i64 n,.int .i64 wr,.int .i64 (-1),.int .i64 top]:Array Value)[i]?)/\(∀ i,w'.cell? ⟨w.heap.size+1,i,none⟩=(#[.int .i64 0,.int .i64 1099511627776,.int .i64 1,.int .i64 255,.int .i64 1,.int .i64 1099511627776,.int .i64 1048576,.int .i64 255]:Array Value)[i]?)) rfl (hS _ hX) (fun hHeld=>?_)
       refine tkb 0 ?_
       iterate 17
        refine tkn (v:=?_) rfl (by kernel_rfl) (fun _ _ _ h=>h) (by assumption) ?_ ?_
        rotate_left
        · (intro w hSw;(try dsimp only at hSw);go_simp;try with_reducible rfl)
        try simp only [put_pack]
       refine tke ?_
       refine wpAnyH_ready (rs:=[17]) (by kernel_rfl) (by simp) ?_
       refine AllReadyH.cons rfl (fun K hKK=>?_) (AllReadyH.nil)
       go_simp
       refine (hC _).mono ?_
       rintro e w2 ⟨rfl,hx⟩
       replace hX:=hX.trans hx
       clear hx
       refine hKK.out _ _ (hS _ hX) (fun hHeld=>?_)
       clear hKK K
       try dsimp only
       refine tkb 18 ?_
       iterate 4
        refine tkn (v:=?_) rfl (by kernel_rfl) (fun _ _ _ h=>h) (by assumption) ?_ ?_
        rotate_left
        · (intro w hSw;(try dsimp only at hSw);go_simp;try with_reducible rfl)
        try simp only [put_pack]
       refine tke ?_
       refine sk 22 rfl (by kernel_rfl) (fun _ _ _ h=>h) (by assumption) ?_
       try simp only [put_pack]
       refine sk 23 rfl (by kernel_rfl) (fun _ _ _ h=>h) (by assumption) ?_
       try simp only [put_pack]
       refine sk 24 rfl (by kernel_rfl) (fun _ _ _ h=>h) (by assumption) ?_
       try simp only [put_pack]
       refine sk 25 rfl (by kernel_rfl) (fun _ _ _ h=>h) (by assumption) ?_
       try simp only [put_pack]
       refine sk 26 rfl (by kernel_rfl) (fun _ _ _ h=>h) (by assumption) ?_
       try simp only [put_pack]
       refine sk 27 rfl (by kernel_rfl) (fun _ _ _ h=>h) (by assumption) ?_
       try simp only [put_pack]
       refine tk 28 (v:=?_) rfl (by kernel_rfl) (fun _ _ _ h=>h) (by assumption) ?_ ?_
       rotate_left
       · (intro w hSw;(try dsimp only at hSw);go_simp;try with_reducible rfl)
       try simp only [put_pack]
       refine tk 29 (v:=?_) rfl (by kernel_rfl) (fun _ _ _ h=>h) (by assumption) ?_ ?_
       rotate_left
       · (intro w hSw;(try dsimp only at hSw);go_simp;try with_reducible rfl)
       try simp only [put_pack]
       refine wpAnyH_done (by kernel_rfl) ?_ _
       go_wp2_with fail
       go_ret
       exact⟨ret_bool (by simp),hXW.trans hX⟩
   · have d6:decide (32768<loc)=true:=by rw [decide_eq_true_eq];omega
     have e2':decide (loc<=32768)=false:=by simpa using e2
     rw [e2',Bool.and_false,Bool.false_and,Bool.false_and]
     go_enter Try.func38,Try.ntmps38
     go_wp2_with fail
     go_ret
     exact⟨rfl,hX⟩
 · have d5:decide (32768<base)=true:=by rw [decide_eq_true_eq];omega
   have e2':decide (base<=32768)=false:=by simpa using e1
   rw [e2',Bool.false_and,Bool.false_and,Bool.false_and]
   go_enter Try.func38,Try.ntmps38
   go_wp2_with fail
   go_ret
   exact⟨rfl,hX⟩
set_option maxRecDepth 100000 in
set_option maxHeartbeats 2000000 in
theorem fine7_r (base loc n wr top C D:Int)(w:World)(hb:0<=base)(hl:0<=loc)(hn:1<=n/\n<=8)(hw:-1<=wr/\wr<n)(ht:1<=top/\top<=255)(hz:0<=C/\C<=6272/\0<=D/\D<=7072)
  (hC:∀ w,Calls Try.prog 95 #[.agg #[.int .i64 7,.int .i64 base,.int .i64 loc,.int .i64 n,.int .i64 wr,.int .i64 (-1),.int .i64 top]] w fun e w'=>e=.returned (.int .i64 C)/\Ext w w')
  (hL:∀ w,Calls Try.prog 96 #[.agg #[.int .i64 7,.int .i64 base,.int .i64 loc,.int .i64 n,.int .i64 wr,.int .i64 (-1),.int .i64 top]] w fun e w'=>e=.returned (.int .i64 D)/\Ext w w') :
  Calls Try.prog 38 #[.agg #[.int .i64 7,.int .i64 base,.int .i64 loc,.int .i64 n,.int .i64 wr,.int .i64 (-1),.int .i64 top]] w fun e w'=>e=.returned (.bool (decide (base<=32768)&&decide (loc<=32768)&&decide (base+C<=32768)&&decide (loc+D<=32768)))/\Ext w w':=by
 have d1:decide (base<0)=false:=by simpa using hb
 have d2:decide (loc<0)=false:=by simpa using hl
 have d3:decide (n<1)=false:=by simpa using hn.1
 have d4:decide (8<n)=false:=by simpa using hn.2
 have d7:decide (1<=top)=true:=by simpa using ht.1
 have hX:=Ext.refl w
 have b1:=Blk.new w (.cells #[.int .i64 7,.int .i64 base,.int .i64 loc,.int .i64 n,.int .i64 wr,.int .i64 (-1),.int .i64 top] 56)
 replace hX:=hX.alloc (.cells #[.int .i64 7,.int .i64 base,.int .i64 loc,.int .i64 n,.int .i64 wr,.int .i64 (-1),.int .i64 top] 56)
 have c_b1:=b1.cells
 by_cases e1:base<=32768
 · have d5:decide (32768<base)=false:=by simpa using e1
   by_cases e2:loc<=32768
   · have d6:decide (32768<loc)=false:=by simpa using e2
     have e1':decide (base<=32768)=true:=by simpa using e1
     have e2':decide (loc<=32768)=true:=by simpa using e2
     rw [e1',e2',Bool.true_and,Bool.true_and]
     clear e1' e2'
     have h1w:=IntWalk.i64_in (base+C) (by omega)
     have h2w:=IntWalk.i64_in (loc+D) (by omega)
     go_enter Try.func38,Try.ntmps38
     go_wp2_with fail
     refine (thread_any n wr false _ (by rcases Int.lt_or_le wr 0 with e | e;exact .inr ⟨by omega,rfl⟩;exact .inl ⟨e,hw.2⟩)).mono ?_
     rintro e w' ⟨rfl,rfl⟩
     go_wp2_with fail
     refine (thread_none n _).mono ?_
     rintro e w' ⟨rfl,rfl⟩
     go_wp2_with fail
     have k1:=b1.alloc (.cells #[.int .i64 0,.int .i64 1099511627776,.int .i64 1,.int .i64 255,.int .i64 1,.int .i64 1099511627776,.int .i64 1048576,.int .i64 255] 3)
     have k2:=Blk.new (w.alloc (.cells #[.int .i64 7,.int .i64 base,.int .i64 loc,.int .i64 n,.int .i64 wr,.int .i64 (-1),.int .i64 top] 56)) (.cells #[.int .i64 0,.int .i64 1099511627776,.int .i64 1,.int .i64 255,.int .i64 1,.int .i64 1099511627776,.int .i64 1048576,.int .i64 255] 3)
     have hXW:=hX.alloc (.cells #[.int .i64 0,.int .i64 1099511627776,.int .i64 1,.int .i64 255,.int .i64 1,.int .i64 1099511627776,.int .i64 1048576,.int .i64 255] 3)
     simp only [World.size_alloc] at k2
     clear b1 c_b1 hX
     generalize World.alloc (World.alloc _ _) _=W at *
     have hX:=(Ext.refl W).drew
     have hS:∀ w',Ext W w'->(∀ i,w'.cell? ⟨w.heap.size,i,none⟩=(#[.int .i64 7,.int .i64 base,.int .i64 loc,.int .i64 n,.int .i64 wr,.int .i64 (-1),.int .i64 top]:Array Value)[i]?)/\(∀ i,w'.cell? ⟨w.heap.size+1,i,none⟩=(#[.int .i64 0,.int .i64 1099511627776,.int .i64 1,.int .i64 255,.int .i64 1,.int .i64 1099511627776,.int .i64 1048576,.int .i64 255]:Array Value)[i]?):=fun w' hx=>⟨(k1.ext hx).cells,(k2.ext hx).cells⟩
     have d8:decide (top<=255)=true:=by rw [decide_eq_true_eq];omega
     by_cases hc:base+C<=32768
     · have d9:decide (base+C<=32768)=true:=by simpa using hc
       go_region_held2 (fun w'=>(∀ i,w'.cell? ⟨w.heap.size,i,none⟩=(#[.int .i64 7,.int .i64 base,.int .i64 loc,.int .i64 n,.int .i64 wr,.int .i64 (-1),.int .i64 top]:Array Value)[i]?)/\(∀ i,w'.cell? ⟨w.heap.size+1,i,none⟩=(#[.int .i64 0,.int .i64 1099511627776,.int .i64 1,.int .i64 255,.int .i64 1,.int .i64 1099511627776,.int .i64 1048576,.int .i64 255]:Array Value)[i]?)) (exact hS _ hX)
       (first
          | (go_at_call 95
             refine (hC _).mono ?_
             rintro e w2 ⟨rfl,hx⟩
             replace hX:=hX.trans hx
             clear hx)
          | (go_at_call 96
             refine (hL _).mono ?_
             rintro e w2 ⟨rfl,hx⟩
             replace hX:=hX.trans hx
             clear hx))
       go_wp2_with fail
       go_ret
       exact⟨ret_bool (by rw [d9,Bool.true_and]),hXW.trans hX⟩
     · have d9:decide (base+C<=32768)=false:=by simpa using hc
       refine wp_region_held_drew (S:=fun w'=>(∀ i,w'.cell? ⟨w.heap.size,i,none⟩=(#[.int .i64 7,.int .i64 base,.int .i64 loc,.int .i64 n,.int .i64 wr,.int .i64 (-1),.int .i64 top]:Array Value)[i]?)/\(∀ i,w'.cell? ⟨w.heap.size+1,i,none⟩=(#[.int .i64 0,.int .i64 1099511627776,.int .i64 1,.int .i64 255,.int .i64 1,.int .i64 1099511627776,.int .i64 1048576,.int .i64 255]:Array Value)[i]?)) rfl (hS _ hX) (fun hHeld=>?_)
       refine tkb 0 ?_
       iterate 17
        refine tkn (v:=?_) rfl (by kernel_rfl) (fun _ _ _ h=>h) (by assumption) ?_ ?_
        rotate_left
        · (intro w hSw;(try dsimp only at hSw);go_simp;try with_reducible rfl)
        try simp only [put_pack]
       refine tke ?_
       refine wpAnyH_ready (rs:=[17]) (by kernel_rfl) (by simp) ?_
       refine AllReadyH.cons rfl (fun K hKK=>?_) (AllReadyH.nil)
       go_simp
       refine (hC _).mono ?_
       rintro e w2 ⟨rfl,hx⟩
       replace hX:=hX.trans hx
       clear hx
       refine hKK.out _ _ (hS _ hX) (fun hHeld=>?_)
       clear hKK K
       try dsimp only
       refine tkb 18 ?_
       iterate 4
        refine tkn (v:=?_) rfl (by kernel_rfl) (fun _ _ _ h=>h) (by assumption) ?_ ?_
        rotate_left
        · (intro w hSw;(try dsimp only at hSw);go_simp;try with_reducible rfl)
        try simp only [put_pack]
       refine tke ?_
       refine sk 22 rfl (by kernel_rfl) (fun _ _ _ h=>h) (by assumption) ?_
       try simp only [put_pack]
       refine sk 23 rfl (by kernel_rfl) (fun _ _ _ h=>h) (by assumption) ?_
       try simp only [put_pack]
       refine sk 24 rfl (by kernel_rfl) (fun _ _ _ h=>h) (by assumption) ?_
       try simp only [put_pack]
       refine sk 25 rfl (by kernel_rfl) (fun _ _ _ h=>h) (by assumption) ?_
       try simp only [put_pack]
       refine sk 26 rfl (by kernel_rfl) (fun _ _ _ h=>h) (by assumption) ?_
       try simp only [put_pack]
       refine sk 27 rfl (by kernel_rfl) (fun _ _ _ h=>h) (by assumption) ?_
       try simp only [put_pack]
       refine tk 28 (v:=?_) rfl (by kernel_rfl) (fun _ _ _ h=>h) (by assumption) ?_ ?_
       rotate_left
       · (intro w hSw;(try dsimp only at hSw);go_simp;try with_reducible rfl)
       try simp only [put_pack]
       refine tk 29 (v:=?_) rfl (by kernel_rfl) (fun _ _ _ h=>h) (by assumption) ?_ ?_
       rotate_left
       · (intro w hSw;(try dsimp only at hSw);go_simp;try with_reducible rfl)
       try simp only [put_pack]
       refine wpAnyH_done (by kernel_rfl) ?_ _
       go_wp2_with fail
       go_ret
       exact⟨ret_bool (by simp),hXW.trans hX⟩
   · have d6:decide (32768<loc)=true:=by rw [decide_eq_true_eq];omega
     have e2':decide (loc<=32768)=false:=by simpa using e2
     rw [e2',Bool.and_false,Bool.false_and,Bool.false_and]
     go_enter Try.func38,Try.ntmps38
     go_wp2_with fail
     go_ret
     exact⟨rfl,hX⟩
 · have d5:decide (32768<base)=true:=by rw [decide_eq_true_eq];omega
   have e2':decide (base<=32768)=false:=by simpa using e1
   rw [e2',Bool.false_and,Bool.false_and,Bool.false_and]
   go_enter Try.func38,Try.ntmps38
   go_wp2_with fail
   go_ret
   exact⟨rfl,hX⟩
theorem fine_r (r:Reg)(w:World)(h:Drawn r):Calls Try.prog 38 #[encR r] w fun e w'=>e=.returned (.bool (fineM r))/\Ext w w':=by
 obtain⟨hk,hb,hl,hn,hw,hw6,hrd,ht⟩:=h
 have hC:=fun w=>cells_r r w hk hn
 have hL:=fun w=>locals_r r w hk hn
 have hz:=cells_nat r hn
 obtain⟨kind,base,loc,n,wr,rd,top⟩:=r
 simp only at hk hb hl hn hw hw6 hrd ht
 subst hrd
 unfold fineM
 rcases hk with rfl | rfl | rfl
 · exact fine1_r base loc n wr top _ _ w hb hl hn hw ht hz hC hL
 · exact fine6_r base loc n wr top _ _ w hb hl hn ⟨hw6 rfl,hw.2⟩ ht hz hC hL
 · exact fine7_r base loc n wr top _ _ w hb hl hn hw ht hz hC hL
@[go_sem] theorem build_reg (a b c d e f g:Int) (w:World):(Instr.build 56 #[(0,.int .i64 a),(1,.int .i64 b),(2,.int .i64 c),(3,.int .i64 d),(4,.int .i64 e),(5,.int .i64 f),(6,.int .i64 g)]).run Try.prog w=.ok (.agg #[.int .i64 a,.int .i64 b,.int .i64 c,.int .i64 d,.int .i64 e,.int .i64 f,.int .i64 g]) w:=run_build w 56 _ _ (by kernel_rfl)
def LayPost (B:Nat) (w:World) (o:Option (List Reg)) (e:Ending) (w':World):Prop :=
 Ext w w'/\match o with
  | some rs=>∃ v,e=.returned (.tuple #[v,.int .i64 0])/\w'.ownsRow B 56 7 v rs.length (rs.flatMap regVals)
  | none=>∃ x:Int,x≠0/\e=.returned (.tuple #[.slice none 0 0,.int .i64 x])
theorem layFrom_cons (n mode:Int)(q:Want)(l:List Want)(b c:Int):layFrom n mode (q :: l) b c=if fineM (regOf n mode b c q) then (layFrom n mode l (b+cellsM (regOf n mode b c q)) (c+localsM (regOf n mode b c q))).map (regOf n mode b c q :: ·) else none:=rfl
theorem argsM_false {l:List Want}{n mode b c:Int}(h:¬ (1<=mode/\mode<=2/\1<=n/\n<=8/\0<=b/\0<=c)):layM l n mode b c=none:=by
 unfold layM argsM
 rw [show decide (1<=mode/\mode<=2/\1<=n/\n<=8/\0<=b/\0<=c)=false from by simpa using h]
 rfl
theorem argsM_bad {l:List Want}{n mode b c:Int}{i:Nat}{q:Want}(hq:l[i]?=some q)(h:¬ (-1<=q.wr/\q.wr<n)):layM l n mode b c=none:=by
 unfold layM argsM
 have:(l.all fun q=>decide (-1<=q.wr/\q.wr<n))=false:=by
  rw [List.all_eq_false]
  exact⟨q,List.mem_of_getElem? hq,by simpa using h⟩
 rw [this,Bool.and_false]
 rfl
theorem argsM_good {l:List Want}{n mode b c:Int}(h:1<=mode/\mode<=2/\1<=n/\n<=8/\0<=b/\0<=c)(hq:∀ (k:Nat) q,l[k]?=some q->-1<=q.wr/\q.wr<n):layM l n mode b c=layFrom n mode l b c:=by
 unfold layM argsM
 rw [show decide (1<=mode/\mode<=2/\1<=n/\n<=8/\0<=b/\0<=c)=true from by simpa using h]
 have:(l.all fun q=>decide (-1<=q.wr/\q.wr<n))=true:=by
  rw [List.all_eq_true]
  intro q hm
  obtain⟨k,hk⟩:=List.getElem?_of_mem hm
  simpa using hq k q hk
 rw [this]
 rfl
set_option maxRecDepth 100000 in
set_option maxHeartbeats 2000000 in
theorem lay_r (va:Value)(l:List Want)(n mode base loc:Int)(w:World)(h:WantsAt w va l)(hlen:l.length<=1000) :
  Calls Try.prog 74 #[va,.int .i64 n,.int .i64 mode,.int .i64 base,.int .i64 loc] w (LayPost w.heap.size w (layM l n mode base loc)):=by
 obtain⟨A,c,rfl,q1,q2,hv⟩:=h
 by_cases h0:1<=mode/\mode<=2/\1<=n/\n<=8/\0<=base/\0<=loc
 · have hmd:mode=1∨mode=2:=by omega
   rcases hmd with rfl | rfl
   · have hgood:=Lib.hid (fun hq=>argsM_good (l:=l) h0 hq)
     have hbad:=Lib.hid (fun (i:Nat) q hq hx=>argsM_bad (l:=l) (n:=n) (mode:=1) (b:=base) (c:=loc) (i:=i) (q:=q) hq hx)
     obtain⟨-,-,n1,n2,b1,l1⟩:=h0
     go_enter Try.func74,Try.ntmps74
     have d3:decide (n<1)=false:=by rw [decide_eq_false_iff_not];omega
     have d4:decide (8<n)=false:=by rw [decide_eq_false_iff_not];omega
     have d5:decide (base<0)=false:=by rw [decide_eq_false_iff_not];omega
     have d6:decide (loc<0)=false:=by rw [decide_eq_false_iff_not];omega
     go_wp2_with fail
     go_loopw [12] (fun i wr=>∃ j:Nat,i=.int .i64 j/\j<=l.length/\Hid (∀ (k:Nat) q,k<j->l[k]?=some q->-1<=q.wr/\q.wr<n)/\w=wr) (fun i _=>l.length-(intOf i).toNat)
     case atStart=>exact⟨0,rfl,by omega,fun k q hk=>by omega,rfl⟩
     case round =>
      obtain⟨j,rfl,hj,hs,rfl⟩:=hrel
      by_cases hl:j<l.length
      · obtain⟨q,hq⟩:∃ q,l[j]?=some q:=⟨_,List.getElem?_eq_getElem hl⟩
        obtain⟨b,rfl,hb,e1,e2⟩:=want_at hv hq
        by_cases f1:q.wr < -1
        · have d7:decide (q.wr < -1)=true:=by simpa using f1
          have hf:=Lib.hid (hbad.out j q hq (by omega))
          clear hq hgood hbad hs
          go_wp2_with fail
          rw [hf.out]
          refine bodyPost_ret (v:=.tuple #[.slice none 0 0,.int .i64 1]) (by simp [results,Try.results74,go_sem]) rfl ?_
          exact⟨Ext.refl _,1,by decide,rfl⟩
        · have d7:decide (q.wr < -1)=false:=by rw [decide_eq_false_iff_not];omega
          by_cases f2:n<=q.wr
          · have d8:decide (n<=q.wr)=true:=by simpa using f2
            have hf:=Lib.hid (hbad.out j q hq (by omega))
            clear hq hgood hbad hs
            go_wp2_with fail
            rw [hf.out]
            refine bodyPost_ret (v:=.tuple #[.slice none 0 0,.int .i64 1]) (by simp [results,Try.results74,go_sem]) rfl ?_
            exact⟨Ext.refl _,1,by decide,rfl⟩
          · have d8:decide (n<=q.wr)=false:=by rw [decide_eq_false_iff_not];omega
            have hs2:Hid (∀ (k:Nat) q,k<j+1->l[k]?=some q->-1<=q.wr/\q.wr<n):=Lib.hid fun k q' hk hq'=>by
             by_cases e:k=j
             · subst e
               rw [hq] at hq'
               obtain rfl:q=q':=by simpa using hq'
               omega
             · exact hs.out k q' (by omega) hq'
            clear hq hs hgood hbad
            go_wp2_with fail
            refine⟨⟨j+1,by go_num,by omega,hs2,by trivial⟩,?_⟩
            simp [intOf];omega
      · have hlay:=Lib.hid (hgood.out fun k q hq=>hs.out k q (by have:=(List.getElem?_eq_some_iff.1 hq).1;omega) hq)
        have hwr:=Lib.hid (fun (k:Nat) (q:Want) (hq:l[k]?=some q)=>hs.out k q (by have:=(List.getElem?_eq_some_iff.1 hq).1;omega) hq)
        clear hgood hbad hs
        go_wp2_with fail
        go_loopw [3,4,13,14] (fun b' c' v i wr=>∃ (j:Nat) (bi ci:Int) (pre:List Reg),b'=.int .i64 bi/\c'=.int .i64 ci/\i=.int .i64 j/\j<=l.length/\pre.length=j/\0<=bi/\0<=ci/\Hid (layFrom n 1 l base loc=(layFrom n 1 (l.drop j) bi ci).map (pre++·))/\wr.ownsRow w.heap.size 56 7 v j (pre.flatMap regVals)/\Ext w wr) (fun _ _ _ i _=>l.length-(intOf i).toNat)
        case atStart=>exact⟨0,base,loc,[],rfl,rfl,rfl,by omega,rfl,b1,l1,by unfold Hid;simp,World.ownsRow_nil _ _ _ _,Ext.refl _⟩
        case round =>
         obtain⟨j,bi,ci,pre,rfl,rfl,rfl,hj,hpl,hbi,hci,hM,hown,hE⟩:=hrel
         by_cases hl:j<l.length
         · obtain⟨q,hq⟩:∃ q,l[j]?=some q:=⟨_,List.getElem?_eq_getElem hl⟩
           obtain⟨b,rfl,hb,e1,e2⟩:=want_at (hv.ext hE) hq
           obtain⟨w1,w2⟩:=hwr.out j q hq
           have hdr:l.drop j=q :: l.drop (j+1):=by
            rw [List.drop_eq_getElem_cons hl]
            congr 1
            rw [List.getElem?_eq_getElem hl] at hq
            simpa using hq
           have hMh:=Lib.hid hM
           have hownh:=Lib.hid hown
           have hdrh:=Lib.hid hdr
           clear hM hown hdr hq
           have hS:∀ w',Ext wr w'->w'.cell? ⟨b,j*2,none⟩=some (.int .i64 q.wr)/\w'.cell? ⟨b,j*2+1,none⟩=some (.int .i64 q.top):=fun w' hx=>⟨(hx.cell (p:=⟨b,j*2,none⟩) hb).trans e1,(hx.cell (p:=⟨b,j*2+1,none⟩) hb).trans e2⟩
           go_upto_region 12 with fail
           go_cut [15] (fun r wx=>r=.pointer (some ⟨wr.heap.size,0,none⟩)/\wx=(wr.alloc (.cells #[.int .i64 1,.int .i64 bi,.int .i64 ci,.int .i64 n,.int .i64 q.wr,.int .i64 (-1),.int .i64 (clamp q.top 255)] 56)).drew)
           case first =>
            go_region_held2 (fun w'=>w'.cell? ⟨b,j*2,none⟩=some (.int .i64 q.wr)/\w'.cell? ⟨b,j*2+1,none⟩=some (.int .i64 q.top)) (first | exact hS _ ((Ext.refl _).drew) | (refine hS _ ?_;repeat first | with_reducible exact Ext.refl _ | with_reducible refine Ext.drew ?_ | with_reducible refine Ext.setCell ?_ (Nat.le_refl _) _ | with_reducible refine Ext.alloc ?_ _))
             (first
               | (go_at_call 144
                  refine (clamp_r _ _ _).mono ?_
                  rintro e w' ⟨rfl,rfl⟩))
            all_goals
             go_wp2_with fail
             go_meet
             exact⟨rfl,rfl⟩
           case rest =>
            obtain⟨rfl,rfl⟩:=hcut
            have g1:=Blk.new wr (.cells #[.int .i64 1,.int .i64 bi,.int .i64 ci,.int .i64 n,.int .i64 q.wr,.int .i64 (-1),.int .i64 (clamp q.top 255)] 56)
            have x1:Ext wr (wr.alloc (.cells #[.int .i64 1,.int .i64 bi,.int .i64 ci,.int .i64 n,.int .i64 q.wr,.int .i64 (-1),.int .i64 (clamp q.top 255)] 56)).drew:=((Ext.refl wr).alloc _).drew
            replace g1:=g1.drew
            generalize World.drew _=W1 at *
            have c_1:=g1.cells
            have fz:=frozen_of_heap g1
            go_upto_if 82 with fail
            go_cut [15] (fun r wx=>r=.pointer (some ⟨wr.heap.size,0,none⟩)/\Blk wx wr.heap.size (.cells #[.int .i64 1,.int .i64 bi,.int .i64 ci,.int .i64 n,.int .i64 q.wr,.int .i64 (-1),.int .i64 (topM q.top)] 56)/\Ext wr wx)
            case first =>
             by_cases hz:clamp q.top 255=0
             · have hz2:(clamp q.top 255==0)=true:=by simpa using hz
               go_wp2_with fail
               go_meet
               refine⟨rfl,?_,x1.setCell (Nat.le_refl _) _⟩
               have:=heap_setCell (i:=6) g1 (.int .i64 1)
               rw [show topM q.top=1 from by unfold topM;rw [if_pos hz]]
               exact this
             · have hz2:(clamp q.top 255==0)=false:=by simpa using hz
               go_wp2_with fail
               go_meet
               refine⟨rfl,?_,x1⟩
               rw [show topM q.top=clamp q.top 255 from by unfold topM;rw [if_neg hz]]
               exact g1
            case rest =>
             obtain⟨rfl,g2,x2⟩:=hcut
             clear g1 x1 c_1 fz W1
             obtain⟨e3,e4⟩:=hS wc x2
             have c_2:=g2.cells
             have fz:=frozen_of_heap g2
             have hk:kindM 1 q.wr=1:=by unfold kindM;rw [if_neg (by omega)]
             have hrg:regOf n 1 bi ci q=⟨1,bi,ci,n,q.wr,-1,topM q.top⟩:=by unfold regOf;rw [hk]
             have htm:=topM_bd q.top
             have hdn:Drawn ⟨1,bi,ci,n,q.wr,-1,topM q.top⟩:=⟨by simp,hbi,hci,⟨n1,n2⟩,⟨w1,w2⟩,(fun h=>by cases h),rfl,htm⟩
             have hlf:=Lib.hid (show layFrom n 1 (l.drop j) bi ci=if fineM ⟨1,bi,ci,n,q.wr,-1,topM q.top⟩ then (layFrom n 1 (l.drop (j+1)) (bi+cellsM ⟨1,bi,ci,n,q.wr,-1,topM q.top⟩) (ci+localsM ⟨1,bi,ci,n,q.wr,-1,topM q.top⟩)).map (⟨1,bi,ci,n,q.wr,-1,topM q.top⟩ :: ·) else none from by rw [hdrh.out,layFrom_cons,hrg])
             have hFF:=fun W=>fine_r ⟨1,bi,ci,n,q.wr,-1,topM q.top⟩ W hdn
             have hCC:=fun W=>cells_r ⟨1,bi,ci,n,q.wr,-1,topM q.top⟩ W (by simp) ⟨n1,n2⟩
             have hLL:=fun W=>locals_r ⟨1,bi,ci,n,q.wr,-1,topM q.top⟩ W (by simp) ⟨n1,n2⟩
             have hcn:=cells_nat ⟨1,bi,ci,n,q.wr,-1,topM q.top⟩ ⟨n1,n2⟩
             have hfb:fineM ⟨1,bi,ci,n,q.wr,-1,topM q.top⟩=true->bi<=32768/\ci<=32768:=by
              unfold fineM
              simp only [Bool.and_eq_true,decide_eq_true_eq]
              omega
             clear hdn hk hrg htm hdrh
             unfold encR at hFF hCC hLL
             generalize topM q.top=tp at *
             generalize cellsM _=C at *
             generalize localsM _=D at *
             generalize hfm:fineM _=F at *
             clear hfm
             go_wp2_with fail
             have g3:=g2
             have x3:=x2
             generalize wc=W at *
             clear g2 x2 c_2 fz e3 e4
             refine (hFF _).mono ?_
             rintro e w3 ⟨rfl,hx⟩
             clear hFF
             replace g3:=g3.ext hx
             replace x3:=x3.trans hx
             clear hx
             have c_3:=g3.cells
             cases F with
             | false =>
               have hres:=Lib.hid (show layM l n 1 base loc=none from by rw [hlay.out,hMh.out,hlf.out];rfl)
               go_wp2_with fail
               rw [hres.out]
               exact bodyPost_ret (v:=.tuple #[.slice none 0 0,.int .i64 6]) (by simp [results,Try.results74,go_sem]) rfl ⟨hE.trans x3,6,by decide,rfl⟩
             | true =>
               obtain⟨hb1,hb2⟩:=hfb rfl
               have s1:=IntWalk.i64_in (bi+C) (by omega)
               have s2:=IntWalk.i64_in (ci+D) (by omega)
               have hown3:=row_ext hownh.out x3
               have hRn:Hid (u13.ownBlock≠some wr.heap.size):=Lib.hid fun e=>by have:=(hownh.out.lt _ e).2;omega
               have hE3:=hE.trans x3
               have hM2:=Lib.hid (show layFrom n 1 l base loc=(layFrom n 1 (l.drop (j+1)) (bi+C) (ci+D)).map ((pre++[⟨1,bi,ci,n,q.wr,-1,tp⟩])++·) from by
                rw [hMh.out,hlf.out]
                simp only [if_true,Option.map_map]
                congr 1
                funext x
                simp)
               clear hfb hlf hMh hownh hb1 hb2
               go_wp2_with (at_builtin;refine append_rec info_reg Try.underlying44 rfl (by decide) (by decide) rfl _ _ rfl _ j (pre.flatMap regVals) [.int .i64 1,.int .i64 bi,.int .i64 ci,.int .i64 n,.int .i64 q.wr,.int .i64 (-1),.int .i64 tp] hE3 hown3 rfl rfl rfl (by simp [Value.oneCell']) (by omega) ?_)
               intro v' w4 ho4 hx4 hbk
               have g4:Blk w4 wr.heap.size _:=(hbk _ g3.lt hRn.out).trans g3
               have c_4:=g4.cells
               clear hbk hown3 hE3 c_3 hRn g3 x3
               go_wp2_with fail
               refine (hCC _).mono ?_
               rintro e w5 ⟨rfl,hx⟩
               replace g4:=g4.ext hx
               replace ho4:=row_ext ho4 hx
               replace hx4:=hx4.trans hx
               clear c_4 hx hCC
               have c_4:=g4.cells
               go_wp2_with fail
               refine (hLL _).mono ?_
               rintro e w6 ⟨rfl,hx⟩
               replace ho4:=row_ext ho4 hx
               replace hx4:=hx4.trans hx
               clear c_4 g4 hx hLL
               have ho5:=Lib.hid ho4
               clear ho4
               go_wp2_with fail
               refine⟨⟨j+1,bi+C,ci+D,pre++[⟨1,bi,ci,n,q.wr,-1,tp⟩],rfl,rfl,by go_num,by omega,by simp [hpl],by omega,by omega,hM2,by rw [List.flatMap_append];exact ho5.out,hx4⟩,?_⟩
               simp [intOf];omega
         · have hf:layFrom n 1 l base loc=some pre:=by
            rw [hM.out,List.drop_eq_nil_of_le (by omega)]
            simp [layFrom]
           have hres:=Lib.hid (hlay.out.trans hf)
           clear hM hf hlay hwr
           have hownh:=Lib.hid hown
           clear hown
           go_wp2_with fail
           rw [hres.out]
           refine bodyPost_ret (v:=.tuple #[u13,.int .i64 0]) (by simp [results,Try.results74,go_sem]) rfl ?_
           exact⟨hE,u13,rfl,by rw [hpl];exact hownh.out⟩
   · have hgood:=Lib.hid (fun hq=>argsM_good (l:=l) h0 hq)
     have hbad:=Lib.hid (fun (i:Nat) q hq hx=>argsM_bad (l:=l) (n:=n) (mode:=2) (b:=base) (c:=loc) (i:=i) (q:=q) hq hx)
     obtain⟨-,-,n1,n2,b1,l1⟩:=h0
     go_enter Try.func74,Try.ntmps74
     have d3:decide (n<1)=false:=by rw [decide_eq_false_iff_not];omega
     have d4:decide (8<n)=false:=by rw [decide_eq_false_iff_not];omega
     have d5:decide (base<0)=false:=by rw [decide_eq_false_iff_not];omega
     have d6:decide (loc<0)=false:=by rw [decide_eq_false_iff_not];omega
     go_wp2_with fail
     go_loopw [12] (fun i wr=>∃ j:Nat,i=.int .i64 j/\j<=l.length/\Hid (∀ (k:Nat) q,k<j->l[k]?=some q->-1<=q.wr/\q.wr<n)/\w=wr) (fun i _=>l.length-(intOf i).toNat)
     case atStart=>exact⟨0,rfl,by omega,fun k q hk=>by omega,rfl⟩
     case round =>
      obtain⟨j,rfl,hj,hs,rfl⟩:=hrel
      by_cases hl:j<l.length
      · obtain⟨q,hq⟩:∃ q,l[j]?=some q:=⟨_,List.getElem?_eq_getElem hl⟩
        obtain⟨b,rfl,hb,e1,e2⟩:=want_at hv hq
        by_cases f1:q.wr < -1
        · have d7:decide (q.wr < -1)=true:=by simpa using f1
          have hf:=Lib.hid (hbad.out j q hq (by omega))
          clear hq hgood hbad hs
          go_wp2_with fail
          rw [hf.out]
          refine bodyPost_ret (v:=.tuple #[.slice none 0 0,.int .i64 1]) (by simp [results,Try.results74,go_sem]) rfl ?_
          exact⟨Ext.refl _,1,by decide,rfl⟩
        · have d7:decide (q.wr < -1)=false:=by rw [decide_eq_false_iff_not];omega
          by_cases f2:n<=q.wr
          · have d8:decide (n<=q.wr)=true:=by simpa using f2
            have hf:=Lib.hid (hbad.out j q hq (by omega))
            clear hq hgood hbad hs
            go_wp2_with fail
            rw [hf.out]
            refine bodyPost_ret (v:=.tuple #[.slice none 0 0,.int .i64 1]) (by simp [results,Try.results74,go_sem]) rfl ?_
            exact⟨Ext.refl _,1,by decide,rfl⟩
          · have d8:decide (n<=q.wr)=false:=by rw [decide_eq_false_iff_not];omega
            have hs2:Hid (∀ (k:Nat) q,k<j+1->l[k]?=some q->-1<=q.wr/\q.wr<n):=Lib.hid fun k q' hk hq'=>by
             by_cases e:k=j
             · subst e
               rw [hq] at hq'
               obtain rfl:q=q':=by simpa using hq'
               omega
             · exact hs.out k q' (by omega) hq'
            clear hq hs hgood hbad
            go_wp2_with fail
            refine⟨⟨j+1,by go_num,by omega,hs2,by trivial⟩,?_⟩
            simp [intOf];omega
      · have hlay:=Lib.hid (hgood.out fun k q hq=>hs.out k q (by have:=(List.getElem?_eq_some_iff.1 hq).1;omega) hq)
        have hwr:=Lib.hid (fun (k:Nat) (q:Want) (hq:l[k]?=some q)=>hs.out k q (by have:=(List.getElem?_eq_some_iff.1 hq).1;omega) hq)
        clear hgood hbad hs
        go_wp2_with fail
        go_loopw [3,4,13,14] (fun b' c' v i wr=>∃ (j:Nat) (bi ci:Int) (pre:List Reg),b'=.int .i64 bi/\c'=.int .i64 ci/\i=.int .i64 j/\j<=l.length/\pre.length=j/\0<=bi/\0<=ci/\Hid (layFrom n 2 l base loc=(layFrom n 2 (l.drop j) bi ci).map (pre++·))/\wr.ownsRow w.heap.size 56 7 v j (pre.flatMap regVals)/\Ext w wr) (fun _ _ _ i _=>l.length-(intOf i).toNat)
        case atStart=>exact⟨0,base,loc,[],rfl,rfl,rfl,by omega,rfl,b1,l1,by unfold Hid;simp,World.ownsRow_nil _ _ _ _,Ext.refl _⟩
        case round =>
         obtain⟨j,bi,ci,pre,rfl,rfl,rfl,hj,hpl,hbi,hci,hM,hown,hE⟩:=hrel
         by_cases hl:j<l.length
         · obtain⟨q,hq⟩:∃ q,l[j]?=some q:=⟨_,List.getElem?_eq_getElem hl⟩
           obtain⟨b,rfl,hb,e1,e2⟩:=want_at (hv.ext hE) hq
           obtain⟨w1,w2⟩:=hwr.out j q hq
           have hdr:l.drop j=q :: l.drop (j+1):=by
            rw [List.drop_eq_getElem_cons hl]
            congr 1
            rw [List.getElem?_eq_getElem hl] at hq
            simpa using hq
           have hMh:=Lib.hid hM
           have hownh:=Lib.hid hown
           have hdrh:=Lib.hid hdr
           clear hM hown hdr hq
           have hS:∀ w',Ext wr w'->w'.cell? ⟨b,j*2,none⟩=some (.int .i64 q.wr)/\w'.cell? ⟨b,j*2+1,none⟩=some (.int .i64 q.top):=fun w' hx=>⟨(hx.cell (p:=⟨b,j*2,none⟩) hb).trans e1,(hx.cell (p:=⟨b,j*2+1,none⟩) hb).trans e2⟩
           go_upto_region 12 with fail
           go_cut [15] (fun r wx=>r=.pointer (some ⟨wr.heap.size,0,none⟩)/\wx=(wr.alloc (.cells #[.int .i64 1,.int .i64 bi,.int .i64 ci,.int .i64 n,.int .i64 q.wr,.int .i64 (-1),.int .i64 (clamp q.top 255)] 56)).drew)
           case first =>
            go_region_held2 (fun w'=>w'.cell? ⟨b,j*2,none⟩=some (.int .i64 q.wr)/\w'.cell? ⟨b,j*2+1,none⟩=some (.int .i64 q.top)) (first | exact hS _ ((Ext.refl _).drew) | (refine hS _ ?_;repeat first | with_reducible exact Ext.refl _ | with_reducible refine Ext.drew ?_ | with_reducible refine Ext.setCell ?_ (Nat.le_refl _) _ | with_reducible refine Ext.alloc ?_ _))
             (first
               | (go_at_call 144
                  refine (clamp_r _ _ _).mono ?_
                  rintro e w' ⟨rfl,rfl⟩))
            all_goals
             go_wp2_with fail
             go_meet
             exact⟨rfl,rfl⟩
           case rest =>
            obtain⟨rfl,rfl⟩:=hcut
            have g1:=Blk.new wr (.cells #[.int .i64 1,.int .i64 bi,.int .i64 ci,.int .i64 n,.int .i64 q.wr,.int .i64 (-1),.int .i64 (clamp q.top 255)] 56)
            have x1:Ext wr (wr.alloc (.cells #[.int .i64 1,.int .i64 bi,.int .i64 ci,.int .i64 n,.int .i64 q.wr,.int .i64 (-1),.int .i64 (clamp q.top 255)] 56)).drew:=((Ext.refl wr).alloc _).drew
            replace g1:=g1.drew
            generalize World.drew _=W1 at *
            have c_1:=g1.cells
            have fz:=frozen_of_heap g1
            go_upto_if 82 with fail
            go_cut [15] (fun r wx=>r=.pointer (some ⟨wr.heap.size,0,none⟩)/\Blk wx wr.heap.size (.cells #[.int .i64 1,.int .i64 bi,.int .i64 ci,.int .i64 n,.int .i64 q.wr,.int .i64 (-1),.int .i64 (topM q.top)] 56)/\Ext wr wx)
            case first =>
             by_cases hz:clamp q.top 255=0
             · have hz2:(clamp q.top 255==0)=true:=by simpa using hz
               go_wp2_with fail
               go_meet
               refine⟨rfl,?_,x1.setCell (Nat.le_refl _) _⟩
               have:=heap_setCell (i:=6) g1 (.int .i64 1)
               rw [show topM q.top=1 from by unfold topM;rw [if_pos hz]]
               exact this
             · have hz2:(clamp q.top 255==0)=false:=by simpa using hz
               go_wp2_with fail
               go_meet
               refine⟨rfl,?_,x1⟩
               rw [show topM q.top=clamp q.top 255 from by unfold topM;rw [if_neg hz]]
               exact g1
            case rest =>
             obtain⟨rfl,g2,x2⟩:=hcut
             clear g1 x1 c_1 fz W1
             obtain⟨e3,e4⟩:=hS wc x2
             have c_2:=g2.cells
             have fz:=frozen_of_heap g2
             by_cases hw0:0<=q.wr
             · have dw:decide (0<=q.wr)=true:=by simpa using hw0
               have dv:decide (q.wr<0)=false:=by rw [decide_eq_false_iff_not];omega
               have hk:kindM 2 q.wr=6:=by unfold kindM;rw [if_pos rfl,if_pos hw0]
               have hrg:regOf n 2 bi ci q=⟨6,bi,ci,n,q.wr,-1,topM q.top⟩:=by unfold regOf;rw [hk]
               have htm:=topM_bd q.top
               have hdn:Drawn ⟨6,bi,ci,n,q.wr,-1,topM q.top⟩:=⟨by simp,hbi,hci,⟨n1,n2⟩,⟨w1,w2⟩,fun _=>hw0,rfl,htm⟩
               have hlf:=Lib.hid (show layFrom n 2 (l.drop j) bi ci=if fineM ⟨6,bi,ci,n,q.wr,-1,topM q.top⟩ then (layFrom n 2 (l.drop (j+1)) (bi+cellsM ⟨6,bi,ci,n,q.wr,-1,topM q.top⟩) (ci+localsM ⟨6,bi,ci,n,q.wr,-1,topM q.top⟩)).map (⟨6,bi,ci,n,q.wr,-1,topM q.top⟩ :: ·) else none from by rw [hdrh.out,layFrom_cons,hrg])
               have hFF:=fun W=>fine_r ⟨6,bi,ci,n,q.wr,-1,topM q.top⟩ W hdn
               have hCC:=fun W=>cells_r ⟨6,bi,ci,n,q.wr,-1,topM q.top⟩ W (by simp) ⟨n1,n2⟩
               have hLL:=fun W=>locals_r ⟨6,bi,ci,n,q.wr,-1,topM q.top⟩ W (by simp) ⟨n1,n2⟩
               have hcn:=cells_nat ⟨6,bi,ci,n,q.wr,-1,topM q.top⟩ ⟨n1,n2⟩
               have hfb:fineM ⟨6,bi,ci,n,q.wr,-1,topM q.top⟩=true->bi<=32768/\ci<=32768:=by
                unfold fineM
                simp only [Bool.and_eq_true,decide_eq_true_eq]
                omega
               clear hdn hk hrg htm hdrh
               unfold encR at hFF hCC hLL
               generalize topM q.top=tp at *
               generalize cellsM _=C at *
               generalize localsM _=D at *
               generalize hfm:fineM _=F at *
               clear hfm
               go_wp2_with fail
               have g3:=heap_setCell (i:=0) g2 (.int .i64 6)
               have x3:=x2.setCell (p:=⟨wr.heap.size,0,none⟩) (Nat.le_refl _) (.int .i64 6)
               replace g3:Blk (wc.setCell ⟨wr.heap.size,0,none⟩ (.int .i64 6)) wr.heap.size (.cells #[.int .i64 6,.int .i64 bi,.int .i64 ci,.int .i64 n,.int .i64 q.wr,.int .i64 (-1),.int .i64 tp] 56):=g3
               generalize wc.setCell _ _=W at *
               clear g2 x2 c_2 fz e3 e4
               refine (hFF _).mono ?_
               rintro e w3 ⟨rfl,hx⟩
               clear hFF
               replace g3:=g3.ext hx
               replace x3:=x3.trans hx
               clear hx
               have c_3:=g3.cells
               cases F with
               | false =>
                 have hres:=Lib.hid (show layM l n 2 base loc=none from by rw [hlay.out,hMh.out,hlf.out];rfl)
                 go_wp2_with fail
                 rw [hres.out]
                 exact bodyPost_ret (v:=.tuple #[.slice none 0 0,.int .i64 6]) (by simp [results,Try.results74,go_sem]) rfl ⟨hE.trans x3,6,by decide,rfl⟩
               | true =>
                 obtain⟨hb1,hb2⟩:=hfb rfl
                 have s1:=IntWalk.i64_in (bi+C) (by omega)
                 have s2:=IntWalk.i64_in (ci+D) (by omega)
                 have hown3:=row_ext hownh.out x3
                 have hRn:Hid (u13.ownBlock≠some wr.heap.size):=Lib.hid fun e=>by have:=(hownh.out.lt _ e).2;omega
                 have hE3:=hE.trans x3
                 have hM2:=Lib.hid (show layFrom n 2 l base loc=(layFrom n 2 (l.drop (j+1)) (bi+C) (ci+D)).map ((pre++[⟨6,bi,ci,n,q.wr,-1,tp⟩])++·) from by
                  rw [hMh.out,hlf.out]
                  simp only [if_true,Option.map_map]
                  congr 1
                  funext x
                  simp)
                 clear hfb hlf hMh hownh hb1 hb2
                 go_wp2_with (at_builtin;refine append_rec info_reg Try.underlying44 rfl (by decide) (by decide) rfl _ _ rfl _ j (pre.flatMap regVals) [.int .i64 6,.int .i64 bi,.int .i64 ci,.int .i64 n,.int .i64 q.wr,.int .i64 (-1),.int .i64 tp] hE3 hown3 rfl rfl rfl (by simp [Value.oneCell']) (by omega) ?_)
                 intro v' w4 ho4 hx4 hbk
                 have g4:Blk w4 wr.heap.size _:=(hbk _ g3.lt hRn.out).trans g3
                 have c_4:=g4.cells
                 clear hbk hown3 hE3 c_3 hRn g3 x3
                 go_wp2_with fail
                 refine (hCC _).mono ?_
                 rintro e w5 ⟨rfl,hx⟩
                 replace g4:=g4.ext hx
                 replace ho4:=row_ext ho4 hx
                 replace hx4:=hx4.trans hx
                 clear c_4 hx hCC
                 have c_4:=g4.cells
                 go_wp2_with fail
                 refine (hLL _).mono ?_
                 rintro e w6 ⟨rfl,hx⟩
                 replace ho4:=row_ext ho4 hx
                 replace hx4:=hx4.trans hx
                 clear c_4 g4 hx hLL
                 have ho5:=Lib.hid ho4
                 clear ho4
                 go_wp2_with fail
                 refine⟨⟨j+1,bi+C,ci+D,pre++[⟨6,bi,ci,n,q.wr,-1,tp⟩],rfl,rfl,by go_num,by omega,by simp [hpl],by omega,by omega,hM2,by rw [List.flatMap_append];exact ho5.out,hx4⟩,?_⟩
                 simp [intOf];omega
             · have dw:decide (0<=q.wr)=false:=by simpa using hw0
               have dv:decide (q.wr<0)=true:=by rw [decide_eq_true_eq];omega
               have hk:kindM 2 q.wr=7:=by unfold kindM;rw [if_pos rfl,if_neg hw0]
               have hrg:regOf n 2 bi ci q=⟨7,bi,ci,n,q.wr,-1,topM q.top⟩:=by unfold regOf;rw [hk]
               have htm:=topM_bd q.top
               have hdn:Drawn ⟨7,bi,ci,n,q.wr,-1,topM q.top⟩:=⟨by simp,hbi,hci,⟨n1,n2⟩,⟨w1,w2⟩,(fun h=>by cases h),rfl,htm⟩
               have hlf:=Lib.hid (show layFrom n 2 (l.drop j) bi ci=if fineM ⟨7,bi,ci,n,q.wr,-1,topM q.top⟩ then (layFrom n 2 (l.drop (j+1)) (bi+cellsM ⟨7,bi,ci,n,q.wr,-1,topM q.top⟩) (ci+localsM ⟨7,bi,ci,n,q.wr,-1,topM q.top⟩)).map (⟨7,bi,ci,n,q.wr,-1,topM q.top⟩ :: ·) else none from by rw [hdrh.out,layFrom_cons,hrg])
               have hFF:=fun W=>fine_r ⟨7,bi,ci,n,q.wr,-1,topM q.top⟩ W hdn
               have hCC:=fun W=>cells_r ⟨7,bi,ci,n,q.wr,-1,topM q.top⟩ W (by simp) ⟨n1,n2⟩
               have hLL:=fun W=>locals_r ⟨7,bi,ci,n,q.wr,-1,topM q.top⟩ W (by simp) ⟨n1,n2⟩
               have hcn:=cells_nat ⟨7,bi,ci,n,q.wr,-1,topM q.top⟩ ⟨n1,n2⟩
               have hfb:fineM ⟨7,bi,ci,n,q.wr,-1,topM q.top⟩=true->bi<=32768/\ci<=32768:=by
                unfold fineM
                simp only [Bool.and_eq_true,decide_eq_true_eq]
                omega
               clear hdn hk hrg htm hdrh
               unfold encR at hFF hCC hLL
               generalize topM q.top=tp at *
               generalize cellsM _=C at *
               generalize localsM _=D at *
               generalize hfm:fineM _=F at *
               clear hfm
               go_wp2_with fail
               have g3:=heap_setCell (i:=0) g2 (.int .i64 7)
               have x3:=x2.setCell (p:=⟨wr.heap.size,0,none⟩) (Nat.le_refl _) (.int .i64 7)
               replace g3:Blk (wc.setCell ⟨wr.heap.size,0,none⟩ (.int .i64 7)) wr.heap.size (.cells #[.int .i64 7,.int .i64 bi,.int .i64 ci,.int .i64 n,.int .i64 q.wr,.int .i64 (-1),.int .i64 tp] 56):=g3
               generalize wc.setCell _ _=W at *
               clear g2 x2 c_2 fz e3 e4
               refine (hFF _).mono ?_
               rintro e w3 ⟨rfl,hx⟩
               clear hFF
               replace g3:=g3.ext hx
               replace x3:=x3.trans hx
               clear hx
               have c_3:=g3.cells
               cases F with
               | false =>
                 have hres:=Lib.hid (show layM l n 2 base loc=none from by rw [hlay.out,hMh.out,hlf.out];rfl)
                 go_wp2_with fail
                 rw [hres.out]
                 exact bodyPost_ret (v:=.tuple #[.slice none 0 0,.int .i64 6]) (by simp [results,Try.results74,go_sem]) rfl ⟨hE.trans x3,6,by decide,rfl⟩
               | true =>
                 obtain⟨hb1,hb2⟩:=hfb rfl
                 have s1:=IntWalk.i64_in (bi+C) (by omega)
                 have s2:=IntWalk.i64_in (ci+D) (by omega)
                 have hown3:=row_ext hownh.out x3
                 have hRn:Hid (u13.ownBlock≠some wr.heap.size):=Lib.hid fun e=>by have:=(hownh.out.lt _ e).2;omega
                 have hE3:=hE.trans x3
                 have hM2:=Lib.hid (show layFrom n 2 l base loc=(layFrom n 2 (l.drop (j+1)) (bi+C) (ci+D)).map ((pre++[⟨7,bi,ci,n,q.wr,-1,tp⟩])++·) from by
                  rw [hMh.out,hlf.out]
                  simp only [if_true,Option.map_map]
                  congr 1
                  funext x
                  simp)
                 clear hfb hlf hMh hownh hb1 hb2
                 go_wp2_with (at_builtin;refine append_rec info_reg Try.underlying44 rfl (by decide) (by decide) rfl _ _ rfl _ j (pre.flatMap regVals) [.int .i64 7,.int .i64 bi,.int .i64 ci,.int .i64 n,.int .i64 q.wr,.int .i64 (-1),.int .i64 tp] hE3 hown3 rfl rfl rfl (by simp [Value.oneCell']) (by omega) ?_)
                 intro v' w4 ho4 hx4 hbk
                 have g4:Blk w4 wr.heap.size _:=(hbk _ g3.lt hRn.out).trans g3
                 have c_4:=g4.cells
                 clear hbk hown3 hE3 c_3 hRn g3 x3
                 go_wp2_with fail
                 refine (hCC _).mono ?_
                 rintro e w5 ⟨rfl,hx⟩
                 replace g4:=g4.ext hx
                 replace ho4:=row_ext ho4 hx
                 replace hx4:=hx4.trans hx
                 clear c_4 hx hCC
                 have c_4:=g4.cells
                 go_wp2_with fail
                 refine (hLL _).mono ?_
                 rintro e w6 ⟨rfl,hx⟩
                 replace ho4:=row_ext ho4 hx
                 replace hx4:=hx4.trans hx
                 clear c_4 g4 hx hLL
                 have ho5:=Lib.hid ho4
                 clear ho4
                 go_wp2_with fail
                 refine⟨⟨j+1,bi+C,ci+D,pre++[⟨7,bi,ci,n,q.wr,-1,tp⟩],rfl,rfl,by go_num,by omega,by simp [hpl],by omega,by omega,hM2,by rw [List.flatMap_append];exact ho5.out,hx4⟩,?_⟩
                 simp [intOf];omega
         · have hf:layFrom n 2 l base loc=some pre:=by
            rw [hM.out,List.drop_eq_nil_of_le (by omega)]
            simp [layFrom]
           have hres:=Lib.hid (hlay.out.trans hf)
           clear hM hf hlay hwr
           have hownh:=Lib.hid hown
           clear hown
           go_wp2_with fail
           rw [hres.out]
           refine bodyPost_ret (v:=.tuple #[u13,.int .i64 0]) (by simp [results,Try.results74,go_sem]) rfl ?_
           exact⟨hE,u13,rfl,by rw [hpl];exact hownh.out⟩
 · rw [argsM_false h0]
   go_enter Try.func74,Try.ntmps74
   have hfin:LayPost w.heap.size w none (.returned (.tuple #[.slice none 0 0,.int .i64 1])) w:=⟨Ext.refl _,1,by decide,rfl⟩
   by_cases m1:mode<1
   · have d1:decide (mode<1)=true:=by simpa using m1
     go_wp2_with fail
     exact bodyPost_ret (v:=.tuple #[.slice none 0 0,.int .i64 1]) (by simp [results,Try.results74,go_sem]) rfl hfin
   · have d1:decide (mode<1)=false:=by simpa using m1
     by_cases m2:2<mode
     · have d2:decide (2<mode)=true:=by simpa using m2
       go_wp2_with fail
       exact bodyPost_ret (v:=.tuple #[.slice none 0 0,.int .i64 1]) (by simp [results,Try.results74,go_sem]) rfl hfin
     · have d2:decide (2<mode)=false:=by simpa using m2
       by_cases m3:n<1
       · have d3:decide (n<1)=true:=by simpa using m3
         go_wp2_with fail
         exact bodyPost_ret (v:=.tuple #[.slice none 0 0,.int .i64 1]) (by simp [results,Try.results74,go_sem]) rfl hfin
       · have d3:decide (n<1)=false:=by simpa using m3
         by_cases m4:8<n
         · have d4:decide (8<n)=true:=by simpa using m4
           go_wp2_with fail
           exact bodyPost_ret (v:=.tuple #[.slice none 0 0,.int .i64 1]) (by simp [results,Try.results74,go_sem]) rfl hfin
         · have d4:decide (8<n)=false:=by simpa using m4
           by_cases m5:base<0
           · have d5:decide (base<0)=true:=by simpa using m5
             go_wp2_with fail
             exact bodyPost_ret (v:=.tuple #[.slice none 0 0,.int .i64 1]) (by simp [results,Try.results74,go_sem]) rfl hfin
           · have d5:decide (base<0)=false:=by simpa using m5
             have d6:decide (loc<0)=true:=by rw [decide_eq_true_eq];omega
             go_wp2_with fail
             exact bodyPost_ret (v:=.tuple #[.slice none 0 0,.int .i64 1]) (by simp [results,Try.results74,go_sem]) rfl hfin
end Go.Proofs.Ytbphlkaihfbgeaa
namespace Kv
end Kv
namespace Go.Proofs.Ytbphlkaihfbgeaa
open Go.RowKit Kv
@[go_sem] theorem build_want (a b:Int) (w:World):(Instr.build 91 #[(0,.int .i64 a),(1,.int .i64 b)]).run Try.prog w=.ok (.agg #[.int .i64 a,.int .i64 b]) w:=run_build w 91 _ _ (by kernel_rfl)
@[go_sem] theorem build_regn (a:Int) (w:World):(Instr.build 56 #[(3,.int .i64 a)]).run Try.prog w=.ok (.agg #[.int .i64 0,.int .i64 0,.int .i64 0,.int .i64 a,.int .i64 0,.int .i64 0,.int .i64 0]) w:=run_build w 56 _ _ (by kernel_rfl)
theorem some_r (va:Value)(l:List Want)(n mode:Int)(w:World)(h:WantsAt w va l)(hlen:l.length<=1000) :
  Calls Try.prog 21 #[va,.int .i64 n,.int .i64 mode] w fun e w'=>∃ v,e=.returned v/\Ext w w'/\w'.ownsRow w.heap.size 56 7 v ((layM l n mode 3 2).getD []).length (((layM l n mode 3 2).getD []).flatMap regVals):=by
 have hL:=lay_r va l n mode 3 2 w h hlen
 unfold LayPost at hL
 obtain⟨A,c,rfl,q1,q2,hv⟩:=h
 cases hc:layM l n mode 3 2 with
 | none =>
   rw [hc] at hL
   go_enter Try.func21,Try.ntmps21
   go_wp2_with fail
   refine hL.mono ?_
   rintro e w' ⟨hx,x,hx0,rfl⟩
   have hb:(x != 0)=true:=by rw [bne_iff_ne];exact hx0
   clear hx0 hL hc
   go_wp2_with fail
   go_ret
   exact⟨_,rfl,hx,World.ownsRow_nil _ _ _ _⟩
 | some rs =>
   rw [hc] at hL
   go_enter Try.func21,Try.ntmps21
   go_wp2_with fail
   refine hL.mono ?_
   rintro e w' ⟨hx,v,rfl,ho⟩
   have hoh:=Lib.hid ho
   clear ho hL hc
   go_wp2_with fail
   go_ret
   exact⟨_,rfl,hx,hoh.out⟩
structure Near (W:World) (b n:Nat) (t:TypeId) (w:World):Prop where
 os:w.os=W.os
 tape:w.tape=W.tape
 output:w.output=W.output
 size:W.heap.size<=w.heap.size
 rest:∀ k,k<W.heap.size->k≠b->w.heap[k]?=W.heap[k]?
 blk:∃ cs,w.heap[b]?=some (.cells cs t (0,0))/\cs.size=n
section
variable {W w w':World} {b n:Nat} {t:TypeId}
theorem Near.new {cs:Array Value}(h:W.heap[b]?=some (.cells cs t (0,0)))(hn:cs.size=n):Near W b n t W:=⟨rfl,rfl,rfl,Nat.le_refl _,fun _ _ _=>rfl,cs,h,hn⟩
theorem Near.ext (h:Near W b n t w)(hx:Ext w w'):Near W b n t w':=by
 obtain⟨cs,h1,h2⟩:=h.blk
 exact⟨hx.os.trans h.os,hx.tape.trans h.tape,hx.output.trans h.output,Nat.le_trans h.size hx.size,fun k hk hb=>(Below.block hx k (Nat.lt_of_lt_of_le hk h.size)).trans (h.rest k hk hb),cs,(Below.block hx b (Array.getElem?_eq_some_iff.1 h1).1).trans h1,h2⟩
theorem Near.drew (h:Near W b n t w):Near W b n t w.drew:=h.ext (Ext.refl w).drew
theorem Near.set (h:Near W b n t w)(i:Nat)(u:Value):Near W b n t (w.setCell ⟨b,i,none⟩ u):=by
 obtain⟨cs,h1,h2⟩:=h.blk
 refine⟨h.os,h.tape,h.output,by have:=h.size;simpa using this,fun k hk hb=>(heap_setCell_ne _ _ hb).trans (h.rest k hk hb),_,heap_setCell h1 u,by simpa using h2⟩
theorem Near.cell (h:Near W b n t w){k i:Nat}(hk:k<W.heap.size)(hb:k≠b):w.cell? ⟨k,i,none⟩=W.cell? ⟨k,i,none⟩:=World.cell?_of_block (w:=W) (a:=⟨k,i,none⟩) (h.rest k hk hb)
theorem Near.frozen (h:Near W b n t w)(i:Nat):w.frozen? ⟨b,i,none⟩=false:=by
 obtain⟨cs,h1,h2⟩:=h.blk
 exact frozen_of_heap h1 i
theorem Near.below {B:Nat}{w0:World}(h:Near W b n t w)(h0:Below B w0 W)(hb:B<=b)(hB:B<=W.heap.size):Below B w0 w :=
 h0.trans ⟨h.os,h.tape,h.output,h.size,fun k hk=>h.rest k (by omega) (by omega)⟩
def cellD (w:World) (b i:Nat):Value:=(w.cell? ⟨b,i,none⟩).getD undef
theorem Near.four (h:Near W b 4 t w):∀ i,w.cell? ⟨b,i,none⟩=(#[cellD w b 0,cellD w b 1,cellD w b 2,cellD w b 3]:Array Value)[i]?:=by
 obtain⟨cs,h1,h2⟩:=h.blk
 intro i
 have e:=cell_of_heap h1
 unfold cellD
 rw [e,e,e,e,e]
 match i with
 | 0=>simp [h2]
 | 1=>simp [h2]
 | 2=>simp [h2]
 | 3=>simp [h2]
 | i+4=>simp [h2]
theorem Near.five (h:Near W b 5 t w):∀ i,w.cell? ⟨b,i,none⟩=(#[cellD w b 0,cellD w b 1,cellD w b 2,cellD w b 3,cellD w b 4]:Array Value)[i]?:=by
 obtain⟨cs,h1,h2⟩:=h.blk
 intro i
 have e:=cell_of_heap h1
 unfold cellD
 rw [e,e,e,e,e,e]
 match i with
 | 0=>simp [h2]
 | 1=>simp [h2]
 | 2=>simp [h2]
 | 3=>simp [h2]
 | 4=>simp [h2]
 | i+5=>simp [h2]
end
end Go.Proofs.Ytbphlkaihfbgeaa
