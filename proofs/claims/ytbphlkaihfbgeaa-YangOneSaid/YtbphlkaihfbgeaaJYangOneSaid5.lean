/-
  YangOneSaid: part 5 of its proof.
-/
import Derived.Test.YtbphlkaihfbgeaaJYangOneSaid4
import Derived.Laws.CopyOwn
import Derived.Laws.CopyRow
import Derived.Laws.MakeOwn
import Derived.Deep.RegionLaw
import Derived.Deep.DeepCutAuto
namespace Kv
def rep {α:Type} (k:Nat) (l:List α):List α:=(List.replicate k l).flatten
theorem rep_len {α:Type}(k:Nat)(l:List α):(rep k l).length=k*l.length:=by
 unfold rep
 induction k with
 | zero=>simp
 | succ k ih=>rw [List.replicate_succ,List.flatten_cons,List.length_append,ih,Nat.succ_mul,Nat.add_comm]
theorem rep_add {α:Type}(a b:Nat)(l:List α):rep (a+b) l=rep a l++rep b l:=by
 unfold rep
 rw [<- List.replicate_append_replicate,List.flatten_append]
theorem rep_flatMap {α β:Type}(f:α->List β)(k:Nat)(l:List α):(rep k l).flatMap f=rep k (l.flatMap f):=by
 unfold rep
 induction k with
 | zero=>rfl
 | succ k ih=>rw [List.replicate_succ,List.flatten_cons,List.flatMap_append,ih,List.replicate_succ,List.flatten_cons]
theorem rep_take {α:Type}(l:List α){k j m:Nat}(hj:j<=k)(hm:j*l.length+m<=k*l.length):(rep k l).take (j*l.length)++(rep k l).take m=(rep k l).take (j*l.length+m):=by
 obtain⟨i,rfl⟩:∃ i,k=j+i:=⟨k-j,by omega⟩
 rw [Nat.add_mul] at hm
 have h1:(rep (j+i) l).take (j*l.length)=rep j l:=by rw [rep_add,<- rep_len,List.take_left'];rfl
 have h2:(rep (j+i) l).take m=(rep i l).take m:=by
  rw [Nat.add_comm,rep_add,List.take_append_of_le_length (by rw [rep_len];omega)]
 have h3:(rep (j+i) l).take (j*l.length+m)=rep j l++(rep i l).take m:=by
  rw [rep_add,<- rep_len,List.take_length_add_append]
 rw [h1,h2,h3]
end Kv
namespace Go.Proofs.Ytbphlkaihfbgeaa
open Go.RowKit Kv
theorem run_copy2 {P:Program}(w:World)(dT sT ty elem:TypeId)(g o dLen dCap:Nat)(a:Addr)(sLen sCap:Nat)(cur:Array Value)(t:TypeId)(cs:List Value)
  (hu:P.underlying dT=some (.slice elem))(hs:(P.info? elem).map (·.size)=some 2)
  (hg:w.heap[g]?=some (.cells cur t (0,0)))(hn:cs.length=Nat.min sLen dLen*2)
  (hsrc:∀ j v,cs[j]?=some v->w.cell? (a.add j)=some v)(hfit:o+cs.length<=cur.size)(h1:∀ v∈cs,v.oneCell'=true) :
  (Builtin.copy_ #[dT,sT] ty #[.slice (some ⟨g,o,none⟩) dLen dCap,.slice (some a) sLen sCap]).run P w =
    .ok (goInt (Nat.min sLen dLen)) (w.setRow g (cur.toList.take o++cs++cur.toList.drop (o+cs.length)).toArray):=by
 have hl:=run_loadCells_list (P:=P) w a cs hsrc
 have hst:=run_storeCells_at P g o t cs 0 cur w hg (by simpa using hfit) h1
 cases hq:P.info? elem with
 | none=>simp [hq] at hs
 | some i =>
   have hi:i.size=2:=by simpa [hq] using hs
   simp [Builtin.copy_,run_underlying hu,Builtin.lenOf,Builtin.firstCells,sizeOf,typeInfo,hq,hi,<- hn,hl,hst]
theorem splice_take {α:Type}{cur cs:List α}{a:Nat}(h:a+cs.length<=cur.length):(splice cur a cs).take (a+cs.length)=cur.take a++cs:=by
 unfold splice
 rw [<- List.append_assoc]
 have e:(cur.take a++cs).length=a+cs.length:=by simp;omega
 rw [<- e,List.take_left']
 rfl
theorem want_size:(Try.prog.info? 91).map (·.size)=some 2:=by kernel_rfl
theorem make_wants (k:Nat)(hk:k<=1000)(w:World) :
  ∃ cur:List Value,cur.length=2*k/\(Instr.makeSlice 46 (.int .i64 k) (.int .i64 k)).run Try.prog w=.ok (.slice (some ⟨w.heap.size,0,none⟩) k k) (w.alloc (.cells cur.toArray 91)):=by
 obtain⟨i0,hi,hz0,hz1,hz2⟩:=info_parts info_want
 have hr:=run_makeSlice (P:=Try.prog) w 46 91 i0 (.agg #[.int .i64 0,.int .i64 0]) Try.underlying46 hi hz0 .i64 .i64 k k (by omega) (by omega) (by rw [hz1];simp;omega) (by rw [hz2];omega) (by omega)
 rw [Int.toNat_natCast,hz1] at hr
 refine⟨(madeCells (Value.cells (.agg #[.int .i64 0,.int .i64 0])) (k*2)).toList,?_,?_⟩
 · rw [Array.length_toList,size_madeCells,Nat.mul_comm]
 · rw [Array.toArray_toList];exact hr
theorem wants_one {l:List Want}:∀ v∈l.flatMap wantVals,v.oneCell'=true:=by
 intro v hv
 obtain⟨q,_,hq⟩:=List.mem_flatMap.1 hv
 simp [wantVals] at hq
 rcases hq with rfl | rfl <;> rfl
set_option maxRecDepth 100000 in
set_option maxHeartbeats 800000 in
theorem repeat_p (v:Value)(l:List Want)(k:Nat)(w:World)(hv:WantsAt w v l)(h1:1<=l.length)(h2:l.length<=20)(hk:k<=10) :
  Calls Try.prog 125 #[v,.int .i64 k] w fun e w'=>∃ v',e=.returned v'/\WantsAt w' v' (rep k l)/\Ext w w':=by
 obtain⟨A,c,rfl,hc1,hc2,hV⟩:=hv
 have hVl:(l.flatMap wantVals).length=2*l.length:=by
  rw [List.length_flatMap]
  have:l.map (fun a=>(wantVals a).length)=l.map fun _=>2:=List.map_congr_left fun _ _=>rfl
  rw [this,List.map_const',List.sum_replicate_nat,Nat.mul_comm]
 obtain⟨b,rfl,hb,hcell⟩:=hV (by intro e;rw [e] at hVl;simp at hVl;omega)
 obtain⟨K,hK⟩:∃ K,l.length=K:=⟨_,rfl⟩
 obtain⟨W2,hW2⟩:∃ W2,l.flatMap wantVals=W2:=⟨_,rfl⟩
 have hone:∀ x∈rep k W2,x.oneCell'=true:=by
  rw [<- hW2,<- rep_flatMap]
  exact wants_one
 have hfin:(rep k l).flatMap wantVals=rep k W2/\(rep k l).length=k*K:=by rw [rep_flatMap,hW2,rep_len,hK];exact⟨rfl,rfl⟩
 rw [hW2] at hVl hcell
 rw [hK] at hVl h1 h2 hc1 ⊢
 have htk:K*k<=200:=Nat.le_trans (Nat.mul_le_mul h2 hk) (by decide)
 obtain⟨T,hT⟩:∃ T,K*k=T:=⟨_,rfl⟩
 rw [hT] at htk
 have hFl:(rep k W2).length=2*T:=by rw [rep_len,hVl,<- hT,Nat.mul_comm k,Nat.mul_assoc]
 have hm1:K*k / 18446744073709551616=0:=by rw [hT];omega
 have hm2:K*k % 18446744073709551616=T:=by rw [hT];omega
 have hMul:=fun w=>Try.bits_Mul K k (by omega) (by omega) w
 rw [hm1,hm2] at hMul
 have e1:=IntWalk.i64_in (T:Int) (by omega)
 have hu1:IntKind.u64.wrap (K:Int)=K:=by rw [show IntKind.u64.wrap (K:Int)=(K:Int) % 18446744073709551616 from rfl];omega
 have hu2:IntKind.u64.wrap (k:Int)=k:=by rw [show IntKind.u64.wrap (k:Int)=(k:Int) % 18446744073709551616 from rfl];omega
 have d0:decide ((k:Int)<0)=false:=by rw [decide_eq_false_iff_not];omega
 have d1:decide ((9223372036854775807:Int)<(T:Int))=false:=by rw [decide_eq_false_iff_not];omega
 have d2:decide (9223372036854775807<T)=false:=by rw [decide_eq_false_iff_not];omega
 have hTh:=Lib.hid hT
 clear hT hm1 hm2
 go_enter Try.func125,Try.ntmps125
 go_wp2_with fail
 refine (hMul _).mono ?_
 rintro e w1 ⟨rfl,rfl⟩
 obtain⟨cur0,hcur0,hmk⟩:=make_wants T (by omega) w1
 have hg0:=Blk.new w1 (.cells cur0.toArray 91)
 have hx0:=(Ext.refl w1).alloc (.cells cur0.toArray 91)
 have hcell1:∀ (i:Nat) (u:Value),W2[i]?=some u->(w1.alloc (.cells cur0.toArray 91)).cell? ⟨b,i,none⟩=some u:=fun i u hu=>(hx0.cell (p:=⟨b,i,none⟩) hb).trans (hcell i u hu)
 clear hV hcell hW2 hK
 obtain⟨F,hF⟩:∃ F,rep k W2=F:=⟨_,rfl⟩
 rw [hF] at hone hFl hfin
 obtain⟨n0,hn0⟩:∃ n0,Nat.min K T=n0:=⟨_,rfl⟩
 have hnT:n0<=T:=by rw [<- hn0];exact Nat.min_le_right _ _
 have hnK:n0<=K:=by rw [<- hn0];exact Nat.min_le_left _ _
 have hstart:((∃ j,n0=j*K/\1<=j)∨n0=T)/\W2.take (2*n0)=F.take (2*n0):=by
  have hT:=hTh.out
  by_cases hk0:k=0
  · subst hk0
    have:n0=0:=by omega
    subst this
    exact⟨.inr (by omega),by simp⟩
  · obtain⟨k',rfl⟩:∃ k',k=1+k':=⟨k-1,by omega⟩
    have hKT:K<=T:=by rw [<- hT,Nat.mul_add];omega
    have:n0=K:=by rw [<- hn0];exact Nat.min_eq_left hKT
    subst this
    refine⟨.inl ⟨1,by omega,by omega⟩,?_⟩
    rw [<- hF,rep_add,List.take_append_of_le_length (by rw [rep_len];omega)]
    simp [rep]
 have hcsl:(W2.take (2*n0)).length=2*n0:=by rw [List.length_take];omega
 have hcs1:∀ x∈W2.take (2*n0),x.oneCell'=true:=by
  rw [hstart.2]
  exact fun x hx=>hone x (List.mem_of_mem_take hx)
 have hcsc:∀ j v,(W2.take (2*n0))[j]?=some v->(w1.alloc (.cells cur0.toArray 91)).cell? ((⟨b,0,none⟩:Addr).add j)=some v:=fun j v hj=>by
  have hj2:W2[j]?=some v:=by
   rw [List.getElem?_take] at hj
   split at hj
   · exact hj
   · cases hj
  have e:(⟨b,0,none⟩:Addr).add j=⟨b,j,none⟩:=by unfold Addr.add;split <;> simp_all
  rw [e]
  exact hcell1 j v hj2
 have hsth:=Lib.hid hstart
 have hFh:=Lib.hid hF
 have honeh:=Lib.hid hone
 have hfinh:=Lib.hid hfin
 have hcshh:=Lib.hid hcsl
 have hcsch:=Lib.hid hcsc
 have hcs1h:=Lib.hid hcs1
 have hn0h:=Lib.hid hn0
 have hVlh:=Lib.hid hVl
 have hc0h:=Lib.hid hcur0
 have hFlh:=Lib.hid hFl
 clear hstart hF hone hfin hcsl hcsc hcs1 hn0 hcell1 hVl hcur0 hFl
 have hrun:=run_copy2 (P:=Try.prog) (w1.alloc (.cells cur0.toArray 91)) 46 46 3 91 w1.heap.size 0 T T ⟨b,0,none⟩ K c cur0.toArray 91 (W2.take (2*n0)) Try.underlying46 want_size hg0 (by rw [hcshh.out,hn0h.out,Nat.mul_comm]) hcsch.out (by rw [hcshh.out,List.size_toArray,hc0h.out];omega) hcs1h.out
 rw [hn0h.out,show goInt n0=.int .i64 (n0:Int) from rfl] at hrun
 have hg2:Hid (((w1.alloc (.cells cur0.toArray 91)).setRow w1.heap.size (cur0.toArray.toList.take 0++W2.take (2*n0)++cur0.toArray.toList.drop (0+(W2.take (2*n0)).length)).toArray).heap[w1.heap.size]?=some (.cells (splice cur0 0 (W2.take (2*n0))).toArray 91 (0,0))):=Lib.hid (by simpa [splice] using setRow_heap (w1.alloc (.cells cur0.toArray 91)) w1.heap.size _ _ _ _ hg0)
 have hx2:Ext w1 ((w1.alloc (.cells cur0.toArray 91)).setRow w1.heap.size (cur0.toArray.toList.take 0++W2.take (2*n0)++cur0.toArray.toList.drop (0+(W2.take (2*n0)).length)).toArray):=below_setRow hx0 (Nat.le_refl _) _
 generalize (w1.alloc (.cells cur0.toArray 91)).setRow w1.heap.size _=w2 at *
 clear hg0 hx0
 have hcurh:Hid ((splice cur0 0 (W2.take (2*n0))).take (2*n0)=F.take (2*n0)):=by
  have h:=splice_take (cur:=cur0) (cs:=W2.take (2*n0)) (a:=0) (by rw [hcshh.out,hc0h.out];omega)
  rw [hcshh.out,Nat.zero_add] at h
  refine Lib.hid ?_
  rw [h,<- hsth.out.2]
  simp
 have hlen0:(splice cur0 0 (W2.take (2*n0))).length=2*T:=by rw [length_splice _ _ _ (by rw [hcshh.out,hc0h.out];omega)];exact hc0h.out
 generalize splice cur0 0 (W2.take (2*n0))=cur1 at *
 clear hcsch hcs1h hcshh hn0h hc0h
 go_wp2_with fail
 clear hmk hrun
 have hge0:=Nat.le_refl w1.heap.size
 generalize hgs:w1.heap.size=g at hge0 hg2 hb ⊢
 have hge:w1.heap.size<=g:=by rw [hgs];exact Nat.le_refl _
 clear hgs
 go_loopw [8] (fun a8 wr=>∃ (n:Nat) (cur:List Value),a8=.int .i64 n/\n<=T/\Hid ((∃ j,n=j*K/\1<=j)∨n=T)/\Hid (cur.length=2*T)/\Hid (wr.heap[g]?=some (.cells cur.toArray 91 (0,0)))/\Hid (cur.take (2*n)=F.take (2*n))/\Ext w1 wr) (fun a8 _=>T-(intOf a8).toNat)
 case atStart=>exact⟨n0,cur1,rfl,hnT,Lib.hid hsth.out.1,Lib.hid hlen0,hg2,hcurh,hx2⟩
 case round =>
  clear hg2 hcurh hlen0 hx2 hsth hnT hnK
  obtain⟨n,cur,rfl,hn,hj,hcl,hgw,hcur,hxw⟩:=hrel
  by_cases hnT:n<T
  · have dn:decide ((n:Int)<(T:Int))=true:=by rw [decide_eq_true_eq];omega
    have dn2:decide (n<T)=true:=by rw [decide_eq_true_eq];omega
    obtain⟨m,hm⟩:∃ m,Nat.min n (T-n)=m:=⟨_,rfl⟩
    have hmn:m<=n:=by rw [<- hm];exact Nat.min_le_left _ _
    have hmT:m<=T-n:=by rw [<- hm];exact Nat.min_le_right _ _
    have hkey:F.take (2*n)++F.take (2*m)=F.take (2*n+2*m):=by
     rcases hj.out with⟨j,rfl,_⟩ | e
     · have hT:=hTh.out
       have hjk:j<=k:=Nat.le_of_lt (Nat.lt_of_mul_lt_mul_left (a:=K) (by rw [hT,Nat.mul_comm];exact hnT))
       have h3:=rep_take W2 (k:=k) (j:=j) (m:=2*m) hjk (by
        rw [hVlh.out,show j*(2*K)=2*(j*K) from by rw [Nat.mul_left_comm],show k*(2*K)=2*(K*k) from by rw [Nat.mul_left_comm,Nat.mul_comm k K],hT]
        omega)
       rw [hFh.out,hVlh.out,show j*(2*K)=2*(j*K) from by rw [Nat.mul_left_comm]] at h3
       exact h3
     · omega
    have hcsl:(F.take (2*m)).length=2*m:=by rw [List.length_take,hFlh.out];omega
    have hcs1:∀ x∈F.take (2*m),x.oneCell'=true:=fun x hx=>honeh.out x (List.mem_of_mem_take hx)
    have hat:∀ i,i<2*n->cur[i]?=F[i]?:=fun i hi=>by
     have h:=congrArg (fun l:List Value=>l[i]?) hcur.out
     simpa [List.getElem?_take,hi] using h
    have hcsc:∀ j v,(F.take (2*m))[j]?=some v->wr.drew.cell? ((⟨g,0,none⟩:Addr).add j)=some v:=fun j v hjv=>by
     have hjm:j<2*m:=by have:=(List.getElem?_eq_some_iff.1 hjv).1;omega
     rw [List.getElem?_take,if_pos hjm] at hjv
     have e:(⟨g,0,none⟩:Addr).add j=⟨g,j,none⟩:=by unfold Addr.add;split <;> simp_all
     rw [e,cell_of_heap (w:=wr.drew) hgw.out]
     rw [<- hat j (by omega)] at hjv
     simpa using hjv
    have hsp:∀ (D:List Value),D=splice cur (n*2) (F.take (2*m))->D.length=2*T/\D.take (2*(n+m))=F.take (2*(n+m)):=fun D hD=>by
     rw [Nat.mul_comm n 2] at hD
     have hfit:2*n+(F.take (2*m)).length<=cur.length:=by rw [hcsl,hcl.out];omega
     refine⟨by rw [hD,length_splice _ _ _ hfit];exact hcl.out,?_⟩
     have h:=splice_take hfit
     rw [hcsl,hcur.out,hkey] at h
     rw [hD,Nat.mul_add]
     exact h
    have hj2:(∃ j,n+m=j*K/\1<=j)∨n+m=T:=by
     rcases hj.out with⟨j,rfl,h1⟩ | e
     · by_cases h:j*K<=T-j*K
       · refine .inl ⟨2*j,?_,by omega⟩
         rw [show m=j*K from by rw [<- hm];exact Nat.min_eq_left h,Nat.mul_assoc]
         omega
       · exact .inr (by rw [show m=T-j*K from by rw [<- hm];exact Nat.min_eq_right (by omega)];omega)
     · omega
    have hm1:1<=m∨n=0:=by
     by_cases h:n<=T-n
     · have h2:Nat.min n (T-n)=n:=Nat.min_eq_left h
       omega
     · have h2:Nat.min n (T-n)=T-n:=Nat.min_eq_right (by omega)
       omega
    have hn1:1<=n:=by
     rcases hj.out with⟨j,e,h1'⟩ | e
     · rw [e];exact Nat.mul_pos h1' h1
     · omega
    have hjh:=Lib.hid hj2
    have hsph:=Lib.hid hsp
    have hm2:1<=m:=by omega
    have hw9:=IntWalk.i64_in ((n:Int)+(m:Int)) (by omega)
    have hne:¬ T=n:=by omega
    have hn0':(0:Int)<=(n:Int):=by omega
    have hnT2:(n:Int)<=(T:Int):=by omega
    have hxd:=hxw.drew
    have hcsch:=Lib.hid hcsc
    have hcs1h:=Lib.hid hcs1
    have hcslh:=Lib.hid hcsl
    have hmh:=Lib.hid hm
    clear hj hat hkey hcsl hcs1 hcsc hsp hj2 hm1 hm
    have hrun2:=run_copy2 (P:=Try.prog) wr.drew 46 46 3 91 g (n*2) (T-n) (T-n) ⟨g,0,none⟩ n T cur.toArray 91 (F.take (2*m)) Try.underlying46 want_size hgw.out (by rw [hcslh.out,hmh.out,Nat.mul_comm]) hcsch.out (by rw [hcslh.out,List.size_toArray,hcl.out];omega) hcs1h.out
    rw [hmh.out,show goInt m=.int .i64 (m:Int) from rfl] at hrun2
    have hg4:Hid ((wr.drew.setRow g (cur.toArray.toList.take (n*2)++F.take (2*m)++cur.toArray.toList.drop (n*2+(F.take (2*m)).length)).toArray).heap[g]?=some (.cells (splice cur (n*2) (F.take (2*m))).toArray 91 (0,0))):=Lib.hid (by simpa [splice] using setRow_heap wr.drew g _ _ _ _ hgw.out)
    have hx4:Ext w1 (wr.drew.setRow g (cur.toArray.toList.take (n*2)++F.take (2*m)++cur.toArray.toList.drop (n*2+(F.take (2*m)).length)).toArray):=below_setRow hxd hge _
    go_wp2_with fail
    generalize World.setRow (World.drew wr) g _=w4 at *
    have hrh:=Lib.hid hrun2
    clear hrun2
    refine wp_region_held_drew (S:=fun _=>True) rfl trivial (fun hHeld=>?_)
    refine tkb 0 ?_
    iterate 7
     refine tkn (v:=?_) rfl (by kernel_rfl) (fun _ _ _ h=>h) (by assumption) ?_ ?_
     rotate_left
     · (intro w hSw;(try dsimp only at hSw);go_simp;try with_reducible rfl)
     try simp only [put_pack]
    refine tke ?_
    have hrun2:=hrh.out
    clear hrh
    refine wpAnyH_ready (rs:=[7]) (by kernel_rfl) (by simp) ?_
    refine AllReadyH.cons rfl (fun K hKK=>?_) (AllReadyH.nil)
    go_simp
    refine hKK.out _ _ trivial (fun hHeld=>?_)
    clear hKK K hrun2
    try dsimp only
    refine tk 8 (v:=?_) rfl (by kernel_rfl) (fun _ _ _ h=>h) (by assumption) ?_ ?_
    rotate_left
    · (intro w hSw;(try dsimp only at hSw);go_simp;try with_reducible rfl)
    try simp only [put_pack]
    refine tk 9 (v:=?_) rfl (by kernel_rfl) (fun _ _ _ h=>h) (by assumption) ?_ ?_
    rotate_left
    · (intro w hSw;(try dsimp only at hSw);go_simp;try with_reducible rfl)
    try simp only [put_pack]
    refine wpAnyH_done (by kernel_rfl) ?_ _
    go_simp
    have hs9:=hsph.out _ rfl
    have h91:=Lib.hid hs9.1
    have h92:=Lib.hid hs9.2
    clear hs9 hcsch hcs1h hcslh hmh hgw hcur hcl hsph hxd
    go_wp2_with fail
    refine⟨⟨n+m,_,by first | rfl | go_num,by omega,hjh,h91,hg4,h92,hx4⟩,?_⟩
    simp [intOf];omega
  · obtain rfl:n=T:=by omega
    have dn:decide ((n:Int)<(n:Int))=false:=by rw [decide_eq_false_iff_not];omega
    have hcF:cur=F:=by
     have h:=hcur.out
     rw [<- hcl.out,List.take_length,hcl.out,<- hFlh.out,List.take_length] at h
     exact h
    have hw:WantsAt wr (.slice (some ⟨g,0,none⟩) n n) (rep k l):=by
     refine⟨_,n,?_,?_,by omega,fun _=>⟨g,rfl,(Array.getElem?_eq_some_iff.1 hgw.out).1,fun i u hu=>?_⟩⟩
     · rw [hfinh.out.2,Nat.mul_comm,hTh.out]
     · rw [hfinh.out.2,Nat.mul_comm,hTh.out]
       exact Nat.le_refl _
     · rw [hfinh.out.1,<- hcF] at hu
       rw [cell_of_heap (w:=wr) hgw.out]
       simpa using hu
    have hwh:=Lib.hid hw
    clear hw hcF hgw hcur hj
    go_wp2_with fail
    go_ret
    exact⟨_,rfl,hwh.out,hxw⟩
end Go.Proofs.Ytbphlkaihfbgeaa
namespace Kv
def yWant (n i:Nat):Want:=if i<3 then ⟨-1,n⟩ else ⟨-1,2⟩
def yWants (n:Nat):List Want:=(List.range (n+3)).map (yWant n)
def yAllW (n:Nat):List Want:=rep (2 ^ levels n-1) (yWants n)
theorem yWants_len (n:Nat):(yWants n).length=n+3:=by simp [yWants]
theorem yAllW_len (n:Nat):(yAllW n).length=(2 ^ levels n-1)*(n+3):=by rw [yAllW,rep_len,yWants_len]
theorem pow_levels {n:Nat}(hn:n<=8):1<=2 ^ levels n/\2 ^ levels n<=8:=by
 have:∀ n:Nat,n<9->1<=2 ^ levels n/\2 ^ levels n<=8:=by decide +kernel
 exact this n (by omega)
theorem yAllW_le {n:Nat}(hn:n<=8):(yAllW n).length<=77:=by
 have:=pow_levels hn
 rw [yAllW_len]
 exact Nat.le_trans (Nat.mul_le_mul (show 2 ^ levels n-1<=7 by omega) (show n+3<=11 by omega)) (by decide)
theorem yAllW_wr {n:Nat}:∀ q∈yAllW n,q.wr=-1:=by
 intro q hq
 unfold yAllW rep at hq
 obtain⟨l,hl,hq⟩:=List.mem_flatten.1 hq
 rw [List.eq_of_mem_replicate hl] at hq
 unfold yWants at hq
 obtain⟨i,_,rfl⟩:=List.mem_map.1 hq
 unfold yWant
 split <;> rfl
theorem lay_native (n:Int)(hn:1<=n/\n<=8)(c:Int)(hc:0<=c/\c<=32768):∀ (l:List Want) (b:Int),0<=b->b+l.length<=32768->∃ rs,layFrom n 1 l b c=some rs/\rs.length=l.length/\∀ (i:Nat) r,rs[i]?=some r->r.kind=1/\r.base=b+i/\r.loc=c/\r.n=n
 | [],b,_,_=>⟨[],rfl,rfl,fun i r h=>by simp at h⟩
 | q :: l,b,h0,h1=>by
   simp only [List.length_cons] at h1
   have hk:(regOf n 1 b c q).kind=1:=by unfold regOf kindM;simp
   have hcl:cellsM (regOf n 1 b c q)=1:=by unfold cellsM;rw [if_pos hk]
   have hll:localsM (regOf n 1 b c q)=0:=by unfold localsM;rw [if_pos hk]
   have hf:fineM (regOf n 1 b c q)=true:=by
    unfold fineM
    rw [hcl,hll]
    rw [Bool.and_eq_true,Bool.and_eq_true,Bool.and_eq_true,decide_eq_true_eq,decide_eq_true_eq,decide_eq_true_eq,decide_eq_true_eq]
    show ((b<=32768/\c<=32768)/\b+1<=32768)/\c+0<=32768
    omega
   obtain⟨rs,h2,h3,h4⟩:=lay_native n hn c hc l (b+1) (by omega) (by omega)
   refine⟨regOf n 1 b c q :: rs,?_,by simp [h3],fun i r hr=>?_⟩
   · unfold layFrom
     rw [if_pos hf,hcl,hll,Int.add_zero,h2]
     rfl
   · cases i with
     | zero =>
       obtain rfl:regOf n 1 b c q=r:=by simpa using hr
       exact⟨hk,by simp [regOf],rfl,rfl⟩
     | succ i =>
       obtain⟨a1,a2,a3,a4⟩:=h4 i r (by simpa using hr)
       exact⟨a1,by rw [a2];omega,a3,a4⟩
theorem yang_lay (n:Nat)(h1:1<=n)(h8:n<=8):∃ rs,layM (yAllW n) n 1 3 2=some rs/\YAll rs n/\YNat rs:=by
 have hl:=yAllW_le h8
 obtain⟨rs,h2,h3,h4⟩:=lay_native n ⟨by omega,by omega⟩ 2 (by decide) (yAllW n) 3 (by decide) (by omega)
 have ha:argsM (yAllW n) n 1 3 2=true:=by
  unfold argsM
  rw [Bool.and_eq_true,decide_eq_true_eq,List.all_eq_true]
  refine⟨by omega,fun q hq=>?_⟩
  rw [decide_eq_true_eq,yAllW_wr q hq]
  omega
 refine⟨rs,by unfold layM;rw [if_pos ha];exact h2,⟨by rw [h3,yAllW_len],fun i hi=>?_⟩,fun i r hr=>?_⟩
 · obtain⟨r,hr⟩:∃ r,rs[i]?=some r:=⟨_,List.getElem?_eq_getElem hi⟩
   obtain⟨a1,a2,a3,a4⟩:=h4 i r hr
   refine⟨r,hr,⟨.inl a1,by omega,by rw [a3];decide,by omega,fun h=>by omega⟩,a4,fun _=>.inl a1,by unfold cellsM;rw [if_pos a1];decide⟩
 · obtain⟨a1,a2,_⟩:=h4 i r hr
   exact⟨a1,by omega⟩
end Kv
namespace Go.Proofs.Ytbphlkaihfbgeaa
open Go.RowKit Kv
set_option maxRecDepth 100000 in
set_option maxHeartbeats 1000000 in
theorem ywants_p (n:Nat)(w:World)(h1:1<=n)(h8:n<=8):Calls Try.prog 123 #[.int .i64 n] w fun e w'=>∃ v,e=.returned v/\WantsAt w' v (yWants n)/\Ext w w':=by
 go_enter Try.func123,Try.ntmps123
 go_wp2_with fail
 refine (yfine_p n _ h1 h8).mono ?_
 rintro e w2 ⟨rfl,rfl⟩
 go_wp2_with fail
 go_loopw [3,7] (fun v i wr=>∃ j:Nat,i=.int .i64 j/\j<=3/\wr.ownsRow w.heap.size 91 2 v j (wantRow (yWant n) j)/\Ext w wr) (fun _ i _=>3-(intOf i).toNat)
 case atStart=>exact⟨0,rfl,by omega,World.ownsRow_nil _ _ _ _,Ext.refl _⟩
 case round =>
  obtain⟨j,rfl,hj,hown,hE⟩:=hrel
  by_cases hl:j<3
  · have dj:decide ((j:Int)<3)=true:=by rw [decide_eq_true_eq];omega
    go_wp2_with (at_builtin;refine append_rec info_want Try.underlying46 rfl (by decide) (by decide) rfl _ _ rfl _ j _ [.int .i64 (-1),.int .i64 n] hE hown rfl rfl rfl (by simp [Value.oneCell']) (by omega) ?_)
    intro v' w' ho hx _
    have hoh:=Lib.hid ho
    clear hown ho
    go_wp2_with fail
    refine⟨⟨j+1,by go_num,by omega,?_,hx⟩,?_⟩
    · rw [wants_succ]
      rw [show yWant n j=⟨-1,n⟩ from by unfold yWant;rw [if_pos hl]]
      exact hoh.out
    · simp [intOf];omega
  · have hj3:j=3:=by omega
    have dj:decide ((j:Int)<3)=false:=by rw [decide_eq_false_iff_not];omega
    have hownh:Hid (wr.ownsRow w.heap.size 91 2 _ (3+0) (wantRow (yWant n) (3+0))):=Lib.hid (by rw [<- hj3,Nat.add_zero];exact hown)
    clear hown hj3 hj hl
    go_wp2_with fail
    clear dj
    go_loopw [3,16] (fun v i wr=>∃ j:Nat,i=.int .i64 j/\j<=n/\wr.ownsRow w.heap.size 91 2 v (3+j) (wantRow (yWant n) (3+j))/\Ext w wr) (fun _ i _=>n-(intOf i).toNat)
    case atStart=>exact⟨0,rfl,by omega,hownh.out,hE⟩
    case round =>
     clear hownh hE
     obtain⟨j,rfl,hj,hown,hE⟩:=hrel
     by_cases hl:j<n
     · have dj:decide ((j:Int)<(n:Int))=true:=by rw [decide_eq_true_eq];omega
       go_wp2_with (at_builtin;refine append_rec info_want Try.underlying46 rfl (by decide) (by decide) rfl _ _ rfl _ (3+j) _ [.int .i64 (-1),.int .i64 2] hE hown rfl rfl rfl (by simp [Value.oneCell']) (by omega) ?_)
       intro v' w' ho hx _
       have hoh:=Lib.hid ho
       clear hown ho
       go_wp2_with fail
       refine⟨⟨j+1,by go_num,by omega,?_,hx⟩,?_⟩
       · rw [show 3+(j+1)=(3+j)+1 from by omega,wants_succ]
         rw [show yWant n (3+j)=⟨-1,2⟩ from by unfold yWant;rw [if_neg (by omega)]]
         exact hoh.out
       · simp [intOf];omega
     · obtain rfl:j=n:=by omega
       have hownh:=Lib.hid hown
       clear hown
       go_wp2_with fail
       go_ret
       have h:=wants_row hownh.out
       rw [Nat.add_comm] at h
       exact⟨_,rfl,h,hE⟩
theorem ywants_0 (w:World):Calls Try.prog 123 #[.int .i64 0] w fun e w'=>e=.returned (.slice none 0 0)/\Ext w w':=by
 have hf:∀ W,Calls Try.prog 124 #[.int .i64 0] W fun e w'=>e=.returned (.bool false)/\W=w':=fun W=>by
  go_enter Try.func124,Try.ntmps124
  go_wp2_with fail
  go_ret
  exact⟨rfl,rfl⟩
 go_enter Try.func123,Try.ntmps123
 go_wp2_with fail
 refine (hf _).mono ?_
 rintro e w2 ⟨rfl,rfl⟩
 go_wp2_with fail
 go_ret
 exact⟨rfl,Ext.refl w⟩
set_option maxRecDepth 100000 in
set_option maxHeartbeats 1000000 in
theorem yallw_p (n:Nat)(w:World)(h1:1<=n)(h8:n<=8):Calls Try.prog 48 #[.int .i64 n] w fun e w'=>∃ v,e=.returned v/\WantsAt w' v (yAllW n)/\Ext w w':=by
 have hlv:=fun w=>levels_p n (by omega) w
 have hp:=pow_levels h8
 have hw:=yWants_len n
 have hrp:=fun (v:Value) (W:World) (hv:WantsAt W v (yWants n))=>repeat_p v (yWants n) (2 ^ levels n-1) W hv (by omega) (by omega) (by omega)
 unfold yAllW
 have hl3:levels n<=3:=by
  have:∀ n:Nat,n<9->levels n<=3:=by decide +kernel
  exact this n (by omega)
 generalize levels n=L at *
 have hPi:(2:Int) ^ L=((2 ^ L:Nat):Int):=by rw [Int.natCast_pow];rfl
 generalize 2 ^ L=P at *
 have hsh:Op.shift .shl .i64 1 .i64 (L:Int)=pure (.int .i64 (P:Int)):=by
  rw [Go.shift_shl_i64 (x:=1) (y:=(L:Int)) (yk:=.i64) (by omega) (by omega),Int.one_mul,Int.toNat_natCast,hPi,IntWalk.i64_in _ (by omega)]
 obtain⟨k,hk⟩:∃ k,P-1=k:=⟨_,rfl⟩
 have hwk:IntKind.i64.wrap ((P:Int)-1)=(k:Int):=by rw [IntWalk.i64_in _ (by omega)];omega
 rw [hk] at hrp ⊢
 replace hrp:=Lib.hid hrp
 have hw2:IntKind.i64.wrap ((2:Int) ^ L)=(P:Int):=by rw [hPi];exact IntWalk.i64_in _ (by omega)
 clear hPi hk hl3
 go_enter Try.func48,Try.ntmps48
 go_wp2_with fail
 refine (yfine_p n _ h1 h8).mono ?_
 rintro e w2 ⟨rfl,rfl⟩
 go_wp2_with fail
 refine (hlv _).mono ?_
 rintro e w' ⟨rfl,rfl⟩
 go_wp2_with fail
 refine (ywants_p n _ h1 h8).mono ?_
 rintro e w3 ⟨v,rfl,hv,hx⟩
 have hr:=hrp.out v w3 hv
 obtain⟨A,c,rfl,-⟩:=id hv
 rw [hw] at hr ⊢
 replace hr:=Lib.hid hr
 clear hv hrp hw
 go_wp2_with fail
 refine hr.out.mono ?_
 rintro e w4 ⟨v',rfl,hv',hx4⟩
 obtain⟨A',c',rfl,-⟩:=id hv'
 have hvh:=Lib.hid hv'
 clear hv' hr
 go_wp2_with fail
 go_ret
 exact⟨_,rfl,hvh.out,hx.trans hx4⟩
theorem yang_some (n:Nat)(v:Value)(w:World)(h:WantsAt w v (yAllW n))(h1:1<=n)(h8:n<=8) :
  Calls Try.prog 21 #[v,.int .i64 n,.int .i64 1] w fun e w'=>∃ A c rs,e=.returned (.slice A rs.length c)/\YAll rs n/\YNat rs/\rs.length<=c/\c<=9223372036854775807/\Ext w w'/\(rs≠[]->∃ b,A=some ⟨b,0,none⟩/\w.heap.size<=b/\b<w'.heap.size/\(∀ (i:Nat) u,(rs.flatMap regVals)[i]?=some u->w'.cell? ⟨b,i,none⟩=some u)):=by
 obtain⟨rs,hl,he,hy⟩:=yang_lay n h1 h8
 have hlen:=yAllW_le h8
 refine (some_r v _ n 1 w h (by omega)).mono ?_
 rintro e w' ⟨v',rfl,hx,hrow⟩
 rw [hl] at hrow
 simp only [Option.getD_some] at hrow
 obtain⟨Ar,cr,rfl,r1,r2,hV⟩:=Recs.of_row hrow
 refine⟨Ar,cr,rs,rfl,he,hy,r1,r2,hx,fun hne=>?_⟩
 cases rs with
 | nil=>exact absurd rfl hne
 | cons r rs =>
   obtain⟨b,rfl,hb,hc⟩:=hV (by simp [regVals])
   exact⟨b,rfl,(World.ownsRow.lt hrow b rfl).1,hb,hc⟩
structure BelowX (X:Nat->Prop) (w w':World):Prop where
 os:w'.os=w.os
 tape:w'.tape=w.tape
 output:w'.output=w.output
 size:w.heap.size<=w'.heap.size
 blocks:∀ k,k<w.heap.size->¬ X k->w'.heap[k]?=w.heap[k]?
theorem BelowX.of {X:Nat->Prop}{w w':World}(h:Ext w w'):BelowX X w w':=⟨h.os,h.tape,h.output,h.size,fun k hk _=>h.block k hk⟩
theorem BelowX.refl (X:Nat->Prop)(w:World):BelowX X w w:=BelowX.of (Ext.refl w)
theorem BelowX.trans {X:Nat->Prop}{w w' w'':World}(h:BelowX X w w')(g:BelowX X w' w''):BelowX X w w'' :=
 ⟨g.os.trans h.os,g.tape.trans h.tape,g.output.trans h.output,Nat.le_trans h.size g.size,fun k hk hx=>(g.blocks k (Nat.lt_of_lt_of_le hk h.size) hx).trans (h.blocks k hk hx)⟩
theorem BelowX.set {X:Nat->Prop}{w w':World}(h:BelowX X w w'){b:Nat}(hb:X b)(i:Nat)(v:Value):BelowX X w (w'.setCell ⟨b,i,none⟩ v):=by
 have e:∀ k,k≠b->(w'.setCell ⟨b,i,none⟩ v).heap[k]?=w'.heap[k]?:=fun k hk=>heap_setCell_ne _ _ hk
 exact⟨h.os,h.tape,h.output,by simpa using h.size,fun k hk hx=>(e k (fun hkb=>hx (hkb▸hb))).trans (h.blocks k hk hx)⟩
theorem BelowX.mono {X Y:Nat->Prop}{w w':World}(h:BelowX X w w')(hxy:∀ k,X k->Y k):BelowX Y w w' :=
 ⟨h.os,h.tape,h.output,h.size,fun k hk hx=>h.blocks k hk fun q=>hx (hxy k q)⟩
theorem BelowX.blk {X:Nat->Prop}{w w':World}(h:BelowX X w w'){b:Nat}{o:Obj}(hb:Blk w b o)(hx:¬ X b):Blk w' b o:=(h.blocks b hb.lt hx).trans hb
theorem BelowX.ints {X:Nat->Prop}{w w':World}{v:Value}{l:List Int}(h:BelowX X w w')(hl:Ints w v l)(hx:∀ b,v.ownBlock=some b->¬ X b):Ints w' v l:=by
 obtain⟨A,c,rfl,h1,h2,h3⟩:=hl
 refine⟨A,c,rfl,h1,h2,fun hne=>?_⟩
 obtain⟨b,off,rfl,hb,hc⟩:=h3 hne
 refine⟨b,off,rfl,Nat.lt_of_lt_of_le hb h.size,fun i x hi=>?_⟩
 rw [<- hc i x hi]
 unfold World.cell?
 simp only
 rw [h.blocks b hb (hx b rfl)]
theorem BelowX.grown {X:Nat->Prop}{w w' wr:World}{o:Obj}{row:Option Nat}(h:BelowX X w wr)(hg:(wr.alloc o).grownBy w' row)(hr:∀ b,row=some b->w.heap.size<=b):BelowX X w w':=by
 have h1:=h.trans (BelowX.of ((Ext.refl wr).alloc o))
 exact⟨hg.os.trans h1.os,hg.tape.trans h1.tape,hg.output.trans h1.output,Nat.le_trans h1.size hg.size,fun k hk hx=>(hg.block k (Nat.lt_of_lt_of_le hk h1.size) (fun e=>by have:=hr k e.symm;omega)).trans (h1.blocks k hk hx)⟩
def rowOf (l:List Int):List Value:=l.map (Value.int .i64)
structure ARows (B:Nat) (bs:List Nat) (w:World) (vs:Array Value) (ans:Nat->List Int) (n:Nat):Prop where
 sz:vs.size=n
 ge:B<=w.heap.size
 row:∀ t,t<n->∃ v,vs[t]?=some v/\w.ownsRow B 3 1 v (ans t).length (rowOf (ans t))
 off:∀ (t:Nat) (v:Value) (b:Nat),vs[t]?=some v->v.ownBlock=some b->b ∉ bs
 apart:∀ (t s:Nat) (v u:Value) (b:Nat),t≠s->vs[t]?=some v->vs[s]?=some u->v.ownBlock=some b->u.ownBlock≠some b
section
variable {B n:Nat} {bs:List Nat} {w W:World} {vs:Array Value} {ans:Nat->List Int}
theorem own_ge {v:Value}{k:Nat}{xs:List Value}(h:w.ownsRow B 3 1 v k xs){b:Nat}(hb:v.ownBlock=some b):B<=b/\b<w.heap.size:=by
 rcases h.2 with⟨rfl,_⟩ | ⟨g,cap,cur,rfl,h1,h2,_⟩
 · simp [Value.ownBlock] at hb
 · simp only [Value.ownBlock,Option.some.injEq] at hb
   subst hb
   exact⟨h1,(Array.getElem?_eq_some_iff.1 h2).1⟩
theorem ARows.ints (h:ARows B bs w vs ans n){t:Nat}(ht:t<n):∃ A c,vs[t]?=some (.slice A (ans t).length c)/\Ints w (.slice A (ans t).length c) (ans t)/\w.ownsRow B 3 1 (.slice A (ans t).length c) (ans t).length (rowOf (ans t)):=by
 obtain⟨v,h1,h2⟩:=h.row t ht
 have h3:=IntRow.ints (show IntRow w B v (ans t) from h2)
 obtain⟨A,c,rfl,_⟩:=h3.slice
 exact⟨A,c,h1,h3,h2⟩
theorem ARows.ext (h:ARows B bs w vs ans n)(hx:Ext w W):ARows B bs W vs ans n :=
 { h with
  ge:=Nat.le_trans h.ge hx.size
  row:=fun t ht=>by
   obtain⟨v,h1,h2⟩:=h.row t ht
   exact⟨v,h1,row_ext h2 hx⟩ }
theorem ARows.set (h:ARows B bs w vs ans n){b:Nat}(hb:b∈bs)(i:Nat)(u:Value):ARows B bs (w.setCell ⟨b,i,none⟩ u) vs ans n :=
 { h with
  ge:=by simpa using h.ge
  row:=fun t ht=>by
   obtain⟨v,h1,h2⟩:=h.row t ht
   exact⟨v,h1,row_set h2 fun e=>h.off t v b h1 e hb⟩ }
theorem ARows.more (h:ARows B bs w vs ans n){b:Nat}(hb:w.heap.size<=b):ARows B (b :: bs) w vs ans n :=
 { h with
  off:=fun t v k h1 h2 hk=>by
   have ht:t<n:=by rw [<- h.sz];exact (Array.getElem?_eq_some_iff.1 h1).1
   obtain⟨v',q1,q2⟩:=h.row t ht
   rw [q1] at h1
   injection h1 with h1
   subst h1
   have:=own_ge q2 h2
   rcases List.mem_cons.1 hk with rfl | hk
   · omega
   · exact h.off t _ k q1 h2 hk }
theorem ARows.less {cs:List Nat}(h:ARows B bs w vs ans n)(hc:∀ b∈cs,b∈bs):ARows B cs w vs ans n :=
 { h with off:=fun t v k h1 h2 hk=>h.off t v k h1 h2 (hc k hk) }
theorem ARows.grow (h:ARows B bs w vs ans n){t:Nat}(ht:t<n){v:Value}(hv:vs[t]?=some v){g cap:Nat}{y:Int}
  (hown:W.ownsRow B 3 1 (.slice (some ⟨g,0,none⟩) ((ans t).length+1) cap) ((ans t).length+1) (rowOf (ans t)++[Value.int .i64 y]))(hg:w.grownBy W v.ownBlock)(hat:v.ownBlock=some g∨w.heap.size<=g)(hbs:∀ b∈bs,b<w.heap.size) :
  ARows B bs W (vs.setIfInBounds t (.slice (some ⟨g,0,none⟩) ((ans t).length+1) cap)) (fun s=>if s=t then ans t++[y] else ans s) n:=by
 have hsz:=h.sz
 have fresh:∀ (s:Nat) (u:Value) (b:Nat),vs[s]?=some u->u.ownBlock=some b->B<=b/\b<w.heap.size:=fun s u b h1 h2=>by
  have hs:s<n:=by rw [<- hsz];exact (Array.getElem?_eq_some_iff.1 h1).1
  obtain⟨u',q1,q2⟩:=h.row s hs
  rw [q1] at h1
  injection h1 with h1
  subst h1
  exact own_ge q2 h2
 have other:∀ (s:Nat) (u:Value),s≠t->vs[s]?=some u->u.ownBlock≠some g:=fun s u hs h1 h2=>by
  rcases hat with e | e
  · exact h.apart t s v u g (Ne.symm hs) hv h1 e h2
  · have:=(fresh s u g h1 h2).2
    omega
 have get:∀ s u,(vs.setIfInBounds t (.slice (some ⟨g,0,none⟩) ((ans t).length+1) cap))[s]?=some u->(s=t/\u=.slice (some ⟨g,0,none⟩) ((ans t).length+1) cap)∨(s≠t/\vs[s]?=some u):=fun s u h1=>by
  by_cases e:t=s
  · subst e
    rw [Array.getElem?_setIfInBounds_self_of_lt (by omega)] at h1
    injection h1 with h1
    exact .inl ⟨rfl,h1.symm⟩
  · rw [Array.getElem?_setIfInBounds_ne e] at h1
    exact .inr ⟨Ne.symm e,h1⟩
 refine⟨by simp [hsz],Nat.le_trans h.ge hg.size,fun s hs=>?_,fun s u b h1 h2 hb=>?_,fun s r u u' b hne h1 h1' h2 h2'=>?_⟩
 · by_cases e:s=t
   · subst e
     refine⟨_,Array.getElem?_setIfInBounds_self_of_lt (by omega),?_⟩
     rw [if_pos rfl]
     unfold rowOf at hown ⊢
     rw [List.length_append,List.map_append]
     exact hown
   · obtain⟨u,q1,q2⟩:=h.row s hs
     refine⟨u,by rw [Array.getElem?_setIfInBounds_ne (Ne.symm e)];exact q1,?_⟩
     rw [if_neg e]
     refine q2.kept hg ?_
     cases hu:u.ownBlock with
     | none=>exact .inl rfl
     | some b=>exact .inr fun e2=>h.apart s t u v b e q1 hv hu e2.symm
 · rcases get s u h1 with⟨rfl,rfl⟩ | ⟨hs,h1⟩
   · simp only [Value.ownBlock,Option.some.injEq] at h2
     subst h2
     rcases hat with e | e
     · exact h.off s v g hv e hb
     · have:=hbs g hb
       omega
   · exact h.off s u b h1 h2 hb
 · rcases get s u h1 with⟨rfl,rfl⟩ | ⟨hs,h1⟩
   · simp only [Value.ownBlock,Option.some.injEq] at h2
     subst h2
     rcases get r u' h1' with⟨rfl,_⟩ | ⟨hr,h1'⟩
     · exact hne rfl
     · exact other r u' hr h1' h2'
   · rcases get r u' h1' with⟨hr,rfl⟩ | ⟨hr,h1'⟩
     · simp only [Value.ownBlock,Option.some.injEq] at h2'
       subst h2'
       rename_i hvs
       first | exact other s u (by omega) hvs h2 | exact other s u (by omega) h1 h2
     · exact h.apart s r u u' b hne ‹vs[s]?=some u› h1' h2 h2'
theorem ARows.clear (h:ARows B bs w vs ans n)(t:Nat):ARows B bs w (vs.setIfInBounds t (.slice none 0 0)) (fun s=>if s=t then [] else ans s) n:=by
 have hsz:=h.sz
 have get:∀ s u b,(vs.setIfInBounds t (.slice none 0 0))[s]?=some u->u.ownBlock=some b->s≠t/\vs[s]?=some u:=fun s u b h1 h2=>by
  by_cases e:t=s
  · subst e
    have hl:t<vs.size:=by
     have:=(Array.getElem?_eq_some_iff.1 h1).1
     simpa using this
    rw [Array.getElem?_setIfInBounds_self_of_lt hl] at h1
    injection h1 with h1
    subst h1
    simp [Value.ownBlock] at h2
  · rw [Array.getElem?_setIfInBounds_ne e] at h1
    exact⟨Ne.symm e,h1⟩
 refine⟨by simp [hsz],h.ge,fun s hs=>?_,fun s u b h1 h2=>h.off s u b (get s u b h1 h2).2 h2,fun s r u u' b hne h1 h1' h2 h2'=>h.apart s r u u' b hne (get s u b h1 h2).2 (get r u' b h1' h2').2 h2 h2'⟩
 by_cases e:s=t
 · subst e
   refine⟨.slice none 0 0,Array.getElem?_setIfInBounds_self_of_lt (by omega),?_⟩
   rw [if_pos rfl]
   exact⟨rfl,.inl ⟨rfl,rfl⟩⟩
 · obtain⟨u,q1,q2⟩:=h.row s hs
   refine⟨u,by rw [Array.getElem?_setIfInBounds_ne (Ne.symm e)];exact q1,?_⟩
   rw [if_neg e]
   exact q2
theorem ARows.start (B:Nat)(bs:List Nat)(w:World)(hB:B<=w.heap.size)(n:Nat):ARows B bs w (Array.replicate n (.slice none 0 0)) (fun _=>[]) n:=by
 have get:∀ (s:Nat) u,(Array.replicate n (Value.slice none 0 0))[s]?=some u->u=.slice none 0 0:=fun s u h=>by
  have:=Array.mem_of_getElem? h
  simp at this
  exact this.2
 refine⟨by simp,hB,fun t ht=>⟨.slice none 0 0,by simp [ht],rfl,.inl ⟨rfl,rfl⟩⟩,fun t v b h1 h2=>?_,fun t s v u b _ h1 _ h2=>?_⟩
 · rw [get t v h1] at h2
   simp [Value.ownBlock] at h2
 · rw [get t v h1] at h2
   simp [Value.ownBlock] at h2
end
theorem blk_ne {w:World}{b b' i:Nat}{o:Obj}(h:Blk w b o)(hne:b≠b')(u:Value):Blk (w.setCell ⟨b',i,none⟩ u) b o:=by
 show (w.setCell ⟨b',i,none⟩ u).heap[b]?=_
 rw [heap_setCell_ne _ _ hne]
 exact h
def fours (f:Nat->Int):List Value:=(List.range 4).map fun t=>Value.int .i64 (f t)
theorem fours_at {f:Nat->Int}{t:Nat}(h:t<4):(fours f).toArray[t]?=some (.int .i64 (f t)):=by simp [fours,h]
def putF (f:Nat->Int) (t:Nat) (x:Int):Nat->Int:=fun s=>if s=t then x else f s
theorem fours_put {f:Nat->Int}{t:Nat}{x:Int}(h:t<4):(fours f).toArray.setIfInBounds t (.int .i64 x)=(fours (putF f t x)).toArray:=by
 apply Array.ext_getElem?
 intro i
 by_cases hi:t=i
 · subst hi
   rw [Array.getElem?_setIfInBounds_self_of_lt (by simpa [fours] using h),fours_at h]
   simp [putF]
 · rw [Array.getElem?_setIfInBounds_ne hi]
   by_cases h4:i<4
   · rw [fours_at h4,fours_at h4]
     simp [putF,Ne.symm hi]
   · rw [Array.getElem?_eq_none (by simp [fours];omega),Array.getElem?_eq_none (by simp [fours];omega)]
theorem lay_end {V0 wq:World}{bl b:Nat}{rs:List Reg}{T:TypeId}{v:Value}(hz:Blk wq bl (.cells #[.slice none 0 0] T))(hx:Ext V0 wq)(hV:V0.heap.size<=bl)(hb:b<wq.heap.size)(hne:rs≠[])
  (hc:∀ (i:Nat) u,(rs.flatMap regVals)[i]?=some u->wq.cell? ⟨b,i,none⟩=some u):Ext V0 (wq.setCell ⟨bl,0,none⟩ v)/\Blk (wq.setCell ⟨bl,0,none⟩ v) bl (.cells #[v] T)/\b<(wq.setCell ⟨bl,0,none⟩ v).heap.size/\(∀ (i:Nat) u,(rs.flatMap regVals)[i]?=some u->(wq.setCell ⟨bl,0,none⟩ v).cell? ⟨b,i,none⟩=some u):=by
 have hn:b≠bl:=fun e=>by
  cases rs with
  | nil=>exact hne rfl
  | cons r rs =>
    have h1:=hc 0 (.int .i64 r.kind) rfl
    rw [e,hz.cells 0] at h1
    cases h1
 refine⟨hx.setCell (p:=⟨bl,0,none⟩) hV v,heap_setCell hz v,by simpa using hb,fun i u hu=>?_⟩
 have h1:(wq.setCell ⟨bl,0,none⟩ v).heap[b]?=wq.heap[b]?:=heap_setCell_ne _ _ hn
 exact (World.cell?_of_block (w:=wq) (a:=⟨b,i,none⟩) h1).trans (hc i u hu)
theorem box_end {V0 wq:World}{bz:Nat}{T:TypeId}{v0 v:Value}(hz:Blk wq bz (.cells #[v0] T))(hx:Ext V0 wq)(hV:V0.heap.size<=bz):Ext V0 (wq.setCell ⟨bz,0,none⟩ v)/\Blk (wq.setCell ⟨bz,0,none⟩ v) bz (.cells #[v] T) :=
 ⟨hx.setCell (p:=⟨bz,0,none⟩) hV v,heap_setCell hz v⟩
structure QMem (w0:World) (bn bl bc ba bp:Nat) (on ol:Obj) (wr:World) (M:List Int) (ph:Nat->Int) (ans:Nat->List Int) (vs:Array Value):Prop where
 ext:Ext w0 wr
 kN:Blk wr bn on
 kL:Blk wr bl ol
 kC:Blk wr bc (.cells (M.map (Value.int .i64)).toArray 3)
 kA:Blk wr ba (.cells vs 58)
 kP:Blk wr bp (.cells (fours ph).toArray 50)
 rows:ARows w0.heap.size [bn,bl,bc,ba,bp] wr vs ans 4
 lo:bn<w0.heap.size/\bl<w0.heap.size
 ge:w0.heap.size<=bc/\w0.heap.size<=ba/\w0.heap.size<=bp
 ne:bn≠bl/\bn≠bc/\bn≠ba/\bn≠bp/\bl≠bc/\bl≠ba/\bl≠bp/\bc≠ba/\bc≠bp/\ba≠bp
section
variable {w0 wr W:World} {bn bl bc ba bp:Nat} {on ol:Obj} {M:List Int} {ph:Nat->Int} {ans:Nat->List Int} {vs:Array Value}
theorem QMem.keep (h:QMem w0 bn bl bc ba bp on ol wr M ph ans vs)(hx:Ext wr W):QMem w0 bn bl bc ba bp on ol W M ph ans vs :=
 { h with
  ext:=h.ext.trans hx,kN:=h.kN.ext hx,kL:=h.kL.ext hx,kC:=h.kC.ext hx,kA:=h.kA.ext hx,kP:=h.kP.ext hx,rows:=h.rows.ext hx }
theorem QMem.setC (h:QMem w0 bn bl bc ba bp on ol wr M ph ans vs)(i:Nat)(u:Int):QMem w0 bn bl bc ba bp on ol (wr.setCell ⟨bc,i,none⟩ (.int .i64 u)) (M.set i u) ph ans vs:=by
 obtain⟨n1,n2,n3,n4,n5,n6,n7,n8,n9,n10⟩:=h.ne
 exact { h with
  ext:=h.ext.setCell (p:=⟨bc,i,none⟩) h.ge.1 _,kN:=blk_ne h.kN n2 _,kL:=blk_ne h.kL n5 _,kA:=blk_ne h.kA (Ne.symm n8) _,kP:=blk_ne h.kP (Ne.symm n9) _
  kC:=by
   have q:=heap_setCell (i:=i) h.kC (.int .i64 u)
   rw [List.map_set,<- List.setIfInBounds_toArray]
   exact q
  rows:=h.rows.set (by simp) _ _ }
theorem QMem.setP (h:QMem w0 bn bl bc ba bp on ol wr M ph ans vs){t:Nat}(ht:t<4)(x:Int):QMem w0 bn bl bc ba bp on ol (wr.setCell ⟨bp,t,none⟩ (.int .i64 x)) M (putF ph t x) ans vs:=by
 obtain⟨n1,n2,n3,n4,n5,n6,n7,n8,n9,n10⟩:=h.ne
 exact { h with
  ext:=h.ext.setCell (p:=⟨bp,t,none⟩) h.ge.2.2 _,kN:=blk_ne h.kN n4 _,kL:=blk_ne h.kL n7 _,kC:=blk_ne h.kC n9 _,kA:=blk_ne h.kA n10 _
  kP:=by rw [<- fours_put ht];exact heap_setCell h.kP _
  rows:=h.rows.set (by simp) _ _ }
theorem QMem.same (h:QMem w0 bn bl bc ba bp on ol wr M ph ans vs){ph':Nat->Int}(he:∀ t,t<4->ph' t=ph t):QMem w0 bn bl bc ba bp on ol wr M ph' ans vs :=
 { h with
  kP:=by
   have:fours ph'=fours ph:=by
    unfold fours
    refine List.map_congr_left fun t ht=>?_
    rw [he t (by simpa using ht)]
   rw [this]
   exact h.kP }
theorem QMem.clear (h:QMem w0 bn bl bc ba bp on ol wr M ph ans vs)(t:Nat):QMem w0 bn bl bc ba bp on ol (wr.setCell ⟨ba,t,none⟩ (.slice none 0 0)) M ph (fun s=>if s=t then [] else ans s) (vs.setIfInBounds t (.slice none 0 0)):=by
 obtain⟨n1,n2,n3,n4,n5,n6,n7,n8,n9,n10⟩:=h.ne
 exact { h with
  ext:=h.ext.setCell (p:=⟨ba,t,none⟩) h.ge.2.1 _,kN:=blk_ne h.kN n3 _,kL:=blk_ne h.kL n6 _,kC:=blk_ne h.kC n8 _,kP:=blk_ne h.kP (Ne.symm n10) _
  kA:=heap_setCell h.kA _
  rows:=(h.rows.clear t).set (by simp) _ _ }
theorem row_type {w:World}{B k b:Nat}{v:Value}{xs:List Value}{cs:Array Value}{T:TypeId}(h:w.ownsRow B 3 1 v k xs)(hb:Blk w b (.cells cs T))(hT:T≠3):v.ownBlock≠some b:=by
 rcases h.2 with⟨rfl,_⟩ | ⟨g,cap,cur,rfl,h1,h2,_⟩
 · simp [Value.ownBlock]
 · intro e
   simp only [Value.ownBlock,Option.some.injEq] at e
   subst e
   unfold Blk at hb
   rw [h2] at hb
   injection hb with hb
   injection hb with _ hb
   exact hT hb.symm
theorem QMem.far (h:QMem w0 bn bl bc ba bp on ol wr M ph ans vs){bo:Nat}{cs:Array Value}{T:TypeId}(hb:Blk wr bo (.cells cs T))(hT:T≠3)(hg:bc<bo/\ba<bo/\bp<bo){W:World}(hk:∀ b,b≠bo->W.heap[b]?=wr.heap[b]?)(hx:Ext w0 W):QMem w0 bn bl bc ba bp on ol W M ph ans vs:=by
 have g:=h.ge
 have l:=h.lo
 have hl:=hb.lt
 have keep:∀ {b:Nat} {o:Obj},Blk wr b o->b≠bo->Blk W b o:=fun h1 h2=>(hk _ h2).trans h1
 refine { h with ext:=hx,kN:=keep h.kN (by omega),kL:=keep h.kL (by omega),kC:=keep h.kC (by omega),kA:=keep h.kA (by omega),kP:=keep h.kP (by omega),rows:={ h.rows with ge:=hx.size,row:=fun t ht=>?_ } }
 obtain⟨v,q1,q2⟩:=h.rows.row t ht
 have hne:=row_type q2 hb hT
 refine⟨v,q1,?_⟩
 rcases q2.2 with⟨rfl,q3⟩ | ⟨g,cap,cur,rfl,q3,q4,q5⟩
 · exact⟨q2.1,.inl ⟨rfl,q3⟩⟩
 · refine⟨q2.1,.inr ⟨g,cap,cur,rfl,q3,?_,q5⟩⟩
   rw [hk g (fun e=>hne (by simp [Value.ownBlock,e]))]
   exact q4
theorem QMem.grow (h:QMem w0 bn bl bc ba bp on ol wr M ph ans vs){t:Nat}(ht:t<4){v:Value}(hv:vs[t]?=some v){g cap:Nat}{y:Int}
  (hown:W.ownsRow w0.heap.size 3 1 (.slice (some ⟨g,0,none⟩) ((ans t).length+1) cap) ((ans t).length+1) (rowOf (ans t)++[Value.int .i64 y]))(hg:wr.grownBy W v.ownBlock)(hat:v.ownBlock=some g∨wr.heap.size<=g) :
  QMem w0 bn bl bc ba bp on ol (W.setCell ⟨ba,t,none⟩ (.slice (some ⟨g,0,none⟩) ((ans t).length+1) cap)) M ph (fun s=>if s=t then ans t++[y] else ans s) (vs.setIfInBounds t (.slice (some ⟨g,0,none⟩) ((ans t).length+1) cap)):=by
 obtain⟨n1,n2,n3,n4,n5,n6,n7,n8,n9,n10⟩:=h.ne
 have hoff:∀ b,b∈[bn,bl,bc,ba,bp]->v.ownBlock≠some b:=fun b hb e=>h.rows.off t v b hv e hb
 have kept:∀ {b:Nat} {o:Obj},Blk wr b o->b∈[bn,bl,bc,ba,bp]->Blk W b o:=fun hb hm=>grown_heap hb (hoff _ hm) hg
 have hrows:=h.rows.grow ht hv hown hg hat (fun b hb=>by
  simp only [List.mem_cons,List.not_mem_nil,or_false] at hb
  rcases hb with rfl | rfl | rfl | rfl | rfl
  · exact h.kN.lt
  · exact h.kL.lt
  · exact h.kC.lt
  · exact h.kA.lt
  · exact h.kP.lt)
 have hx:Ext w0 W:=by
  have he:=h.ext
  refine⟨hg.os.trans he.os,hg.tape.trans he.tape,hg.output.trans he.output,Nat.le_trans he.size hg.size,fun k hk=>?_⟩
  refine (hg.block k (Nat.lt_of_lt_of_le hk he.size) fun e=>?_).trans (he.block k hk)
  obtain⟨v',q1,q2⟩:=h.rows.row t ht
  rw [hv] at q1
  injection q1 with q1
  subst q1
  have:=(own_ge q2 e.symm).1
  omega
 exact⟨hx.setCell (p:=⟨ba,t,none⟩) h.ge.2.1 _,blk_ne (kept h.kN (by simp)) n3 _,blk_ne (kept h.kL (by simp)) n6 _,blk_ne (kept h.kC (by simp)) n8 _,heap_setCell (kept h.kA (by simp)) _,blk_ne (kept h.kP (by simp)) (Ne.symm n10) _,hrows.set (by simp) _ _,h.lo,h.ge,h.ne⟩
end
end Go.Proofs.Ytbphlkaihfbgeaa
namespace Kv
end Kv
namespace Go.Proofs.Ytbphlkaihfbgeaa
open Go.RowKit Kv
@[go_sem] theorem build_lock3 (a b c:Int) (w:World):(Instr.build 23 #[(0,.int .i64 a),(1,.int .i64 b),(2,.int .i64 c)]).run Try.prog w=.ok (.agg #[.int .i64 a,.int .i64 b,.int .i64 c,.int .i64 0,.int .i64 0,.int .i64 0]) w:=run_build w 23 _ _ (by kernel_rfl)
@[go_sem] theorem build_acc3 (a b c:Int) (w:World):(Instr.build 54 #[(0,.int .i64 a),(1,.int .i64 b),(2,.int .i64 c)]).run Try.prog w=.ok (.agg #[.int .i64 a,.int .i64 b,.int .i64 c]) w:=run_build w 54 _ _ (by kernel_rfl)
end Go.Proofs.Ytbphlkaihfbgeaa
namespace Kv
def homeM (len n:Nat) (cell:Int):Int:=if 3<=cell/\cell<3+len/\3<=(cell-3) % ((n:Int)+3) then (cell-3) % ((n:Int)+3)-3 else -1
def yOp (D:Nat) (rs:List Reg) (n t ph:Nat):Prog Int:=if ph=2 then (yRel rs n t).bind fun _=>.ret 0 else (yAcq D rs n t).bind fun _=>.ret 0
theorem yOp_eq {D:Nat}{rs:List Reg}{n t ph:Nat}(hy:YNat rs)(hall:YAll rs n)(hn:n<=8)(ht:t<n)(hD:0<D)(hL:0<levels n):EqB D (yOp D rs n t ph) (treeM (yask (levels n) n t) D (ystart (levels n) ph)):=by
 unfold yOp ystart
 by_cases h:ph=2
 · rw [if_pos h,if_pos h]
   have:=yrel_eq (D:=D) hy hall hn ht hD
   rw [if_pos hL] at this
   exact this
 · rw [if_neg h,if_neg h]
   have:=yacq_eq (D:=D) hy hall hn ht hD
   rw [if_pos hL] at this
   exact this
theorem yOp_one {D:Nat}{rs:List Reg}{ph:Nat}:yOp D rs 1 0 ph=.ret 0:=by
 unfold yOp yRel yAcq
 have:pathL 1 0=[]:=by decide +kernel
 rw [this]
 split <;> rfl
end Kv
namespace Go.Proofs.Ytbphlkaihfbgeaa
open Go.RowKit Kv
set_option maxRecDepth 100000 in
set_option maxHeartbeats 1000000 in
theorem yhome_p (n:Nat)(rs:List Reg)(A:Option Addr)(c:Nat)(cell:Int)(w:World)(h1:1<=n)(h8:n<=8)(hlen:rs.length<=77)(hy:YNat rs)
  (hV:Vals w A (rs.flatMap regVals)) :
  Calls Try.prog 52 #[.slice A rs.length c,.int .i64 n,.int .i64 cell] w fun e w'=>e=.returned (.int .i64 (homeM rs.length n cell))/\Ext w w':=by
 have hyh:=Lib.hid hy
 have hVh:=Lib.hid hV
 obtain⟨m,hm⟩:∃ m,rs.length=m:=⟨_,rfl⟩
 have hmh:=Lib.hid hm
 rw [hm] at hlen ⊢
 clear hy hV hm
 go_enter Try.func52,Try.ntmps52
 go_wp2_with fail
 refine (yfine_p n _ h1 h8).mono ?_
 rintro e w2 ⟨rfl,rfl⟩
 go_wp2_with fail
 go_loopw [15] (fun a15 wr=>∃ j:Nat,a15=.int .i64 j/\j<=m/\Ext w wr/\Hid (∀ i:Nat,i<j->¬ (3+(i:Int)=cell/\3<=i % (n+3)))) (fun a15 _=>m-(intOf a15).toNat)
 case atStart=>exact⟨0,rfl,by omega,Ext.refl w,Lib.hid fun i hi=>absurd hi (by omega)⟩
 case round =>
  obtain⟨j,rfl,hj,hE,hno⟩:=hrel
  by_cases hjm:j<m
  · have dj:decide ((j:Int)<(m:Int))=true:=by rw [decide_eq_true_eq];omega
    have dj2:decide (j<m)=true:=by rw [decide_eq_true_eq];omega
    obtain⟨r,hr⟩:∃ r,rs[j]?=some r:=⟨_,List.getElem?_eq_getElem (by rw [hmh.out];exact hjm)⟩
    obtain⟨hk,hbase⟩:=hyh.out j r hr
    obtain⟨b,rfl,hb,a0,a1,a2,a3,a4,a5,a6⟩:=reg_at (hVh.out.ext hE) hr
    obtain⟨q,hq⟩:∃ q:Nat,j % (n+3)=q:=⟨_,rfl⟩
    have hq8:q<n+3:=by rw [<- hq];exact Nat.mod_lt _ (by omega)
    have hn3:=IntWalk.i64_in ((n:Int)+3) (by omega)
    have hz3:¬ n+3=0:=by omega
    have hz4:¬ (n:Int)+3=0:=by omega
    have htm:(j:Int).tmod ((n:Int)+3)=(q:Int):=by
     rw [Int.tmod_eq_emod_of_nonneg (by omega),<- hq,Int.natCast_emod]
     rfl
    have hwq:=IntWalk.i64_in ((q:Int)-3) (by omega)
    have hqh:=Lib.hid hq
    by_cases hcell:3+(j:Int)=cell/\3<=q
    · have dc:(r.base==cell)=true:=by rw [beq_iff_eq,hbase];exact hcell.1
      have dq:decide ((0:Int)<=(q:Int)-3)=true:=by rw [decide_eq_true_eq];omega
      have dq2:decide (3<=q)=true:=by rw [decide_eq_true_eq];omega
      have dq3:decide ((3:Int)<=(q:Int))=true:=by rw [decide_eq_true_eq];omega
      have hres:homeM m n cell=(q:Int)-3:=by
       unfold homeM
       rw [show cell-3=(j:Int) from by omega,show (j:Int) % ((n:Int)+3)=(q:Int) from by rw [<- hq,Int.natCast_emod];rfl,if_pos (by omega)]
      have hresh:=Lib.hid hres
      have hEx:=hE.alloc (.cells #[.int .i64 r.kind,.int .i64 r.base,.int .i64 r.loc,.int .i64 r.n,.int .i64 r.wr,.int .i64 r.rd,.int .i64 r.top] 56)
      clear hcell hq hres hbase hk hno hE
      go_wp2_with fail
      go_ret
      exact⟨by rw [hresh.out];rfl,hEx⟩
    · have hno2:Hid (∀ i:Nat,i<j+1->¬ (3+(i:Int)=cell/\3<=i % (n+3))):=Lib.hid fun i hi=>by
       by_cases e:i=j
       · rw [e,hq];exact hcell
       · exact hno.out i (by omega)
      have hEx:=hE.alloc (.cells #[.int .i64 r.kind,.int .i64 r.base,.int .i64 r.loc,.int .i64 r.n,.int .i64 r.wr,.int .i64 r.rd,.int .i64 r.top] 56)
      by_cases hcb:3+(j:Int)=cell
      · have dc:(r.base==cell)=true:=by rw [beq_iff_eq,hbase];exact hcb
        have dq:decide ((0:Int)<=(q:Int)-3)=false:=by rw [decide_eq_false_iff_not];omega
        have dq2:decide (3<=q)=false:=by rw [decide_eq_false_iff_not];omega
        have dq3:decide ((3:Int)<=(q:Int))=false:=by rw [decide_eq_false_iff_not];omega
        clear hcell hq hbase hk hno hE hcb
        go_wp2_with fail
        refine⟨⟨j+1,by first | rfl | go_num,by omega,hEx,hno2⟩,?_⟩
        simp [intOf];omega
      · have dc:(r.base==cell)=false:=by rw [beq_eq_false_iff_ne,hbase];exact hcb
        clear hcell hq hbase hk hno hE hcb
        go_wp2_with fail
        refine⟨⟨j+1,by first | rfl | go_num,by omega,hEx,hno2⟩,?_⟩
        simp [intOf];omega
  · obtain rfl:j=m:=by omega
    have dj:decide ((j:Int)<(j:Int))=false:=by rw [decide_eq_false_iff_not];omega
    have hres:homeM j n cell=-1:=by
     unfold homeM
     rw [if_neg]
     rintro ⟨z1,z2,z3⟩
     have:=hno.out (cell-3).toNat (by omega)
     refine this ⟨by omega,?_⟩
     have:((((cell-3).toNat % (n+3):Nat)):Int)=(cell-3) % ((n:Int)+3):=by
      rw [Int.natCast_emod,Int.toNat_of_nonneg (by omega)]
      rfl
     omega
    have hresh:=Lib.hid hres
    clear hno hres
    go_wp2_with fail
    go_ret
    exact⟨by rw [hresh.out];rfl,hE⟩
set_option maxRecDepth 100000 in
theorem yal1 (B p:Nat)(S:TS)(b c bl:Nat)(rs:List Reg)(w:World)(h:Plays B w p S)(hl:RegsAt [2,3,4] w p b rs)(he:YAll rs 2)(hlen:rs.length=5)(hc1:5<=c)(hc2:c<=9223372036854775807)(hta:TameA S)(hD:S.left<6)
  (c1:w.cell? ⟨bl,0,none⟩=some (.slice (some ⟨b,0,none⟩) 5 c)) :
  Calls Try.prog 121 #[.pointer (some ⟨p,0,none⟩),.pointer (some ⟨bl,0,none⟩)] w (Post encI B p w ((yOp 6 rs 2 1 0).run S)):=by
 have hq:=yacq_p B p 2 1 6 S rs (some ⟨b,0,none⟩) c w h (by decide) (by decide) (by decide) he (by omega) hc2 (fun _=>⟨b,rfl,hl⟩) hta hD
 rw [hlen] at hq
 generalize hR:Post encI B p w ((yOp 6 rs 2 1 0).run S)=R
 have hO:Owes R encI B p w ((yOp 6 rs 2 1 0).run S):=hR▸owes _ _ _ _ _
 clear hR
 replace hO:Owes R encI B p w (((yAcq 6 rs 2 1).bind fun _=>Prog.ret (0:Int)).run S):=hO
 have hK:=Keep.refl [2,3,4] B p w
 go_enter Try.func121,Try.ntmps121
 go_wp2_with fail
 clear c1
 refine tstep hO hK hq (fun _ h=>⟨rfl,h⟩) ?_
 intro v S1 w1 hr hP1 hk1 hK1 hO1
 have hf:=hO1.done (v:=0) hP1 hK1
 clear hO1 hP1 hK1 hr hk1 hO h hK hq hl
 go_wp2_with fail
 first | exact hf | (go_ret;exact hf)
set_option maxRecDepth 100000 in
theorem yal2 (B p:Nat)(S:TS)(b c bl:Nat)(rs:List Reg)(w:World)(h:Plays B w p S)(hl:RegsAt [2,3,4] w p b rs)(he:YAll rs 2)(hlen:rs.length=5)(hc1:5<=c)(hc2:c<=9223372036854775807)(hta:TameA S)(hD:S.left<6)
  (c1:w.cell? ⟨bl,0,none⟩=some (.slice (some ⟨b,0,none⟩) 5 c)) :
  Calls Try.prog 122 #[.pointer (some ⟨p,0,none⟩),.pointer (some ⟨bl,0,none⟩)] w (Post encI B p w ((yOp 6 rs 2 1 2).run S)):=by
 have hq:=yrel_p B p 2 1 6 S rs (some ⟨b,0,none⟩) c w h (by decide) (by decide) (by decide) he (by omega) hc2 (fun _=>⟨b,rfl,hl⟩) hta hD
 rw [hlen] at hq
 generalize hR:Post encI B p w ((yOp 6 rs 2 1 2).run S)=R
 have hO:Owes R encI B p w ((yOp 6 rs 2 1 2).run S):=hR▸owes _ _ _ _ _
 clear hR
 replace hO:Owes R encI B p w (((yRel rs 2 1).bind fun _=>Prog.ret (0:Int)).run S):=hO
 have hK:=Keep.refl [2,3,4] B p w
 go_enter Try.func122,Try.ntmps122
 go_wp2_with fail
 clear c1
 refine tstep hO hK hq (fun _ h=>⟨rfl,h⟩) ?_
 intro v S1 w1 hr hP1 hk1 hK1 hO1
 have hf:=hO1.done (v:=0) hP1 hK1
 clear hO1 hP1 hK1 hr hk1 hO h hK hq hl
 go_wp2_with fail
 first | exact hf | (go_ret;exact hf)
set_option maxRecDepth 100000 in
theorem yangcl (B p n t ph D:Nat)(S:TS)(A:Option Addr)(c bl bn bt bp:Nat)(rs:List Reg)(w:World)(h:Plays B w p S)(hl:rs≠[]->∃ b,A=some ⟨b,0,none⟩/\RegsAt [2,3,4] w p b rs)(he:YAll rs n)(h1:1<=n)(h4:n<=4)(ht:t<n)(hc1:rs.length<=c)(hc2:c<=9223372036854775807)(hta:TameA S)(hD:S.left<D)
  (c1:w.cell? ⟨bl,0,none⟩=some (.slice A rs.length c))(c2:w.cell? ⟨bn,0,none⟩=some (.int .i64 n))(c3:w.cell? ⟨bt,0,none⟩=some (.int .i64 t))(c4:w.cell? ⟨bp,t,none⟩=some (.int .i64 ph)) :
  Calls Try.prog 53 #[.pointer (some ⟨p,0,none⟩),.pointer (some ⟨bp,0,none⟩),.pointer (some ⟨bt,0,none⟩),.pointer (some ⟨bl,0,none⟩),.pointer (some ⟨bn,0,none⟩)] w (Post encI B p w ((yOp D rs n t ph).run S)):=by
 have hq1:=yrel_p B p n t D S rs A c w h h1 (by omega) ht he hc1 hc2 hl hta hD
 have hq2:=yacq_p B p n t D S rs A c w h h1 (by omega) ht he hc1 hc2 hl hta hD
 obtain⟨m,hm⟩:∃ m,rs.length=m:=⟨_,rfl⟩
 rw [hm] at hq1 hq2 c1
 clear hm hc1 he hl
 generalize hR:Post encI B p w ((yOp D rs n t ph).run S)=R
 have hO:Owes R encI B p w ((yOp D rs n t ph).run S):=hR▸owes _ _ _ _ _
 clear hR
 have hK:=Keep.refl [2,3,4] B p w
 have ht4:(t:Int)<4:=by omega
 by_cases hp:ph=2
 · subst hp
   replace hO:Owes R encI B p w (((yRel rs n t).bind fun _=>Prog.ret (0:Int)).run S):=hO
   clear hq2
   go_enter Try.func53,Try.ntmps53
   go_wp2_with fail
   clear c1 c2 c3 c4
   refine tstep hO hK hq1 (fun _ h=>⟨rfl,h⟩) ?_
   intro v S1 w1 hr hP1 hk1 hK1 hO1
   have hf:=hO1.done (v:=0) hP1 hK1
   clear hO1 hP1 hK1 hr hk1 hO h hK hq1
   go_wp2_with fail
   first | exact hf | (go_ret;exact hf)
 · have dp:((ph:Int)==2)=false:=by rw [beq_eq_false_iff_ne];omega
   replace hO:Owes R encI B p w (((yAcq D rs n t).bind fun _=>Prog.ret (0:Int)).run S):=by
    unfold yOp at hO
    rw [if_neg hp] at hO
    exact hO
   clear hp hq1
   go_enter Try.func53,Try.ntmps53
   go_wp2_with fail
   clear c1 c2 c3 c4
   refine tstep hO hK hq2 (fun _ h=>⟨rfl,h⟩) ?_
   intro v S1 w1 hr hP1 hk1 hK1 hO1
   have hf:=hO1.done (v:=0) hP1 hK1
   clear hO1 hP1 hK1 hr hk1 hO h hK hq2
   go_wp2_with fail
   first | exact hf | (go_ret;exact hf)
theorem tame_list {l:List Int}(h:∀ v∈l,0<=v/\v<=1048576):TameA (TS0 [] l):=h
set_option maxRecDepth 100000 in
set_option maxHeartbeats 1000000 in
theorem alive47 (w:World):Calls Try.prog 47 #[] w fun e w'=>e=.returned (.bool true)/\Ext w w':=by
 have hmf:∀ (fn:Fn) (first cap:Array Value) (w:World),(Instr.makeFunc fn first cap).run Try.prog w=.ok (.func fn first cap) w:=fun _ _ _ _=>rfl
 go_enter Try.func47,Try.ntmps47
 go_wp2_with fail
 refine (yallw_p 2 w (by decide) (by decide)).mono ?_
 rintro e w1 ⟨v1,rfl,hW,hX⟩
 have hSm:=yang_some 2 v1 w1 hW (by decide) (by decide)
 obtain⟨Aw,cw,rfl,_,_,_⟩:=hW
 go_wp2_with fail
 refine hSm.mono ?_
 rintro e w2 ⟨A,c,rs,rfl,he,hy,hc1,hc2,hx2,hreg⟩
 have hlen:rs.length=5:=by rw [he.len];decide +kernel
 obtain⟨b,rfl,-,hb,hc⟩:=hreg (by rintro rfl;simp at hlen)
 rw [hlen] at hc1 ⊢
 replace hX:=hX.trans hx2
 clear hSm hx2 hreg
 go_upto_region 4 with fail
 have g1:=Blk.new w2 (.cells #[.slice (some ⟨b,0,none⟩) 5 c] 44)
 have x1:=(Ext.refl w2).alloc (.cells #[.slice (some ⟨b,0,none⟩) 5 c] 44)
 have hA:=ints_new (w2.alloc (.cells #[.slice (some ⟨b,0,none⟩) 5 c] 44)) [0,0,0,0] (by simp)
 have x3:=(Ext.refl (w2.alloc (.cells #[.slice (some ⟨b,0,none⟩) 5 c] 44))).alloc (.cells (([0,0,0,0]:List Int).map (Value.int .i64)).toArray 3)
 have c_g1:=g1.cells
 have hmk:=make_ints 4 4 rfl (by decide) (w2.alloc (.cells #[.slice (some ⟨b,0,none⟩) 5 c] 44))
 replace g1:=g1.ext x3
 replace x1:=x1.trans x3
 simp only [World.size_alloc,zeros,List.replicate,List.map_cons,List.map_nil,List.length_cons,List.length_nil] at hA g1 x1 x3 hmk
 clear x3
 go_wp2_with fail
 have hsz:w2.heap.size+1<(World.alloc (World.alloc w2 (.cells #[.slice (some ⟨b,0,none⟩) 5 c] 44)) (.cells #[.int .i64 0,.int .i64 0,.int .i64 0,.int .i64 0] 3)).heap.size:=by simp
 clear hmk c_g1
 generalize World.alloc (World.alloc w2 _) _=W0 at *
 have hL2:levels ((2:Nat):Int)=1:=by decide +kernel
 have r1:(yOp 6 rs 2 1 0).run (TS0 [] [0,0,0,0])=(treeM (yask 1 2 1) 6 (some (0,.out))).run (TS0 [] [0,0,0,0]):=by
  have:=yOp_eq (D:=6) (ph:=0) hy he (by decide) (show 1<2 by decide) (by decide) (by rw [hL2];decide) (TS0 [] [0,0,0,0]) (by decide)
  rw [hL2] at this
  exact this
 have r2:(yOp 6 rs 2 1 2).run (TS0 [] [0,2])=(treeM (yask 1 2 1) 6 (some (0,.inn))).run (TS0 [] [0,2]):=by
  have:=yOp_eq (D:=6) (ph:=2) hy he (by decide) (show 1<2 by decide) (by decide) (by rw [hL2];decide) (TS0 [] [0,2]) (by decide)
  rw [hL2] at this
  exact this
 have hP1:=play_int 121 #[.pointer (some ⟨w2.heap.size,0,none⟩)] (yOp 6 rs 2 1 0) none 0 [] (some ⟨w2.heap.size+1,0,none⟩) 4 [0,0,0,0] W0 (Ints.nil _) (by simp) hA (by decide) (fun k hk=>by simp only [Value.ownBlock,Option.some.injEq] at hk;omega) (fun _ _=>rfl) (fun W p hxW hP=>yal1 _ p _ b c w2.heap.size rs W hP (regsP hb hc (x1.trans hxW) hP x1.size) he hlen hc1 hc2 (tame_list (by decide)) (by decide) ((g1.ext hxW).cells 0))
 rw [r1] at hP1
 refine hP1.mono ?_
 clear hP1 r1
 rintro e y1 ⟨v1,rfl,hO,hx1⟩
 have e1:((treeM (yask 1 2 1) 6 (some (0,.out))).run (TS0 [] [0,0,0,0])).1=some 0:=by kernel_rfl
 have e2:((treeM (yask 1 2 1) 6 (some (0,.out))).run (TS0 [] [0,0,0,0])).2.acc.length=4:=by kernel_rfl
 have e3:((treeM (yask 1 2 1) 6 (some (0,.out))).run (TS0 [] [0,0,0,0])).2.acc[2]?=some ⟨2,7,0⟩:=by kernel_rfl
 rw [e1] at hO ⊢
 generalize ((treeM (yask 1 2 1) 6 (some (0,.out))).run (TS0 [] [0,0,0,0])).2=S1 at *
 obtain⟨A1,c1,A1',c1',vs1,L1,rfl,hO⟩:=hO
 obtain⟨As1,k1,hvs1,_,_⟩:=hO.locs.slice
 subst hvs1
 obtain⟨u1,rfl,hu1,z10,z11,z12⟩:=hO.accs.at_ e3
 simp only [Nat.reduceMul,Nat.reduceAdd] at z10 z11 z12
 unfold outV
 rw [e2] at *
 simp only [Option.getD_some,Option.isSome_some]
 replace g1:=g1.ext hx1
 replace x1:=x1.trans hx1
 generalize (shortL L1).length=n1 at *
 clear e1 e2 e3 hO hA hsz hx1
 have o1:=(Ext.refl y1).alloc (.cells #[.bool true,.slice (some ⟨u1,0,none⟩) 4 c1,.slice A1' S1.nts.length c1',.slice As1 n1 k1] 30)
 have g3:=Blk.new y1 (.cells #[.bool true,.slice (some ⟨u1,0,none⟩) 4 c1,.slice A1' S1.nts.length c1',.slice As1 n1 k1] 30)
 go_upto_region 5 with fail
 have hA:=ints_new (y1.alloc (.cells #[.bool true,.slice (some ⟨u1,0,none⟩) 4 c1,.slice A1' S1.nts.length c1',.slice As1 n1 k1] 30)) [0,2] (by simp)
 have x3:=(Ext.refl (y1.alloc (.cells #[.bool true,.slice (some ⟨u1,0,none⟩) 4 c1,.slice A1' S1.nts.length c1',.slice As1 n1 k1] 30))).alloc (.cells (([0,2]:List Int).map (Value.int .i64)).toArray 3)
 replace g3:=g3.ext x3
 replace o1:=o1.trans x3
 replace g1:=g1.ext o1
 replace x1:=x1.trans o1
 replace z10:=(o1.cell (p:=⟨u1,6,none⟩) hu1).trans z10
 replace z11:=(o1.cell (p:=⟨u1,7,none⟩) hu1).trans z11
 replace z12:=(o1.cell (p:=⟨u1,8,none⟩) hu1).trans z12
 simp only [World.size_alloc,List.map_cons,List.map_nil,List.length_cons,List.length_nil] at hA g3 g1 x1 z10 z11 z12 o1
 have hu1':=Nat.lt_of_lt_of_le hu1 o1.size
 have hsz:y1.heap.size+1<(World.alloc (World.alloc y1 (.cells #[.bool true,.slice (some ⟨u1,0,none⟩) 4 c1,.slice A1' S1.nts.length c1',.slice As1 n1 k1] 30)) (.cells #[.int .i64 0,.int .i64 2] 3)).heap.size:=by simp
 have c_g1:=g1.cells
 clear x3 hu1 o1
 go_wp2_with fail
 generalize World.alloc (World.alloc y1 _) _=W1 at *
 have hP2:=play_int 122 #[.pointer (some ⟨w2.heap.size,0,none⟩)] (yOp 6 rs 2 1 2) none 0 [] (some ⟨y1.heap.size+1,0,none⟩) 2 [0,2] W1 (Ints.nil _) (by simp) hA (by decide) (fun k hk=>by simp only [Value.ownBlock,Option.some.injEq] at hk;omega) (fun _ _=>rfl) (fun W p hxW hP=>yal2 _ p _ b c w2.heap.size rs W hP (regsP hb hc (x1.trans hxW) hP x1.size) he hlen hc1 hc2 (tame_list (by decide)) (by decide) ((g1.ext hxW).cells 0))
 rw [r2] at hP2
 refine hP2.mono ?_
 clear hP2 r2
 rintro e y2 ⟨v2,rfl,hO,hx2⟩
 have e1:((treeM (yask 1 2 1) 6 (some (0,.inn))).run (TS0 [] [0,2])).1=some 0:=by kernel_rfl
 have e2:((treeM (yask 1 2 1) 6 (some (0,.inn))).run (TS0 [] [0,2])).2.acc.length=2:=by kernel_rfl
 rw [e1] at hO ⊢
 generalize ((treeM (yask 1 2 1) 6 (some (0,.inn))).run (TS0 [] [0,2])).2=S2 at *
 obtain⟨A2,d2,A2',d2',As2,k2,n2,rfl⟩:=hO.parts
 rw [e2] at *
 simp only [Option.getD_some,Option.isSome_some]
 have s2:=(Ext.refl y2).alloc (.cells #[.bool true,.slice A2 2 d2,.slice A2' S2.nts.length d2',.slice As2 n2 k2] 30)
 have m2:=Blk.new y2 (.cells #[.bool true,.slice A2 2 d2,.slice A2' S2.nts.length d2',.slice As2 n2 k2] 30)
 replace s2:=hx2.trans s2
 replace g1:=g1.ext s2
 replace g3:=g3.ext s2
 replace x1:=x1.trans s2
 replace z10:=(s2.cell (p:=⟨u1,6,none⟩) hu1').trans z10
 replace z11:=(s2.cell (p:=⟨u1,7,none⟩) hu1').trans z11
 replace z12:=(s2.cell (p:=⟨u1,8,none⟩) hu1').trans z12
 clear e1 e2 hO hx2 hA hsz s2 hu1' c_g1
 have hV:Vals w2 (some ⟨b,0,none⟩) (rs.flatMap regVals):=fun _=>⟨b,rfl,hb,hc⟩
 have hm:=fun (cell:Int) W (hx:Ext w2 W)=>yhome_p 2 rs (some ⟨b,0,none⟩) c cell W (by decide) (by decide) (by omega) hy (hV.ext hx)
 rw [hlen] at hm
 have hmh:=Lib.hid hm
 have hXh:=Lib.hid hX
 clear hm hV hc he hy hlen hX
 have hXh2:=Lib.hid (hXh.out.trans x1)
 have hx1h:=Lib.hid x1
 clear x1
 go_upto_region 6 with fail
 generalize World.alloc y2 _=W2 at *
 have c_g1:=g1.cells
 have c_g3:=g3.cells
 have c_m2:=m2.cells
 clear g1 g3 m2
 go_wp2_with fail
 refine (hmh.out 7 _ hx1h.out).mono ?_
 rintro e w5 ⟨rfl,hx⟩
 rw [show homeM 5 2 7=1 from by decide]
 have c_g1':w5.cell? ⟨w2.heap.size,0,none⟩=some (.slice (some ⟨b,0,none⟩) 5 c):=(hx.cell (p:=⟨w2.heap.size,0,none⟩) (cell_lt (c_g1 0))).trans (c_g1 0)
 have hx1i:=Lib.hid (hx1h.out.trans hx)
 clear c_g1 c_g3 c_m2 hx1h z10 z11 z12 hx
 go_wp2_with fail
 refine (hmh.out 3 _ hx1i.out).mono ?_
 rintro e w6 ⟨rfl,hx⟩
 rw [show homeM 5 2 3=-1 from by decide]
 have hx1j:=Lib.hid (hx1i.out.trans hx)
 clear hx hx1i c_g1'
 go_wp2_with fail
 refine (ywants_0 _).mono ?_
 rintro e w7 ⟨rfl,hx⟩
 have hf:=Lib.hid (hXh.out.trans (hx1j.out.trans hx))
 clear hx hx1j hmf hmh
 go_wp2_with fail
 go_ret
 exact⟨rfl,hf.out⟩
structure YOne (m D j:Nat) (ph:Nat->Nat) (M:List Int) (ans:Nat->List Int):Prop where
 len:M.length=(2 ^ levels m-1)*(m+3)+3
 small:∀ t,t<m->ph t<=2/\(ans t).length<=j
 bd:YBd M ans
 inv:(m=1/\ans 0=[])∨(1<=levels m/\m<=2 ^ levels m/\∃ pl G,YInv (levels m) m D j ph pl G M ans)
section
variable {m D j:Nat} {ph:Nat->Nat} {M:List Int} {ans:Nat->List Int}
theorem ylev {m:Nat}(h1:1<=m)(h8:m<=8):m=1∨(1<=levels m/\m<=2 ^ levels m):=by
 have:∀ m:Nat,m<9->1<=m->m=1∨(1<=levels m/\m<=2 ^ levels m):=by decide +kernel
 exact this m (by omega) h1
theorem YOne.start (m D:Nat)(h1:1<=m)(h8:m<=8)(hD:0<D)(L:List Int)(hl:L=List.replicate ((2 ^ levels m-1)*(m+3)+3) 0):YOne m D 0 (fun _=>0) L (fun _=>[]):=by
 subst hl
 refine⟨by simp,fun _ _=>⟨by decide,by simp⟩,⟨fun v hv=>?_,fun _ v hv=>by cases hv⟩,?_⟩
 · have:=List.eq_of_mem_replicate hv
   omega
 · rcases ylev h1 h8 with h | ⟨h2,h3⟩
   · exact .inl ⟨h,rfl⟩
   · refine .inr ⟨h2,h3,fun _=>(0,.out),fun _ _=>0,?_⟩
     rw [show (2 ^ levels m-1)*(m+3)+3=3+(2 ^ levels m-1)*(m+3) from Nat.add_comm _ _]
     exact YInv.start _ m D 0 h2 hD
theorem YOne.begin2 (h:YOne m D j ph M ans)(hD:0<D){t:Nat}(ht:t<m)(h1:ph t=1):YOne m D j (putN ph t 2) M ans:=by
 refine⟨h.len,fun s hs=>⟨?_,(h.small s hs).2⟩,h.bd,?_⟩
 · by_cases e:s=t
   · rw [e,putN_self];decide
   · rw [putN_ne e];exact (h.small s hs).1
 · rcases h.inv with q | ⟨q1,q2,pl,G,q⟩
   · exact .inl q
   · exact .inr ⟨q1,q2,pl,G,q.begin2 hD ht h1⟩
theorem YOne.alone (h:YOne m D j ph M ans){t s:Nat}(ht:t<m)(hs:s<m)(hne:t≠s):¬ (ph t=1/\ph s=1):=by
 rcases h.inv with⟨q,_⟩ | ⟨q1,q2,pl,G,q⟩
 · omega
 · exact q.alone q2 q1 ht hs hne
theorem YOne.tame (h:YOne m D j ph M ans)(t:Nat):TameA (TS0 [] (ans t)):=fun v hv=>by
 have:=h.bd.2 t v hv
 omega
theorem YOne.pick {rs:List Reg}(h:YOne m D j ph M ans)(hy:YNat rs)(hall:YAll rs m)(h8:m<=8){t:Nat}(ht:t<m)(h1:ph t≠1)(hj:j+1<D) :
  (∃ S2,(yOp D rs m t (ph t)).run (TS0 [] (ans t))=(some 0,S2)/\YOne m D (j+1) (putN ph t ((ph t+1) % 3)) M (fun s=>if s=t then [] else ans s)) ∨
  (∃ (kind:Int) (i:Nat) (u y:Int) (M':List Int) (S1:TS) (l:List Acc),
    (yOp D rs m t (ph t)).run (TS0 [] (ans t))=(none,S1)/\S1.acc=l++[⟨kind,i,u⟩]/\l.length=(ans t).length/\i<M.length /\
    (kind=1/\M'=M∨kind=2/\M'=M.set i u)/\M'[i]?=some y/\(0<=y/\y<=100) /\
    ∃ S2 rv dn,(yOp D rs m t (ph t)).run (TS0 [] (ans t++[y]))=(rv,S2)/\rv.isSome=dn /\
     ((dn=false/\YOne m D (j+1) ph M' (fun s=>if s=t then ans t++[y] else ans s))∨(dn=true/\YOne m D (j+1) (putN ph t ((ph t+1) % 3)) M' (fun s=>if s=t then [] else ans s)))):=by
 have hsm:=h.small t ht
 have small2:∀ s,s<m->putN ph t ((ph t+1) % 3) s<=2/\(if s=t then ([]:List Int) else ans s).length<=j+1:=fun s hs=>by
  by_cases e:s=t
  · rw [e,putN_self,if_pos rfl]
    exact⟨by omega,by simp⟩
  · rw [putN_ne e,if_neg e]
    have:=h.small s hs
    omega
 rcases h.inv with⟨rfl,q0⟩ | ⟨q1,q2,pl,G,q⟩
 · obtain rfl:t=0:=by omega
   refine .inl ⟨_,by rw [yOp_one];rfl,h.len,small2,⟨h.bd.1,fun s v hv=>?_⟩,.inl ⟨rfl,rfl⟩⟩
   dsimp only at hv
   by_cases e:s=0
   · rw [if_pos e] at hv;cases hv
   · rw [if_neg e] at hv;exact h.bd.2 s v hv
 · obtain⟨kind,i,u,y,M',S1,l,r1,r2,r3,r4,r5,r6,r7,ph',pl',G',S2,r8,r9⟩:=q.pick q2 ht h1 hj
   obtain⟨p1,p2,_⟩:=q.pos t ht
   have heq:=fun (a:List Int) (ha:a.length<D)=>yOp_eq (D:=D) (ph:=ph t) hy hall h8 ht (by omega) q1 (TS0 [] a) (by unfold TS.left TS0;simpa using ha)
   obtain⟨b1,b2⟩:=h.bd.pick ⟨r5.1,by omega⟩ r6 r7
   have hlen:M'.length=M.length:=by
    rcases r6 with⟨_,rfl⟩ | ⟨_,rfl⟩
    · rfl
    · rw [List.length_set]
   refine .inr ⟨kind,i,u,y,M',S1,l,by rw [heq _ (by omega)];exact r1,r2,r3,r4,r6,r7,b2,?_⟩
   rcases r9 with⟨s1,s2,s3⟩ | ⟨s1,s2,s3⟩
   · have hph:ph'=ph:=funext fun s=>by
      by_cases e:s=t
      · rw [e];exact s2
      · exact r8 s e
     rw [hph] at s3
     refine⟨S2,none,false,by rw [heq _ (by simp;omega)];exact s1,rfl,.inl ⟨rfl,by rw [hlen];exact h.len,fun s hs=>?_,⟨b1,fun s v hv=>?_⟩,.inr ⟨q1,q2,pl',G',s3⟩⟩⟩
     · by_cases e:s=t
       · rw [if_pos e,e]
         exact⟨hsm.1,by simp;omega⟩
       · rw [if_neg e]
         have:=h.small s hs
         omega
     · dsimp only at hv
       by_cases e:s=t
       · rw [if_pos e] at hv
         rcases List.mem_append.1 hv with hv | hv
         · exact h.bd.2 t v hv
         · obtain rfl:v=y:=by simpa using hv
           exact b2
       · rw [if_neg e] at hv
         exact h.bd.2 s v hv
   · have hph:ph'=putN ph t ((ph t+1) % 3):=funext fun s=>by
      by_cases e:s=t
      · rw [e,putN_self];exact s2
      · rw [putN_ne e];exact r8 s e
     rw [hph] at s3
     refine⟨S2,some 0,true,by rw [heq _ (by simp;omega)];exact s1,rfl,.inr ⟨rfl,by rw [hlen];exact h.len,small2,⟨b1,fun s v hv=>?_⟩,.inr ⟨q1,q2,pl',G',s3⟩⟩⟩
     dsimp only at hv
     by_cases e:s=t
     · rw [if_pos e] at hv;cases hv
     · rw [if_neg e] at hv
       exact h.bd.2 s v hv
end
end Go.Proofs.Ytbphlkaihfbgeaa
namespace Go.Proofs.Ytbphlkaihfbgeaa
open Go.ChangeShapes Go.WideShapes Go.ChangeAt Go.RowKit Kv
def U8s (w:World) (v:Value) (l:List Int):Prop :=
 ∃ A c,v=.slice A l.length c/\l.length<=c/\c<=9223372036854775807/\(l≠[]->∃ b off,A=some ⟨b,off,none⟩/\b<w.heap.size/\∀ i x,l[i]?=some x->w.cell? ⟨b,off+i,none⟩=some (.int .u8 x))
theorem U8s.ext {w w':World}{v:Value}{l:List Int}(h:U8s w v l)(hx:Ext w w'):U8s w' v l:=by
 obtain⟨A,c,rfl,h1,h2,h3⟩:=h
 refine⟨A,c,rfl,h1,h2,fun hl=>?_⟩
 obtain⟨b,off,rfl,hb,hc⟩:=h3 hl
 exact⟨b,off,rfl,Nat.lt_of_lt_of_le hb (Ext.size hx),fun i x hi=>(Ext.cell hx (p:=⟨b,off+i,none⟩) hb).trans (hc i x hi)⟩
theorem U8s.at_ {w:World}{A:Option Addr}{n c:Nat}{l:List Int}(h:U8s w (.slice A n c) l){i:Nat}{x:Int}(hi:l[i]?=some x) :
  ∃ b off,A=some ⟨b,off,none⟩/\b<w.heap.size/\w.cell? ⟨b,off+i,none⟩=some (.int .u8 x):=by
 obtain⟨A',c',he,h1,h2,h3⟩:=h
 injection he with e1 e2 e3
 subst e1 e2 e3
 have hl:l≠[]:=by rintro rfl;simp at hi
 obtain⟨b,off,rfl,hb,hc⟩:=h3 hl
 exact⟨b,off,rfl,hb,hc i x hi⟩
theorem cellsByte:Try.prog.cellsOf 5=1:=by kernel_rfl
set_option maxRecDepth 100000 in
theorem bytes_arg {H:Type}{enc:TypeId × Value->H}{W:World}{b0:Nat}{r:Reach}{v:Value}{d:DataW H}{p:List MemPlace}
  (hv:Value.okWide Try.prog W r b0 43 v)(h:DataW.Trod enc Try.prog W 0 (fun _=>true) true 43 v d p) :
  ∃ l,U8s W v l/\∀ x∈l,0<=x/\x<256:=by
 obtain⟨a0,len,cap,rfl⟩:=okWide_slice Try.underlying43 hv
 obtain⟨fuel,hf⟩:=h
 rcases open_ints Try.underlying43 Try.underlying5 cellsByte hf with⟨hcs,hx⟩ | ⟨a,len',cap',zs,hcs,_,hl,hm,hz,hx,hcell,hwz⟩
 · simp [Value.cells] at hcs
   obtain⟨rfl,rfl,rfl⟩:=hcs
   exact⟨[],⟨none,0,rfl,by simp,by omega,fun h=>absurd rfl h⟩,by simp⟩
 · simp [Value.cells] at hcs
   obtain⟨rfl,rfl,rfl⟩:=hcs
   simp only [if_true] at hz
   refine⟨zs.take len,?_,fun x hx=>by have:=bounds_u8 (hwz x (List.mem_of_mem_take hx));omega⟩
   have hlen:(zs.take len).length=len:=by rw [List.length_take];omega
   refine⟨some a,cap,by rw [hlen],by omega,by unfold maxLen at hm;exact hm,fun hne=>?_⟩
   have hpos:0<zs.length:=by
    rcases Nat.eq_zero_or_pos zs.length with h0 | h0
    · have:zs=[]:=List.eq_nil_of_length_eq_zero h0
      subst this
      simp at hne
    · exact h0
   obtain⟨b,off,rfl,hc⟩:=ints_at hcell hpos
   refine⟨b,off,rfl,cell_lt (hc 0 hpos),fun i x hi=>?_⟩
   have hi2:i<zs.length:=by
    have:=(List.getElem?_eq_some_iff.1 hi).1
    rw [List.length_take] at this
    omega
   rw [hc i hi2]
   have hi3:i<len:=by
    have:=(List.getElem?_eq_some_iff.1 hi).1
    omega
   rw [List.getElem?_take,if_pos hi3] at hi
   rw [List.getD_eq_getElem?_getD,hi]
   rfl
end Go.Proofs.Ytbphlkaihfbgeaa
