/-
  YangRemote holds: on native cells whoever acquires and releases has at most ten accesses for each level of cells that are not one's own, whatever they are answered, without conditions.
-/
import Derived.Test.YtbphlkaihfbgeaaJYangRemoteSaid4
import Derived.Laws.CopyOwn
import Derived.Laws.CopyRow
import Derived.Laws.MakeOwn
import Derived.Deep.RegionLaw
import Derived.Deep.DeepCutAuto
import Derived.Deep.RegionHeld2
namespace Kv
def rep {α:Type} (k:Nat) (l:List α):List α:=(List.replicate k l).flatten
theorem rep_len {α:Type}(k:Nat)(l:List α):(rep k l).length=k*l.length:=by
 unfold rep
 induction k with
 | zero=>simp
 | succ k ih=>rw [List.replicate_succ,List.flatten_cons,List.length_append,ih,Nat.succ_mul,Nat.add_comm]
theorem rep_add {α:Type}(a b:Nat)(l:List α):rep (a+b) l=rep a l++rep b l:=by
 unfold rep
 rw [<- List.replicate_append_replicate,List.flatten_append]
theorem rep_flatMap {α β:Type}(f:α->List β)(k:Nat)(l:List α):(rep k l).flatMap f=rep k (l.flatMap f):=by
 unfold rep
 induction k with
 | zero=>rfl
 | succ k ih=>rw [List.replicate_succ,List.flatten_cons,List.flatMap_append,ih,List.replicate_succ,List.flatten_cons]
theorem rep_take {α:Type}(l:List α){k j m:Nat}(hj:j<=k)(hm:j*l.length+m<=k*l.length):(rep k l).take (j*l.length)++(rep k l).take m=(rep k l).take (j*l.length+m):=by
 obtain⟨i,rfl⟩:∃ i,k=j+i:=⟨k-j,by omega⟩
 rw [Nat.add_mul] at hm
 have h1:(rep (j+i) l).take (j*l.length)=rep j l:=by rw [rep_add,<- rep_len,List.take_left'];rfl
 have h2:(rep (j+i) l).take m=(rep i l).take m:=by
  rw [Nat.add_comm,rep_add,List.take_append_of_le_length (by rw [rep_len];omega)]
 have h3:(rep (j+i) l).take (j*l.length+m)=rep j l++(rep i l).take m:=by
  rw [rep_add,<- rep_len,List.take_length_add_append]
 rw [h1,h2,h3]
end Kv
namespace Go.Proofs.Ytbphlkaihfbgeaa
open Go.RowKit Kv
theorem run_copy2 {P:Program}(w:World)(dT sT ty elem:TypeId)(g o dLen dCap:Nat)(a:Addr)(sLen sCap:Nat)(cur:Array Value)(t:TypeId)(cs:List Value)
  (hu:P.underlying dT=some (.slice elem))(hs:(P.info? elem).map (·.size)=some 2)
  (hg:w.heap[g]?=some (.cells cur t (0,0)))(hn:cs.length=Nat.min sLen dLen*2)
  (hsrc:∀ j v,cs[j]?=some v->w.cell? (a.add j)=some v)(hfit:o+cs.length<=cur.size)(h1:∀ v∈cs,v.oneCell'=true) :
  (Builtin.copy_ #[dT,sT] ty #[.slice (some ⟨g,o,none⟩) dLen dCap,.slice (some a) sLen sCap]).run P w =
    .ok (goInt (Nat.min sLen dLen)) (w.setRow g (cur.toList.take o++cs++cur.toList.drop (o+cs.length)).toArray):=by
 have hl:=run_loadCells_list (P:=P) w a cs hsrc
 have hst:=run_storeCells_at P g o t cs 0 cur w hg (by simpa using hfit) h1
 cases hq:P.info? elem with
 | none=>simp [hq] at hs
 | some i =>
   have hi:i.size=2:=by simpa [hq] using hs
   simp [Builtin.copy_,run_underlying hu,Builtin.lenOf,Builtin.firstCells,sizeOf,typeInfo,hq,hi,<- hn,hl,hst]
theorem splice_take {α:Type}{cur cs:List α}{a:Nat}(h:a+cs.length<=cur.length):(splice cur a cs).take (a+cs.length)=cur.take a++cs:=by
 unfold splice
 rw [<- List.append_assoc]
 have e:(cur.take a++cs).length=a+cs.length:=by simp;omega
 rw [<- e,List.take_left']
 rfl
theorem want_size:(Try.prog.info? 91).map (·.size)=some 2:=by kernel_rfl
theorem make_wants (k:Nat)(hk:k<=1000)(w:World) :
  ∃ cur:List Value,cur.length=2*k/\(Instr.makeSlice 46 (.int .i64 k) (.int .i64 k)).run Try.prog w=.ok (.slice (some ⟨w.heap.size,0,none⟩) k k) (w.alloc (.cells cur.toArray 91)):=by
 obtain⟨i0,hi,hz0,hz1,hz2⟩:=info_parts info_want
 have hr:=run_makeSlice (P:=Try.prog) w 46 91 i0 (.agg #[.int .i64 0,.int .i64 0]) Try.underlying46 hi hz0 .i64 .i64 k k (by omega) (by omega) (by rw [hz1];simp;omega) (by rw [hz2];omega) (by omega)
 rw [Int.toNat_natCast,hz1] at hr
 refine⟨(madeCells (Value.cells (.agg #[.int .i64 0,.int .i64 0])) (k*2)).toList,?_,?_⟩
 · rw [Array.length_toList,size_madeCells,Nat.mul_comm]
 · rw [Array.toArray_toList];exact hr
theorem wants_one {l:List Want}:∀ v∈l.flatMap wantVals,v.oneCell'=true:=by
 intro v hv
 obtain⟨q,_,hq⟩:=List.mem_flatMap.1 hv
 simp [wantVals] at hq
 rcases hq with rfl | rfl <;> rfl
set_option maxRecDepth 100000 in
set_option maxHeartbeats 800000 in
theorem repeat_p (v:Value)(l:List Want)(k:Nat)(w:World)(hv:WantsAt w v l)(h1:1<=l.length)(h2:l.length<=20)(hk:k<=10) :
  Calls Try.prog 125 #[v,.int .i64 k] w fun e w'=>∃ v',e=.returned v'/\WantsAt w' v' (rep k l)/\Ext w w':=by
 obtain⟨A,c,rfl,hc1,hc2,hV⟩:=hv
 have hVl:(l.flatMap wantVals).length=2*l.length:=by
  rw [List.length_flatMap]
  have:l.map (fun a=>(wantVals a).length)=l.map fun _=>2:=List.map_congr_left fun _ _=>rfl
  rw [this,List.map_const',List.sum_replicate_nat,Nat.mul_comm]
 obtain⟨b,rfl,hb,hcell⟩:=hV (by intro e;rw [e] at hVl;simp at hVl;omega)
 obtain⟨K,hK⟩:∃ K,l.length=K:=⟨_,rfl⟩
 obtain⟨W2,hW2⟩:∃ W2,l.flatMap wantVals=W2:=⟨_,rfl⟩
 have hone:∀ x∈rep k W2,x.oneCell'=true:=by
  rw [<- hW2,<- rep_flatMap]
  exact wants_one
 have hfin:(rep k l).flatMap wantVals=rep k W2/\(rep k l).length=k*K:=by rw [rep_flatMap,hW2,rep_len,hK];exact⟨rfl,rfl⟩
 rw [hW2] at hVl hcell
 rw [hK] at hVl h1 h2 hc1 ⊢
 have htk:K*k<=200:=Nat.le_trans (Nat.mul_le_mul h2 hk) (by decide)
 obtain⟨T,hT⟩:∃ T,K*k=T:=⟨_,rfl⟩
 rw [hT] at htk
 have hFl:(rep k W2).length=2*T:=by rw [rep_len,hVl,<- hT,Nat.mul_comm k,Nat.mul_assoc]
 have hm1:K*k / 18446744073709551616=0:=by rw [hT];omega
 have hm2:K*k % 18446744073709551616=T:=by rw [hT];omega
 have hMul:=fun w=>Try.bits_Mul K k (by omega) (by omega) w
 rw [hm1,hm2] at hMul
 have e1:=IntWalk.i64_in (T:Int) (by omega)
 have hu1:IntKind.u64.wrap (K:Int)=K:=by rw [show IntKind.u64.wrap (K:Int)=(K:Int) % 18446744073709551616 from rfl];omega
 have hu2:IntKind.u64.wrap (k:Int)=k:=by rw [show IntKind.u64.wrap (k:Int)=(k:Int) % 18446744073709551616 from rfl];omega
 have d0:decide ((k:Int)<0)=false:=by rw [decide_eq_false_iff_not];omega
 have d1:decide ((9223372036854775807:Int)<(T:Int))=false:=by rw [decide_eq_false_iff_not];omega
 have d2:decide (9223372036854775807<T)=false:=by rw [decide_eq_false_iff_not];omega
 have hTh:=Lib.hid hT
 clear hT hm1 hm2
 go_enter Try.func125,Try.ntmps125
 go_wp2_with fail
 refine (hMul _).mono ?_
 rintro e w1 ⟨rfl,rfl⟩
 obtain⟨cur0,hcur0,hmk⟩:=make_wants T (by omega) w1
 have hg0:=Blk.new w1 (.cells cur0.toArray 91)
 have hx0:=(Ext.refl w1).alloc (.cells cur0.toArray 91)
 have hcell1:∀ (i:Nat) (u:Value),W2[i]?=some u->(w1.alloc (.cells cur0.toArray 91)).cell? ⟨b,i,none⟩=some u:=fun i u hu=>(hx0.cell (p:=⟨b,i,none⟩) hb).trans (hcell i u hu)
 clear hV hcell hW2 hK
 obtain⟨F,hF⟩:∃ F,rep k W2=F:=⟨_,rfl⟩
 rw [hF] at hone hFl hfin
 obtain⟨n0,hn0⟩:∃ n0,Nat.min K T=n0:=⟨_,rfl⟩
 have hnT:n0<=T:=by rw [<- hn0];exact Nat.min_le_right _ _
 have hnK:n0<=K:=by rw [<- hn0];exact Nat.min_le_left _ _
 have hstart:((∃ j,n0=j*K/\1<=j)∨n0=T)/\W2.take (2*n0)=F.take (2*n0):=by
  have hT:=hTh.out
  by_cases hk0:k=0
  · subst hk0
    have:n0=0:=by omega
    subst this
    exact⟨.inr (by omega),by simp⟩
  · obtain⟨k',rfl⟩:∃ k',k=1+k':=⟨k-1,by omega⟩
    have hKT:K<=T:=by rw [<- hT,Nat.mul_add];omega
    have:n0=K:=by rw [<- hn0];exact Nat.min_eq_left hKT
    subst this
    refine⟨.inl ⟨1,by omega,by omega⟩,?_⟩
    rw [<- hF,rep_add,List.take_append_of_le_length (by rw [rep_len];omega)]
    simp [rep]
 have hcsl:(W2.take (2*n0)).length=2*n0:=by rw [List.length_take];omega
 have hcs1:∀ x∈W2.take (2*n0),x.oneCell'=true:=by
  rw [hstart.2]
  exact fun x hx=>hone x (List.mem_of_mem_take hx)
 have hcsc:∀ j v,(W2.take (2*n0))[j]?=some v->(w1.alloc (.cells cur0.toArray 91)).cell? ((⟨b,0,none⟩:Addr).add j)=some v:=fun j v hj=>by
  have hj2:W2[j]?=some v:=by
   rw [List.getElem?_take] at hj
   split at hj
   · exact hj
   · cases hj
  have e:(⟨b,0,none⟩:Addr).add j=⟨b,j,none⟩:=by unfold Addr.add;split <;> simp_all
  rw [e]
  exact hcell1 j v hj2
 have hsth:=Lib.hid hstart
 have hFh:=Lib.hid hF
 have honeh:=Lib.hid hone
 have hfinh:=Lib.hid hfin
 have hcshh:=Lib.hid hcsl
 have hcsch:=Lib.hid hcsc
 have hcs1h:=Lib.hid hcs1
 have hn0h:=Lib.hid hn0
 have hVlh:=Lib.hid hVl
 have hc0h:=Lib.hid hcur0
 have hFlh:=Lib.hid hFl
 clear hstart hF hone hfin hcsl hcsc hcs1 hn0 hcell1 hVl hcur0 hFl
 have hrun:=run_copy2 (P:=Try.prog) (w1.alloc (.cells cur0.toArray 91)) 46 46 3 91 w1.heap.size 0 T T ⟨b,0,none⟩ K c cur0.toArray 91 (W2.take (2*n0)) Try.underlying46 want_size hg0 (by rw [hcshh.out,hn0h.out,Nat.mul_comm]) hcsch.out (by rw [hcshh.out,List.size_toArray,hc0h.out];omega) hcs1h.out
 rw [hn0h.out,show goInt n0=.int .i64 (n0:Int) from rfl] at hrun
 have hg2:Hid (((w1.alloc (.cells cur0.toArray 91)).setRow w1.heap.size (cur0.toArray.toList.take 0++W2.take (2*n0)++cur0.toArray.toList.drop (0+(W2.take (2*n0)).length)).toArray).heap[w1.heap.size]?=some (.cells (splice cur0 0 (W2.take (2*n0))).toArray 91 (0,0))):=Lib.hid (by simpa [splice] using setRow_heap (w1.alloc (.cells cur0.toArray 91)) w1.heap.size _ _ _ _ hg0)
 have hx2:Ext w1 ((w1.alloc (.cells cur0.toArray 91)).setRow w1.heap.size (cur0.toArray.toList.take 0++W2.take (2*n0)++cur0.toArray.toList.drop (0+(W2.take (2*n0)).length)).toArray):=below_setRow hx0 (Nat.le_refl _) _
 generalize (w1.alloc (.cells cur0.toArray 91)).setRow w1.heap.size _=w2 at *
 clear hg0 hx0
 have hcurh:Hid ((splice cur0 0 (W2.take (2*n0))).take (2*n0)=F.take (2*n0)):=by
  have h:=splice_take (cur:=cur0) (cs:=W2.take (2*n0)) (a:=0) (by rw [hcshh.out,hc0h.out];omega)
  rw [hcshh.out,Nat.zero_add] at h
  refine Lib.hid ?_
  rw [h,<- hsth.out.2]
  simp
 have hlen0:(splice cur0 0 (W2.take (2*n0))).length=2*T:=by rw [length_splice _ _ _ (by rw [hcshh.out,hc0h.out];omega)];exact hc0h.out
 generalize splice cur0 0 (W2.take (2*n0))=cur1 at *
 clear hcsch hcs1h hcshh hn0h hc0h
 go_wp2_with fail
 clear hmk hrun
 have hge0:=Nat.le_refl w1.heap.size
 generalize hgs:w1.heap.size=g at hge0 hg2 hb ⊢
 have hge:w1.heap.size<=g:=by rw [hgs];exact Nat.le_refl _
 clear hgs
 go_loopw [8] (fun a8 wr=>∃ (n:Nat) (cur:List Value),a8=.int .i64 n/\n<=T/\Hid ((∃ j,n=j*K/\1<=j)∨n=T)/\Hid (cur.length=2*T)/\Hid (wr.heap[g]?=some (.cells cur.toArray 91 (0,0)))/\Hid (cur.take (2*n)=F.take (2*n))/\Ext w1 wr) (fun a8 _=>T-(intOf a8).toNat)
 case atStart=>exact⟨n0,cur1,rfl,hnT,Lib.hid hsth.out.1,Lib.hid hlen0,hg2,hcurh,hx2⟩
 case round =>
  clear hg2 hcurh hlen0 hx2 hsth hnT hnK
  obtain⟨n,cur,rfl,hn,hj,hcl,hgw,hcur,hxw⟩:=hrel
  by_cases hnT:n<T
  · have dn:decide ((n:Int)<(T:Int))=true:=by rw [decide_eq_true_eq];omega
    have dn2:decide (n<T)=true:=by rw [decide_eq_true_eq];omega
    obtain⟨m,hm⟩:∃ m,Nat.min n (T-n)=m:=⟨_,rfl⟩
    have hmn:m<=n:=by rw [<- hm];exact Nat.min_le_left _ _
    have hmT:m<=T-n:=by rw [<- hm];exact Nat.min_le_right _ _
    have hkey:F.take (2*n)++F.take (2*m)=F.take (2*n+2*m):=by
     rcases hj.out with⟨j,rfl,_⟩ | e
     · have hT:=hTh.out
       have hjk:j<=k:=Nat.le_of_lt (Nat.lt_of_mul_lt_mul_left (a:=K) (by rw [hT,Nat.mul_comm];exact hnT))
       have h3:=rep_take W2 (k:=k) (j:=j) (m:=2*m) hjk (by
        rw [hVlh.out,show j*(2*K)=2*(j*K) from by rw [Nat.mul_left_comm],show k*(2*K)=2*(K*k) from by rw [Nat.mul_left_comm,Nat.mul_comm k K],hT]
        omega)
       rw [hFh.out,hVlh.out,show j*(2*K)=2*(j*K) from by rw [Nat.mul_left_comm]] at h3
       exact h3
     · omega
    have hcsl:(F.take (2*m)).length=2*m:=by rw [List.length_take,hFlh.out];omega
    have hcs1:∀ x∈F.take (2*m),x.oneCell'=true:=fun x hx=>honeh.out x (List.mem_of_mem_take hx)
    have hat:∀ i,i<2*n->cur[i]?=F[i]?:=fun i hi=>by
     have h:=congrArg (fun l:List Value=>l[i]?) hcur.out
     simpa [List.getElem?_take,hi] using h
    have hcsc:∀ j v,(F.take (2*m))[j]?=some v->wr.drew.cell? ((⟨g,0,none⟩:Addr).add j)=some v:=fun j v hjv=>by
     have hjm:j<2*m:=by have:=(List.getElem?_eq_some_iff.1 hjv).1;omega
     rw [List.getElem?_take,if_pos hjm] at hjv
     have e:(⟨g,0,none⟩:Addr).add j=⟨g,j,none⟩:=by unfold Addr.add;split <;> simp_all
     rw [e,cell_of_heap (w:=wr.drew) hgw.out]
     rw [<- hat j (by omega)] at hjv
     simpa using hjv
    have hsp:∀ (D:List Value),D=splice cur (n*2) (F.take (2*m))->D.length=2*T/\D.take (2*(n+m))=F.take (2*(n+m)):=fun D hD=>by
     rw [Nat.mul_comm n 2] at hD
     have hfit:2*n+(F.take (2*m)).length<=cur.length:=by rw [hcsl,hcl.out];omega
     refine⟨by rw [hD,length_splice _ _ _ hfit];exact hcl.out,?_⟩
     have h:=splice_take hfit
     rw [hcsl,hcur.out,hkey] at h
     rw [hD,Nat.mul_add]
     exact h
    have hj2:(∃ j,n+m=j*K/\1<=j)∨n+m=T:=by
     rcases hj.out with⟨j,rfl,h1⟩ | e
     · by_cases h:j*K<=T-j*K
       · refine .inl ⟨2*j,?_,by omega⟩
         rw [show m=j*K from by rw [<- hm];exact Nat.min_eq_left h,Nat.mul_assoc]
         omega
       · exact .inr (by rw [show m=T-j*K from by rw [<- hm];exact Nat.min_eq_right (by omega)];omega)
     · omega
    have hm1:1<=m∨n=0:=by
     by_cases h:n<=T-n
     · have h2:Nat.min n (T-n)=n:=Nat.min_eq_left h
       omega
     · have h2:Nat.min n (T-n)=T-n:=Nat.min_eq_right (by omega)
       omega
    have hn1:1<=n:=by
     rcases hj.out with⟨j,e,h1'⟩ | e
     · rw [e];exact Nat.mul_pos h1' h1
     · omega
    have hjh:=Lib.hid hj2
    have hsph:=Lib.hid hsp
    have hm2:1<=m:=by omega
    have hw9:=IntWalk.i64_in ((n:Int)+(m:Int)) (by omega)
    have hne:¬ T=n:=by omega
    have hn0':(0:Int)<=(n:Int):=by omega
    have hnT2:(n:Int)<=(T:Int):=by omega
    have hxd:=hxw.drew
    have hcsch:=Lib.hid hcsc
    have hcs1h:=Lib.hid hcs1
    have hcslh:=Lib.hid hcsl
    have hmh:=Lib.hid hm
    clear hj hat hkey hcsl hcs1 hcsc hsp hj2 hm1 hm
    have hrun2:=run_copy2 (P:=Try.prog) wr.drew 46 46 3 91 g (n*2) (T-n) (T-n) ⟨g,0,none⟩ n T cur.toArray 91 (F.take (2*m)) Try.underlying46 want_size hgw.out (by rw [hcslh.out,hmh.out,Nat.mul_comm]) hcsch.out (by rw [hcslh.out,List.size_toArray,hcl.out];omega) hcs1h.out
    rw [hmh.out,show goInt m=.int .i64 (m:Int) from rfl] at hrun2
    have hg4:Hid ((wr.drew.setRow g (cur.toArray.toList.take (n*2)++F.take (2*m)++cur.toArray.toList.drop (n*2+(F.take (2*m)).length)).toArray).heap[g]?=some (.cells (splice cur (n*2) (F.take (2*m))).toArray 91 (0,0))):=Lib.hid (by simpa [splice] using setRow_heap wr.drew g _ _ _ _ hgw.out)
    have hx4:Ext w1 (wr.drew.setRow g (cur.toArray.toList.take (n*2)++F.take (2*m)++cur.toArray.toList.drop (n*2+(F.take (2*m)).length)).toArray):=below_setRow hxd hge _
    go_wp2_with fail
    generalize World.setRow (World.drew wr) g _=w4 at *
    have hrh:=Lib.hid hrun2
    clear hrun2
    refine wp_region_held_drew (S:=fun _=>True) rfl trivial (fun hHeld=>?_)
    refine tkb 0 ?_
    iterate 7
     refine tkn (v:=?_) rfl (by kernel_rfl) (fun _ _ _ h=>h) (by assumption) ?_ ?_
     rotate_left
     · (intro w hSw;(try dsimp only at hSw);go_simp;try with_reducible rfl)
     try simp only [put_pack]
    refine tke ?_
    have hrun2:=hrh.out
    clear hrh
    refine wpAnyH_ready (rs:=[7]) (by kernel_rfl) (by simp) ?_
    refine AllReadyH.cons rfl (fun K hKK=>?_) (AllReadyH.nil)
    go_simp
    refine hKK.out _ _ trivial (fun hHeld=>?_)
    clear hKK K hrun2
    try dsimp only
    refine tk 8 (v:=?_) rfl (by kernel_rfl) (fun _ _ _ h=>h) (by assumption) ?_ ?_
    rotate_left
    · (intro w hSw;(try dsimp only at hSw);go_simp;try with_reducible rfl)
    try simp only [put_pack]
    refine tk 9 (v:=?_) rfl (by kernel_rfl) (fun _ _ _ h=>h) (by assumption) ?_ ?_
    rotate_left
    · (intro w hSw;(try dsimp only at hSw);go_simp;try with_reducible rfl)
    try simp only [put_pack]
    refine wpAnyH_done (by kernel_rfl) ?_ _
    go_simp
    have hs9:=hsph.out _ rfl
    have h91:=Lib.hid hs9.1
    have h92:=Lib.hid hs9.2
    clear hs9 hcsch hcs1h hcslh hmh hgw hcur hcl hsph hxd
    go_wp2_with fail
    refine⟨⟨n+m,_,by first | rfl | go_num,by omega,hjh,h91,hg4,h92,hx4⟩,?_⟩
    simp [intOf];omega
  · obtain rfl:n=T:=by omega
    have dn:decide ((n:Int)<(n:Int))=false:=by rw [decide_eq_false_iff_not];omega
    have hcF:cur=F:=by
     have h:=hcur.out
     rw [<- hcl.out,List.take_length,hcl.out,<- hFlh.out,List.take_length] at h
     exact h
    have hw:WantsAt wr (.slice (some ⟨g,0,none⟩) n n) (rep k l):=by
     refine⟨_,n,?_,?_,by omega,fun _=>⟨g,rfl,(Array.getElem?_eq_some_iff.1 hgw.out).1,fun i u hu=>?_⟩⟩
     · rw [hfinh.out.2,Nat.mul_comm,hTh.out]
     · rw [hfinh.out.2,Nat.mul_comm,hTh.out]
       exact Nat.le_refl _
     · rw [hfinh.out.1,<- hcF] at hu
       rw [cell_of_heap (w:=wr) hgw.out]
       simpa using hu
    have hwh:=Lib.hid hw
    clear hw hcF hgw hcur hj
    go_wp2_with fail
    go_ret
    exact⟨_,rfl,hwh.out,hxw⟩
end Go.Proofs.Ytbphlkaihfbgeaa
namespace Kv
def yWant (n i:Nat):Want:=if i<3 then ⟨-1,n⟩ else ⟨-1,2⟩
def yWants (n:Nat):List Want:=(List.range (n+3)).map (yWant n)
def yAllW (n:Nat):List Want:=rep (2 ^ levels n-1) (yWants n)
theorem yWants_len (n:Nat):(yWants n).length=n+3:=by simp [yWants]
theorem yAllW_len (n:Nat):(yAllW n).length=(2 ^ levels n-1)*(n+3):=by rw [yAllW,rep_len,yWants_len]
theorem pow_levels {n:Nat}(hn:n<=8):1<=2 ^ levels n/\2 ^ levels n<=8:=by
 have:∀ n:Nat,n<9->1<=2 ^ levels n/\2 ^ levels n<=8:=by decide +kernel
 exact this n (by omega)
theorem yAllW_le {n:Nat}(hn:n<=8):(yAllW n).length<=77:=by
 have:=pow_levels hn
 rw [yAllW_len]
 exact Nat.le_trans (Nat.mul_le_mul (show 2 ^ levels n-1<=7 by omega) (show n+3<=11 by omega)) (by decide)
theorem yAllW_wr {n:Nat}:∀ q∈yAllW n,q.wr=-1:=by
 intro q hq
 unfold yAllW rep at hq
 obtain⟨l,hl,hq⟩:=List.mem_flatten.1 hq
 rw [List.eq_of_mem_replicate hl] at hq
 unfold yWants at hq
 obtain⟨i,_,rfl⟩:=List.mem_map.1 hq
 unfold yWant
 split <;> rfl
theorem lay_native (n:Int)(hn:1<=n/\n<=8)(c:Int)(hc:0<=c/\c<=32768):∀ (l:List Want) (b:Int),0<=b->b+l.length<=32768->∃ rs,layFrom n 1 l b c=some rs/\rs.length=l.length/\∀ (i:Nat) r,rs[i]?=some r->r.kind=1/\r.base=b+i/\r.loc=c/\r.n=n
 | [],b,_,_=>⟨[],rfl,rfl,fun i r h=>by simp at h⟩
 | q :: l,b,h0,h1=>by
   simp only [List.length_cons] at h1
   have hk:(regOf n 1 b c q).kind=1:=by unfold regOf kindM;simp
   have hcl:cellsM (regOf n 1 b c q)=1:=by unfold cellsM;rw [if_pos hk]
   have hll:localsM (regOf n 1 b c q)=0:=by unfold localsM;rw [if_pos hk]
   have hf:fineM (regOf n 1 b c q)=true:=by
    unfold fineM
    rw [hcl,hll]
    rw [Bool.and_eq_true,Bool.and_eq_true,Bool.and_eq_true,decide_eq_true_eq,decide_eq_true_eq,decide_eq_true_eq,decide_eq_true_eq]
    show ((b<=32768/\c<=32768)/\b+1<=32768)/\c+0<=32768
    omega
   obtain⟨rs,h2,h3,h4⟩:=lay_native n hn c hc l (b+1) (by omega) (by omega)
   refine⟨regOf n 1 b c q :: rs,?_,by simp [h3],fun i r hr=>?_⟩
   · unfold layFrom
     rw [if_pos hf,hcl,hll,Int.add_zero,h2]
     rfl
   · cases i with
     | zero =>
       obtain rfl:regOf n 1 b c q=r:=by simpa using hr
       exact⟨hk,by simp [regOf],rfl,rfl⟩
     | succ i =>
       obtain⟨a1,a2,a3,a4⟩:=h4 i r (by simpa using hr)
       exact⟨a1,by rw [a2];omega,a3,a4⟩
theorem yang_lay (n:Nat)(h1:1<=n)(h8:n<=8):∃ rs,layM (yAllW n) n 1 3 2=some rs/\YAll rs n/\YNat rs:=by
 have hl:=yAllW_le h8
 obtain⟨rs,h2,h3,h4⟩:=lay_native n ⟨by omega,by omega⟩ 2 (by decide) (yAllW n) 3 (by decide) (by omega)
 have ha:argsM (yAllW n) n 1 3 2=true:=by
  unfold argsM
  rw [Bool.and_eq_true,decide_eq_true_eq,List.all_eq_true]
  refine⟨by omega,fun q hq=>?_⟩
  rw [decide_eq_true_eq,yAllW_wr q hq]
  omega
 refine⟨rs,by unfold layM;rw [if_pos ha];exact h2,⟨by rw [h3,yAllW_len],fun i hi=>?_⟩,fun i r hr=>?_⟩
 · obtain⟨r,hr⟩:∃ r,rs[i]?=some r:=⟨_,List.getElem?_eq_getElem hi⟩
   obtain⟨a1,a2,a3,a4⟩:=h4 i r hr
   refine⟨r,hr,⟨.inl a1,by omega,by rw [a3];decide,by omega,fun h=>by omega⟩,a4,fun _=>.inl a1,by unfold cellsM;rw [if_pos a1];decide⟩
 · obtain⟨a1,a2,_⟩:=h4 i r hr
   exact⟨a1,by omega⟩
end Kv
namespace Go.Proofs.Ytbphlkaihfbgeaa
open Go.RowKit Kv
set_option maxRecDepth 100000 in
set_option maxHeartbeats 1000000 in
theorem ywants_p (n:Nat)(w:World)(h1:1<=n)(h8:n<=8):Calls Try.prog 123 #[.int .i64 n] w fun e w'=>∃ v,e=.returned v/\WantsAt w' v (yWants n)/\Ext w w':=by
 go_enter Try.func123,Try.ntmps123
 go_wp2_with fail
 refine (yfine_p n _ h1 h8).mono ?_
 rintro e w2 ⟨rfl,rfl⟩
 go_wp2_with fail
 go_loopw [3,7] (fun v i wr=>∃ j:Nat,i=.int .i64 j/\j<=3/\wr.ownsRow w.heap.size 91 2 v j (wantRow (yWant n) j)/\Ext w wr) (fun _ i _=>3-(intOf i).toNat)
 case atStart=>exact⟨0,rfl,by omega,World.ownsRow_nil _ _ _ _,Ext.refl _⟩
 case round =>
  obtain⟨j,rfl,hj,hown,hE⟩:=hrel
  by_cases hl:j<3
  · have dj:decide ((j:Int)<3)=true:=by rw [decide_eq_true_eq];omega
    go_wp2_with (at_builtin;refine append_rec info_want Try.underlying46 rfl (by decide) (by decide) rfl _ _ rfl _ j _ [.int .i64 (-1),.int .i64 n] hE hown rfl rfl rfl (by simp [Value.oneCell']) (by omega) ?_)
    intro v' w' ho hx _
    have hoh:=Lib.hid ho
    clear hown ho
    go_wp2_with fail
    refine⟨⟨j+1,by go_num,by omega,?_,hx⟩,?_⟩
    · rw [wants_succ]
      rw [show yWant n j=⟨-1,n⟩ from by unfold yWant;rw [if_pos hl]]
      exact hoh.out
    · simp [intOf];omega
  · have hj3:j=3:=by omega
    have dj:decide ((j:Int)<3)=false:=by rw [decide_eq_false_iff_not];omega
    have hownh:Hid (wr.ownsRow w.heap.size 91 2 _ (3+0) (wantRow (yWant n) (3+0))):=Lib.hid (by rw [<- hj3,Nat.add_zero];exact hown)
    clear hown hj3 hj hl
    go_wp2_with fail
    clear dj
    go_loopw [3,16] (fun v i wr=>∃ j:Nat,i=.int .i64 j/\j<=n/\wr.ownsRow w.heap.size 91 2 v (3+j) (wantRow (yWant n) (3+j))/\Ext w wr) (fun _ i _=>n-(intOf i).toNat)
    case atStart=>exact⟨0,rfl,by omega,hownh.out,hE⟩
    case round =>
     clear hownh hE
     obtain⟨j,rfl,hj,hown,hE⟩:=hrel
     by_cases hl:j<n
     · have dj:decide ((j:Int)<(n:Int))=true:=by rw [decide_eq_true_eq];omega
       go_wp2_with (at_builtin;refine append_rec info_want Try.underlying46 rfl (by decide) (by decide) rfl _ _ rfl _ (3+j) _ [.int .i64 (-1),.int .i64 2] hE hown rfl rfl rfl (by simp [Value.oneCell']) (by omega) ?_)
       intro v' w' ho hx _
       have hoh:=Lib.hid ho
       clear hown ho
       go_wp2_with fail
       refine⟨⟨j+1,by go_num,by omega,?_,hx⟩,?_⟩
       · rw [show 3+(j+1)=(3+j)+1 from by omega,wants_succ]
         rw [show yWant n (3+j)=⟨-1,2⟩ from by unfold yWant;rw [if_neg (by omega)]]
         exact hoh.out
       · simp [intOf];omega
     · obtain rfl:j=n:=by omega
       have hownh:=Lib.hid hown
       clear hown
       go_wp2_with fail
       go_ret
       have h:=wants_row hownh.out
       rw [Nat.add_comm] at h
       exact⟨_,rfl,h,hE⟩
theorem ywants_0 (w:World):Calls Try.prog 123 #[.int .i64 0] w fun e w'=>e=.returned (.slice none 0 0)/\Ext w w':=by
 have hf:∀ W,Calls Try.prog 124 #[.int .i64 0] W fun e w'=>e=.returned (.bool false)/\W=w':=fun W=>by
  go_enter Try.func124,Try.ntmps124
  go_wp2_with fail
  go_ret
  exact⟨rfl,rfl⟩
 go_enter Try.func123,Try.ntmps123
 go_wp2_with fail
 refine (hf _).mono ?_
 rintro e w2 ⟨rfl,rfl⟩
 go_wp2_with fail
 go_ret
 exact⟨rfl,Ext.refl w⟩
set_option maxRecDepth 100000 in
set_option maxHeartbeats 1000000 in
theorem yallw_p (n:Nat)(w:World)(h1:1<=n)(h8:n<=8):Calls Try.prog 48 #[.int .i64 n] w fun e w'=>∃ v,e=.returned v/\WantsAt w' v (yAllW n)/\Ext w w':=by
 have hlv:=fun w=>levels_p n (by omega) w
 have hp:=pow_levels h8
 have hw:=yWants_len n
 have hrp:=fun (v:Value) (W:World) (hv:WantsAt W v (yWants n))=>repeat_p v (yWants n) (2 ^ levels n-1) W hv (by omega) (by omega) (by omega)
 unfold yAllW
 have hl3:levels n<=3:=by
  have:∀ n:Nat,n<9->levels n<=3:=by decide +kernel
  exact this n (by omega)
 generalize levels n=L at *
 have hPi:(2:Int) ^ L=((2 ^ L:Nat):Int):=by rw [Int.natCast_pow];rfl
 generalize 2 ^ L=P at *
 have hsh:Op.shift .shl .i64 1 .i64 (L:Int)=pure (.int .i64 (P:Int)):=by
  rw [Go.shift_shl_i64 (x:=1) (y:=(L:Int)) (yk:=.i64) (by omega) (by omega),Int.one_mul,Int.toNat_natCast,hPi,IntWalk.i64_in _ (by omega)]
 obtain⟨k,hk⟩:∃ k,P-1=k:=⟨_,rfl⟩
 have hwk:IntKind.i64.wrap ((P:Int)-1)=(k:Int):=by rw [IntWalk.i64_in _ (by omega)];omega
 rw [hk] at hrp ⊢
 replace hrp:=Lib.hid hrp
 have hw2:IntKind.i64.wrap ((2:Int) ^ L)=(P:Int):=by rw [hPi];exact IntWalk.i64_in _ (by omega)
 clear hPi hk hl3
 go_enter Try.func48,Try.ntmps48
 go_wp2_with fail
 refine (yfine_p n _ h1 h8).mono ?_
 rintro e w2 ⟨rfl,rfl⟩
 go_wp2_with fail
 refine (hlv _).mono ?_
 rintro e w' ⟨rfl,rfl⟩
 go_wp2_with fail
 refine (ywants_p n _ h1 h8).mono ?_
 rintro e w3 ⟨v,rfl,hv,hx⟩
 have hr:=hrp.out v w3 hv
 obtain⟨A,c,rfl,-⟩:=id hv
 rw [hw] at hr ⊢
 replace hr:=Lib.hid hr
 clear hv hrp hw
 go_wp2_with fail
 refine hr.out.mono ?_
 rintro e w4 ⟨v',rfl,hv',hx4⟩
 obtain⟨A',c',rfl,-⟩:=id hv'
 have hvh:=Lib.hid hv'
 clear hv' hr
 go_wp2_with fail
 go_ret
 exact⟨_,rfl,hvh.out,hx.trans hx4⟩
theorem yang_some (n:Nat)(v:Value)(w:World)(h:WantsAt w v (yAllW n))(h1:1<=n)(h8:n<=8) :
  Calls Try.prog 21 #[v,.int .i64 n,.int .i64 1] w fun e w'=>∃ A c rs,e=.returned (.slice A rs.length c)/\YAll rs n/\YNat rs/\rs.length<=c/\c<=9223372036854775807/\Ext w w'/\(rs≠[]->∃ b,A=some ⟨b,0,none⟩/\w.heap.size<=b/\b<w'.heap.size/\(∀ (i:Nat) u,(rs.flatMap regVals)[i]?=some u->w'.cell? ⟨b,i,none⟩=some u)):=by
 obtain⟨rs,hl,he,hy⟩:=yang_lay n h1 h8
 have hlen:=yAllW_le h8
 refine (some_r v _ n 1 w h (by omega)).mono ?_
 rintro e w' ⟨v',rfl,hx,hrow⟩
 rw [hl] at hrow
 simp only [Option.getD_some] at hrow
 obtain⟨Ar,cr,rfl,r1,r2,hV⟩:=Recs.of_row hrow
 refine⟨Ar,cr,rs,rfl,he,hy,r1,r2,hx,fun hne=>?_⟩
 cases rs with
 | nil=>exact absurd rfl hne
 | cons r rs =>
   obtain⟨b,rfl,hb,hc⟩:=hV (by simp [regVals])
   exact⟨b,rfl,(World.ownsRow.lt hrow b rfl).1,hb,hc⟩
structure BelowX (X:Nat->Prop) (w w':World):Prop where
 os:w'.os=w.os
 tape:w'.tape=w.tape
 output:w'.output=w.output
 size:w.heap.size<=w'.heap.size
 blocks:∀ k,k<w.heap.size->¬ X k->w'.heap[k]?=w.heap[k]?
theorem BelowX.of {X:Nat->Prop}{w w':World}(h:Ext w w'):BelowX X w w':=⟨h.os,h.tape,h.output,h.size,fun k hk _=>h.block k hk⟩
theorem BelowX.refl (X:Nat->Prop)(w:World):BelowX X w w:=BelowX.of (Ext.refl w)
theorem BelowX.trans {X:Nat->Prop}{w w' w'':World}(h:BelowX X w w')(g:BelowX X w' w''):BelowX X w w'' :=
 ⟨g.os.trans h.os,g.tape.trans h.tape,g.output.trans h.output,Nat.le_trans h.size g.size,fun k hk hx=>(g.blocks k (Nat.lt_of_lt_of_le hk h.size) hx).trans (h.blocks k hk hx)⟩
theorem BelowX.set {X:Nat->Prop}{w w':World}(h:BelowX X w w'){b:Nat}(hb:X b)(i:Nat)(v:Value):BelowX X w (w'.setCell ⟨b,i,none⟩ v):=by
 have e:∀ k,k≠b->(w'.setCell ⟨b,i,none⟩ v).heap[k]?=w'.heap[k]?:=fun k hk=>heap_setCell_ne _ _ hk
 exact⟨h.os,h.tape,h.output,by simpa using h.size,fun k hk hx=>(e k (fun hkb=>hx (hkb▸hb))).trans (h.blocks k hk hx)⟩
theorem BelowX.mono {X Y:Nat->Prop}{w w':World}(h:BelowX X w w')(hxy:∀ k,X k->Y k):BelowX Y w w' :=
 ⟨h.os,h.tape,h.output,h.size,fun k hk hx=>h.blocks k hk fun q=>hx (hxy k q)⟩
theorem BelowX.blk {X:Nat->Prop}{w w':World}(h:BelowX X w w'){b:Nat}{o:Obj}(hb:Blk w b o)(hx:¬ X b):Blk w' b o:=(h.blocks b hb.lt hx).trans hb
theorem BelowX.ints {X:Nat->Prop}{w w':World}{v:Value}{l:List Int}(h:BelowX X w w')(hl:Ints w v l)(hx:∀ b,v.ownBlock=some b->¬ X b):Ints w' v l:=by
 obtain⟨A,c,rfl,h1,h2,h3⟩:=hl
 refine⟨A,c,rfl,h1,h2,fun hne=>?_⟩
 obtain⟨b,off,rfl,hb,hc⟩:=h3 hne
 refine⟨b,off,rfl,Nat.lt_of_lt_of_le hb h.size,fun i x hi=>?_⟩
 rw [<- hc i x hi]
 unfold World.cell?
 simp only
 rw [h.blocks b hb (hx b rfl)]
theorem BelowX.grown {X:Nat->Prop}{w w' wr:World}{o:Obj}{row:Option Nat}(h:BelowX X w wr)(hg:(wr.alloc o).grownBy w' row)(hr:∀ b,row=some b->w.heap.size<=b):BelowX X w w':=by
 have h1:=h.trans (BelowX.of ((Ext.refl wr).alloc o))
 exact⟨hg.os.trans h1.os,hg.tape.trans h1.tape,hg.output.trans h1.output,Nat.le_trans h1.size hg.size,fun k hk hx=>(hg.block k (Nat.lt_of_lt_of_le hk h1.size) (fun e=>by have:=hr k e.symm;omega)).trans (h1.blocks k hk hx)⟩
def rowOf (l:List Int):List Value:=l.map (Value.int .i64)
structure ARows (B:Nat) (bs:List Nat) (w:World) (vs:Array Value) (ans:Nat->List Int) (n:Nat):Prop where
 sz:vs.size=n
 ge:B<=w.heap.size
 row:∀ t,t<n->∃ v,vs[t]?=some v/\w.ownsRow B 3 1 v (ans t).length (rowOf (ans t))
 off:∀ (t:Nat) (v:Value) (b:Nat),vs[t]?=some v->v.ownBlock=some b->b ∉ bs
 apart:∀ (t s:Nat) (v u:Value) (b:Nat),t≠s->vs[t]?=some v->vs[s]?=some u->v.ownBlock=some b->u.ownBlock≠some b
section
variable {B n:Nat} {bs:List Nat} {w W:World} {vs:Array Value} {ans:Nat->List Int}
theorem own_ge {v:Value}{k:Nat}{xs:List Value}(h:w.ownsRow B 3 1 v k xs){b:Nat}(hb:v.ownBlock=some b):B<=b/\b<w.heap.size:=by
 rcases h.2 with⟨rfl,_⟩ | ⟨g,cap,cur,rfl,h1,h2,_⟩
 · simp [Value.ownBlock] at hb
 · simp only [Value.ownBlock,Option.some.injEq] at hb
   subst hb
   exact⟨h1,(Array.getElem?_eq_some_iff.1 h2).1⟩
theorem ARows.ints (h:ARows B bs w vs ans n){t:Nat}(ht:t<n):∃ A c,vs[t]?=some (.slice A (ans t).length c)/\Ints w (.slice A (ans t).length c) (ans t)/\w.ownsRow B 3 1 (.slice A (ans t).length c) (ans t).length (rowOf (ans t)):=by
 obtain⟨v,h1,h2⟩:=h.row t ht
 have h3:=IntRow.ints (show IntRow w B v (ans t) from h2)
 obtain⟨A,c,rfl,_⟩:=h3.slice
 exact⟨A,c,h1,h3,h2⟩
theorem ARows.ext (h:ARows B bs w vs ans n)(hx:Ext w W):ARows B bs W vs ans n :=
 { h with
  ge:=Nat.le_trans h.ge hx.size
  row:=fun t ht=>by
   obtain⟨v,h1,h2⟩:=h.row t ht
   exact⟨v,h1,row_ext h2 hx⟩ }
theorem ARows.set (h:ARows B bs w vs ans n){b:Nat}(hb:b∈bs)(i:Nat)(u:Value):ARows B bs (w.setCell ⟨b,i,none⟩ u) vs ans n :=
 { h with
  ge:=by simpa using h.ge
  row:=fun t ht=>by
   obtain⟨v,h1,h2⟩:=h.row t ht
   exact⟨v,h1,row_set h2 fun e=>h.off t v b h1 e hb⟩ }
theorem ARows.more (h:ARows B bs w vs ans n){b:Nat}(hb:w.heap.size<=b):ARows B (b :: bs) w vs ans n :=
 { h with
  off:=fun t v k h1 h2 hk=>by
   have ht:t<n:=by rw [<- h.sz];exact (Array.getElem?_eq_some_iff.1 h1).1
   obtain⟨v',q1,q2⟩:=h.row t ht
   rw [q1] at h1
   injection h1 with h1
   subst h1
   have:=own_ge q2 h2
   rcases List.mem_cons.1 hk with rfl | hk
   · omega
   · exact h.off t _ k q1 h2 hk }
theorem ARows.less {cs:List Nat}(h:ARows B bs w vs ans n)(hc:∀ b∈cs,b∈bs):ARows B cs w vs ans n :=
 { h with off:=fun t v k h1 h2 hk=>h.off t v k h1 h2 (hc k hk) }
theorem ARows.clear (h:ARows B bs w vs ans n)(t:Nat):ARows B bs w (vs.setIfInBounds t (.slice none 0 0)) (fun s=>if s=t then [] else ans s) n:=by
 have hsz:=h.sz
 have get:∀ s u b,(vs.setIfInBounds t (.slice none 0 0))[s]?=some u->u.ownBlock=some b->s≠t/\vs[s]?=some u:=fun s u b h1 h2=>by
  by_cases e:t=s
  · subst e
    have hl:t<vs.size:=by
     have:=(Array.getElem?_eq_some_iff.1 h1).1
     simpa using this
    rw [Array.getElem?_setIfInBounds_self_of_lt hl] at h1
    injection h1 with h1
    subst h1
    simp [Value.ownBlock] at h2
  · rw [Array.getElem?_setIfInBounds_ne e] at h1
    exact⟨Ne.symm e,h1⟩
 refine⟨by simp [hsz],h.ge,fun s hs=>?_,fun s u b h1 h2=>h.off s u b (get s u b h1 h2).2 h2,fun s r u u' b hne h1 h1' h2 h2'=>h.apart s r u u' b hne (get s u b h1 h2).2 (get r u' b h1' h2').2 h2 h2'⟩
 by_cases e:s=t
 · subst e
   refine⟨.slice none 0 0,Array.getElem?_setIfInBounds_self_of_lt (by omega),?_⟩
   rw [if_pos rfl]
   exact⟨rfl,.inl ⟨rfl,rfl⟩⟩
 · obtain⟨u,q1,q2⟩:=h.row s hs
   refine⟨u,by rw [Array.getElem?_setIfInBounds_ne (Ne.symm e)];exact q1,?_⟩
   rw [if_neg e]
   exact q2
end
theorem blk_ne {w:World}{b b' i:Nat}{o:Obj}(h:Blk w b o)(hne:b≠b')(u:Value):Blk (w.setCell ⟨b',i,none⟩ u) b o:=by
 show (w.setCell ⟨b',i,none⟩ u).heap[b]?=_
 rw [heap_setCell_ne _ _ hne]
 exact h
def fours (f:Nat->Int):List Value:=(List.range 4).map fun t=>Value.int .i64 (f t)
theorem lay_end {V0 wq:World}{bl b:Nat}{rs:List Reg}{T:TypeId}{v:Value}(hz:Blk wq bl (.cells #[.slice none 0 0] T))(hx:Ext V0 wq)(hV:V0.heap.size<=bl)(hb:b<wq.heap.size)(hne:rs≠[])
  (hc:∀ (i:Nat) u,(rs.flatMap regVals)[i]?=some u->wq.cell? ⟨b,i,none⟩=some u):Ext V0 (wq.setCell ⟨bl,0,none⟩ v)/\Blk (wq.setCell ⟨bl,0,none⟩ v) bl (.cells #[v] T)/\b<(wq.setCell ⟨bl,0,none⟩ v).heap.size/\(∀ (i:Nat) u,(rs.flatMap regVals)[i]?=some u->(wq.setCell ⟨bl,0,none⟩ v).cell? ⟨b,i,none⟩=some u):=by
 have hn:b≠bl:=fun e=>by
  cases rs with
  | nil=>exact hne rfl
  | cons r rs =>
    have h1:=hc 0 (.int .i64 r.kind) rfl
    rw [e,hz.cells 0] at h1
    cases h1
 refine⟨hx.setCell (p:=⟨bl,0,none⟩) hV v,heap_setCell hz v,by simpa using hb,fun i u hu=>?_⟩
 have h1:(wq.setCell ⟨bl,0,none⟩ v).heap[b]?=wq.heap[b]?:=heap_setCell_ne _ _ hn
 exact (World.cell?_of_block (w:=wq) (a:=⟨b,i,none⟩) h1).trans (hc i u hu)
theorem box_end {V0 wq:World}{bz:Nat}{T:TypeId}{v0 v:Value}(hz:Blk wq bz (.cells #[v0] T))(hx:Ext V0 wq)(hV:V0.heap.size<=bz):Ext V0 (wq.setCell ⟨bz,0,none⟩ v)/\Blk (wq.setCell ⟨bz,0,none⟩ v) bz (.cells #[v] T) :=
 ⟨hx.setCell (p:=⟨bz,0,none⟩) hV v,heap_setCell hz v⟩
structure QMem (w0:World) (bn bl bc ba bp:Nat) (on ol:Obj) (wr:World) (M:List Int) (ph:Nat->Int) (ans:Nat->List Int) (vs:Array Value):Prop where
 ext:Ext w0 wr
 kN:Blk wr bn on
 kL:Blk wr bl ol
 kC:Blk wr bc (.cells (M.map (Value.int .i64)).toArray 3)
 kA:Blk wr ba (.cells vs 58)
 kP:Blk wr bp (.cells (fours ph).toArray 50)
 rows:ARows w0.heap.size [bn,bl,bc,ba,bp] wr vs ans 4
 lo:bn<w0.heap.size/\bl<w0.heap.size
 ge:w0.heap.size<=bc/\w0.heap.size<=ba/\w0.heap.size<=bp
 ne:bn≠bl/\bn≠bc/\bn≠ba/\bn≠bp/\bl≠bc/\bl≠ba/\bl≠bp/\bc≠ba/\bc≠bp/\ba≠bp
section
variable {w0 wr W:World} {bn bl bc ba bp:Nat} {on ol:Obj} {M:List Int} {ph:Nat->Int} {ans:Nat->List Int} {vs:Array Value}
theorem QMem.keep (h:QMem w0 bn bl bc ba bp on ol wr M ph ans vs)(hx:Ext wr W):QMem w0 bn bl bc ba bp on ol W M ph ans vs :=
 { h with
  ext:=h.ext.trans hx,kN:=h.kN.ext hx,kL:=h.kL.ext hx,kC:=h.kC.ext hx,kA:=h.kA.ext hx,kP:=h.kP.ext hx,rows:=h.rows.ext hx }
theorem QMem.same (h:QMem w0 bn bl bc ba bp on ol wr M ph ans vs){ph':Nat->Int}(he:∀ t,t<4->ph' t=ph t):QMem w0 bn bl bc ba bp on ol wr M ph' ans vs :=
 { h with
  kP:=by
   have:fours ph'=fours ph:=by
    unfold fours
    refine List.map_congr_left fun t ht=>?_
    rw [he t (by simpa using ht)]
   rw [this]
   exact h.kP }
theorem QMem.clear (h:QMem w0 bn bl bc ba bp on ol wr M ph ans vs)(t:Nat):QMem w0 bn bl bc ba bp on ol (wr.setCell ⟨ba,t,none⟩ (.slice none 0 0)) M ph (fun s=>if s=t then [] else ans s) (vs.setIfInBounds t (.slice none 0 0)):=by
 obtain⟨n1,n2,n3,n4,n5,n6,n7,n8,n9,n10⟩:=h.ne
 exact { h with
  ext:=h.ext.setCell (p:=⟨ba,t,none⟩) h.ge.2.1 _,kN:=blk_ne h.kN n3 _,kL:=blk_ne h.kL n6 _,kC:=blk_ne h.kC n8 _,kP:=blk_ne h.kP (Ne.symm n10) _
  kA:=heap_setCell h.kA _
  rows:=(h.rows.clear t).set (by simp) _ _ }
theorem row_type {w:World}{B k b:Nat}{v:Value}{xs:List Value}{cs:Array Value}{T:TypeId}(h:w.ownsRow B 3 1 v k xs)(hb:Blk w b (.cells cs T))(hT:T≠3):v.ownBlock≠some b:=by
 rcases h.2 with⟨rfl,_⟩ | ⟨g,cap,cur,rfl,h1,h2,_⟩
 · simp [Value.ownBlock]
 · intro e
   simp only [Value.ownBlock,Option.some.injEq] at e
   subst e
   unfold Blk at hb
   rw [h2] at hb
   injection hb with hb
   injection hb with _ hb
   exact hT hb.symm
theorem QMem.far (h:QMem w0 bn bl bc ba bp on ol wr M ph ans vs){bo:Nat}{cs:Array Value}{T:TypeId}(hb:Blk wr bo (.cells cs T))(hT:T≠3)(hg:bc<bo/\ba<bo/\bp<bo){W:World}(hk:∀ b,b≠bo->W.heap[b]?=wr.heap[b]?)(hx:Ext w0 W):QMem w0 bn bl bc ba bp on ol W M ph ans vs:=by
 have g:=h.ge
 have l:=h.lo
 have hl:=hb.lt
 have keep:∀ {b:Nat} {o:Obj},Blk wr b o->b≠bo->Blk W b o:=fun h1 h2=>(hk _ h2).trans h1
 refine { h with ext:=hx,kN:=keep h.kN (by omega),kL:=keep h.kL (by omega),kC:=keep h.kC (by omega),kA:=keep h.kA (by omega),kP:=keep h.kP (by omega),rows:={ h.rows with ge:=hx.size,row:=fun t ht=>?_ } }
 obtain⟨v,q1,q2⟩:=h.rows.row t ht
 have hne:=row_type q2 hb hT
 refine⟨v,q1,?_⟩
 rcases q2.2 with⟨rfl,q3⟩ | ⟨g,cap,cur,rfl,q3,q4,q5⟩
 · exact⟨q2.1,.inl ⟨rfl,q3⟩⟩
 · refine⟨q2.1,.inr ⟨g,cap,cur,rfl,q3,?_,q5⟩⟩
   rw [hk g (fun e=>hne (by simp [Value.ownBlock,e]))]
   exact q4
end
end Go.Proofs.Ytbphlkaihfbgeaa
namespace Kv
end Kv
namespace Go.Proofs.Ytbphlkaihfbgeaa
open Go.RowKit Kv
@[go_sem] theorem build_lock3 (a b c:Int) (w:World):(Instr.build 23 #[(0,.int .i64 a),(1,.int .i64 b),(2,.int .i64 c)]).run Try.prog w=.ok (.agg #[.int .i64 a,.int .i64 b,.int .i64 c,.int .i64 0,.int .i64 0,.int .i64 0]) w:=run_build w 23 _ _ (by kernel_rfl)
@[go_sem] theorem build_acc3 (a b c:Int) (w:World):(Instr.build 54 #[(0,.int .i64 a),(1,.int .i64 b),(2,.int .i64 c)]).run Try.prog w=.ok (.agg #[.int .i64 a,.int .i64 b,.int .i64 c]) w:=run_build w 54 _ _ (by kernel_rfl)
end Go.Proofs.Ytbphlkaihfbgeaa
namespace Kv
def homeM (len n:Nat) (cell:Int):Int:=if 3<=cell/\cell<3+len/\3<=(cell-3) % ((n:Int)+3) then (cell-3) % ((n:Int)+3)-3 else -1
def yOp (D:Nat) (rs:List Reg) (n t ph:Nat):Prog Int:=if ph=2 then (yRel rs n t).bind fun _=>.ret 0 else (yAcq D rs n t).bind fun _=>.ret 0
theorem yOp_eq {D:Nat}{rs:List Reg}{n t ph:Nat}(hy:YNat rs)(hall:YAll rs n)(hn:n<=8)(ht:t<n)(hD:0<D)(hL:0<levels n):EqB D (yOp D rs n t ph) (treeM (yask (levels n) n t) D (ystart (levels n) ph)):=by
 unfold yOp ystart
 by_cases h:ph=2
 · rw [if_pos h,if_pos h]
   have:=yrel_eq (D:=D) hy hall hn ht hD
   rw [if_pos hL] at this
   exact this
 · rw [if_neg h,if_neg h]
   have:=yacq_eq (D:=D) hy hall hn ht hD
   rw [if_pos hL] at this
   exact this
end Kv
namespace Go.Proofs.Ytbphlkaihfbgeaa
open Go.RowKit Kv
set_option maxRecDepth 100000 in
set_option maxHeartbeats 1000000 in
theorem yhome_p (n:Nat)(rs:List Reg)(A:Option Addr)(c:Nat)(cell:Int)(w:World)(h1:1<=n)(h8:n<=8)(hlen:rs.length<=77)(hy:YNat rs)
  (hV:Vals w A (rs.flatMap regVals)) :
  Calls Try.prog 52 #[.slice A rs.length c,.int .i64 n,.int .i64 cell] w fun e w'=>e=.returned (.int .i64 (homeM rs.length n cell))/\Ext w w':=by
 have hyh:=Lib.hid hy
 have hVh:=Lib.hid hV
 obtain⟨m,hm⟩:∃ m,rs.length=m:=⟨_,rfl⟩
 have hmh:=Lib.hid hm
 rw [hm] at hlen ⊢
 clear hy hV hm
 go_enter Try.func52,Try.ntmps52
 go_wp2_with fail
 refine (yfine_p n _ h1 h8).mono ?_
 rintro e w2 ⟨rfl,rfl⟩
 go_wp2_with fail
 go_loopw [15] (fun a15 wr=>∃ j:Nat,a15=.int .i64 j/\j<=m/\Ext w wr/\Hid (∀ i:Nat,i<j->¬ (3+(i:Int)=cell/\3<=i % (n+3)))) (fun a15 _=>m-(intOf a15).toNat)
 case atStart=>exact⟨0,rfl,by omega,Ext.refl w,Lib.hid fun i hi=>absurd hi (by omega)⟩
 case round =>
  obtain⟨j,rfl,hj,hE,hno⟩:=hrel
  by_cases hjm:j<m
  · have dj:decide ((j:Int)<(m:Int))=true:=by rw [decide_eq_true_eq];omega
    have dj2:decide (j<m)=true:=by rw [decide_eq_true_eq];omega
    obtain⟨r,hr⟩:∃ r,rs[j]?=some r:=⟨_,List.getElem?_eq_getElem (by rw [hmh.out];exact hjm)⟩
    obtain⟨hk,hbase⟩:=hyh.out j r hr
    obtain⟨b,rfl,hb,a0,a1,a2,a3,a4,a5,a6⟩:=reg_at (hVh.out.ext hE) hr
    obtain⟨q,hq⟩:∃ q:Nat,j % (n+3)=q:=⟨_,rfl⟩
    have hq8:q<n+3:=by rw [<- hq];exact Nat.mod_lt _ (by omega)
    have hn3:=IntWalk.i64_in ((n:Int)+3) (by omega)
    have hz3:¬ n+3=0:=by omega
    have hz4:¬ (n:Int)+3=0:=by omega
    have htm:(j:Int).tmod ((n:Int)+3)=(q:Int):=by
     rw [Int.tmod_eq_emod_of_nonneg (by omega),<- hq,Int.natCast_emod]
     rfl
    have hwq:=IntWalk.i64_in ((q:Int)-3) (by omega)
    have hqh:=Lib.hid hq
    by_cases hcell:3+(j:Int)=cell/\3<=q
    · have dc:(r.base==cell)=true:=by rw [beq_iff_eq,hbase];exact hcell.1
      have dq:decide ((0:Int)<=(q:Int)-3)=true:=by rw [decide_eq_true_eq];omega
      have dq2:decide (3<=q)=true:=by rw [decide_eq_true_eq];omega
      have dq3:decide ((3:Int)<=(q:Int))=true:=by rw [decide_eq_true_eq];omega
      have hres:homeM m n cell=(q:Int)-3:=by
       unfold homeM
       rw [show cell-3=(j:Int) from by omega,show (j:Int) % ((n:Int)+3)=(q:Int) from by rw [<- hq,Int.natCast_emod];rfl,if_pos (by omega)]
      have hresh:=Lib.hid hres
      have hEx:=hE.alloc (.cells #[.int .i64 r.kind,.int .i64 r.base,.int .i64 r.loc,.int .i64 r.n,.int .i64 r.wr,.int .i64 r.rd,.int .i64 r.top] 56)
      clear hcell hq hres hbase hk hno hE
      go_wp2_with fail
      go_ret
      exact⟨by rw [hresh.out];rfl,hEx⟩
    · have hno2:Hid (∀ i:Nat,i<j+1->¬ (3+(i:Int)=cell/\3<=i % (n+3))):=Lib.hid fun i hi=>by
       by_cases e:i=j
       · rw [e,hq];exact hcell
       · exact hno.out i (by omega)
      have hEx:=hE.alloc (.cells #[.int .i64 r.kind,.int .i64 r.base,.int .i64 r.loc,.int .i64 r.n,.int .i64 r.wr,.int .i64 r.rd,.int .i64 r.top] 56)
      by_cases hcb:3+(j:Int)=cell
      · have dc:(r.base==cell)=true:=by rw [beq_iff_eq,hbase];exact hcb
        have dq:decide ((0:Int)<=(q:Int)-3)=false:=by rw [decide_eq_false_iff_not];omega
        have dq2:decide (3<=q)=false:=by rw [decide_eq_false_iff_not];omega
        have dq3:decide ((3:Int)<=(q:Int))=false:=by rw [decide_eq_false_iff_not];omega
        clear hcell hq hbase hk hno hE hcb
        go_wp2_with fail
        refine⟨⟨j+1,by first | rfl | go_num,by omega,hEx,hno2⟩,?_⟩
        simp [intOf];omega
      · have dc:(r.base==cell)=false:=by rw [beq_eq_false_iff_ne,hbase];exact hcb
        clear hcell hq hbase hk hno hE hcb
        go_wp2_with fail
        refine⟨⟨j+1,by first | rfl | go_num,by omega,hEx,hno2⟩,?_⟩
        simp [intOf];omega
  · obtain rfl:j=m:=by omega
    have dj:decide ((j:Int)<(j:Int))=false:=by rw [decide_eq_false_iff_not];omega
    have hres:homeM j n cell=-1:=by
     unfold homeM
     rw [if_neg]
     rintro ⟨z1,z2,z3⟩
     have:=hno.out (cell-3).toNat (by omega)
     refine this ⟨by omega,?_⟩
     have:((((cell-3).toNat % (n+3):Nat)):Int)=(cell-3) % ((n:Int)+3):=by
      rw [Int.natCast_emod,Int.toNat_of_nonneg (by omega)]
      rfl
     omega
    have hresh:=Lib.hid hres
    clear hno hres
    go_wp2_with fail
    go_ret
    exact⟨by rw [hresh.out];rfl,hE⟩
set_option maxRecDepth 100000 in
theorem yal1 (B p:Nat)(S:TS)(b c bl:Nat)(rs:List Reg)(w:World)(h:Plays B w p S)(hl:RegsAt [2,3,4] w p b rs)(he:YAll rs 2)(hlen:rs.length=5)(hc1:5<=c)(hc2:c<=9223372036854775807)(hta:TameA S)(hD:S.left<6)
  (c1:w.cell? ⟨bl,0,none⟩=some (.slice (some ⟨b,0,none⟩) 5 c)) :
  Calls Try.prog 121 #[.pointer (some ⟨p,0,none⟩),.pointer (some ⟨bl,0,none⟩)] w (Post encI B p w ((yOp 6 rs 2 1 0).run S)):=by
 have hq:=yacq_p B p 2 1 6 S rs (some ⟨b,0,none⟩) c w h (by decide) (by decide) (by decide) he (by omega) hc2 (fun _=>⟨b,rfl,hl⟩) hta hD
 rw [hlen] at hq
 generalize hR:Post encI B p w ((yOp 6 rs 2 1 0).run S)=R
 have hO:Owes R encI B p w ((yOp 6 rs 2 1 0).run S):=hR▸owes _ _ _ _ _
 clear hR
 replace hO:Owes R encI B p w (((yAcq 6 rs 2 1).bind fun _=>Prog.ret (0:Int)).run S):=hO
 have hK:=Keep.refl [2,3,4] B p w
 go_enter Try.func121,Try.ntmps121
 go_wp2_with fail
 clear c1
 refine tstep hO hK hq (fun _ h=>⟨rfl,h⟩) ?_
 intro v S1 w1 hr hP1 hk1 hK1 hO1
 have hf:=hO1.done (v:=0) hP1 hK1
 clear hO1 hP1 hK1 hr hk1 hO h hK hq hl
 go_wp2_with fail
 first | exact hf | (go_ret;exact hf)
set_option maxRecDepth 100000 in
theorem yal2 (B p:Nat)(S:TS)(b c bl:Nat)(rs:List Reg)(w:World)(h:Plays B w p S)(hl:RegsAt [2,3,4] w p b rs)(he:YAll rs 2)(hlen:rs.length=5)(hc1:5<=c)(hc2:c<=9223372036854775807)(hta:TameA S)(hD:S.left<6)
  (c1:w.cell? ⟨bl,0,none⟩=some (.slice (some ⟨b,0,none⟩) 5 c)) :
  Calls Try.prog 122 #[.pointer (some ⟨p,0,none⟩),.pointer (some ⟨bl,0,none⟩)] w (Post encI B p w ((yOp 6 rs 2 1 2).run S)):=by
 have hq:=yrel_p B p 2 1 6 S rs (some ⟨b,0,none⟩) c w h (by decide) (by decide) (by decide) he (by omega) hc2 (fun _=>⟨b,rfl,hl⟩) hta hD
 rw [hlen] at hq
 generalize hR:Post encI B p w ((yOp 6 rs 2 1 2).run S)=R
 have hO:Owes R encI B p w ((yOp 6 rs 2 1 2).run S):=hR▸owes _ _ _ _ _
 clear hR
 replace hO:Owes R encI B p w (((yRel rs 2 1).bind fun _=>Prog.ret (0:Int)).run S):=hO
 have hK:=Keep.refl [2,3,4] B p w
 go_enter Try.func122,Try.ntmps122
 go_wp2_with fail
 clear c1
 refine tstep hO hK hq (fun _ h=>⟨rfl,h⟩) ?_
 intro v S1 w1 hr hP1 hk1 hK1 hO1
 have hf:=hO1.done (v:=0) hP1 hK1
 clear hO1 hP1 hK1 hr hk1 hO h hK hq hl
 go_wp2_with fail
 first | exact hf | (go_ret;exact hf)
theorem tame_list {l:List Int}(h:∀ v∈l,0<=v/\v<=1048576):TameA (TS0 [] l):=h
set_option maxRecDepth 100000 in
set_option maxHeartbeats 1000000 in
theorem alive47 (w:World):Calls Try.prog 47 #[] w fun e w'=>e=.returned (.bool true)/\Ext w w':=by
 have hmf:∀ (fn:Fn) (first cap:Array Value) (w:World),(Instr.makeFunc fn first cap).run Try.prog w=.ok (.func fn first cap) w:=fun _ _ _ _=>rfl
 go_enter Try.func47,Try.ntmps47
 go_wp2_with fail
 refine (yallw_p 2 w (by decide) (by decide)).mono ?_
 rintro e w1 ⟨v1,rfl,hW,hX⟩
 have hSm:=yang_some 2 v1 w1 hW (by decide) (by decide)
 obtain⟨Aw,cw,rfl,_,_,_⟩:=hW
 go_wp2_with fail
 refine hSm.mono ?_
 rintro e w2 ⟨A,c,rs,rfl,he,hy,hc1,hc2,hx2,hreg⟩
 have hlen:rs.length=5:=by rw [he.len];decide +kernel
 obtain⟨b,rfl,-,hb,hc⟩:=hreg (by rintro rfl;simp at hlen)
 rw [hlen] at hc1 ⊢
 replace hX:=hX.trans hx2
 clear hSm hx2 hreg
 go_upto_region 4 with fail
 have g1:=Blk.new w2 (.cells #[.slice (some ⟨b,0,none⟩) 5 c] 44)
 have x1:=(Ext.refl w2).alloc (.cells #[.slice (some ⟨b,0,none⟩) 5 c] 44)
 have hA:=ints_new (w2.alloc (.cells #[.slice (some ⟨b,0,none⟩) 5 c] 44)) [0,0,0,0] (by simp)
 have x3:=(Ext.refl (w2.alloc (.cells #[.slice (some ⟨b,0,none⟩) 5 c] 44))).alloc (.cells (([0,0,0,0]:List Int).map (Value.int .i64)).toArray 3)
 have c_g1:=g1.cells
 have hmk:=make_ints 4 4 rfl (by decide) (w2.alloc (.cells #[.slice (some ⟨b,0,none⟩) 5 c] 44))
 replace g1:=g1.ext x3
 replace x1:=x1.trans x3
 simp only [World.size_alloc,zeros,List.replicate,List.map_cons,List.map_nil,List.length_cons,List.length_nil] at hA g1 x1 x3 hmk
 clear x3
 go_wp2_with fail
 have hsz:w2.heap.size+1<(World.alloc (World.alloc w2 (.cells #[.slice (some ⟨b,0,none⟩) 5 c] 44)) (.cells #[.int .i64 0,.int .i64 0,.int .i64 0,.int .i64 0] 3)).heap.size:=by simp
 clear hmk c_g1
 generalize World.alloc (World.alloc w2 _) _=W0 at *
 have hL2:levels ((2:Nat):Int)=1:=by decide +kernel
 have r1:(yOp 6 rs 2 1 0).run (TS0 [] [0,0,0,0])=(treeM (yask 1 2 1) 6 (some (0,.out))).run (TS0 [] [0,0,0,0]):=by
  have:=yOp_eq (D:=6) (ph:=0) hy he (by decide) (show 1<2 by decide) (by decide) (by rw [hL2];decide) (TS0 [] [0,0,0,0]) (by decide)
  rw [hL2] at this
  exact this
 have r2:(yOp 6 rs 2 1 2).run (TS0 [] [0,2])=(treeM (yask 1 2 1) 6 (some (0,.inn))).run (TS0 [] [0,2]):=by
  have:=yOp_eq (D:=6) (ph:=2) hy he (by decide) (show 1<2 by decide) (by decide) (by rw [hL2];decide) (TS0 [] [0,2]) (by decide)
  rw [hL2] at this
  exact this
 have hP1:=play_int 121 #[.pointer (some ⟨w2.heap.size,0,none⟩)] (yOp 6 rs 2 1 0) none 0 [] (some ⟨w2.heap.size+1,0,none⟩) 4 [0,0,0,0] W0 (Ints.nil _) (by simp) hA (by decide) (fun k hk=>by simp only [Value.ownBlock,Option.some.injEq] at hk;omega) (fun _ _=>rfl) (fun W p hxW hP=>yal1 _ p _ b c w2.heap.size rs W hP (regsP hb hc (x1.trans hxW) hP x1.size) he hlen hc1 hc2 (tame_list (by decide)) (by decide) ((g1.ext hxW).cells 0))
 rw [r1] at hP1
 refine hP1.mono ?_
 clear hP1 r1
 rintro e y1 ⟨v1,rfl,hO,hx1⟩
 have e1:((treeM (yask 1 2 1) 6 (some (0,.out))).run (TS0 [] [0,0,0,0])).1=some 0:=by kernel_rfl
 have e2:((treeM (yask 1 2 1) 6 (some (0,.out))).run (TS0 [] [0,0,0,0])).2.acc.length=4:=by kernel_rfl
 have e3:((treeM (yask 1 2 1) 6 (some (0,.out))).run (TS0 [] [0,0,0,0])).2.acc[2]?=some ⟨2,7,0⟩:=by kernel_rfl
 rw [e1] at hO ⊢
 generalize ((treeM (yask 1 2 1) 6 (some (0,.out))).run (TS0 [] [0,0,0,0])).2=S1 at *
 obtain⟨A1,c1,A1',c1',vs1,L1,rfl,hO⟩:=hO
 obtain⟨As1,k1,hvs1,_,_⟩:=hO.locs.slice
 subst hvs1
 obtain⟨u1,rfl,hu1,z10,z11,z12⟩:=hO.accs.at_ e3
 simp only [Nat.reduceMul,Nat.reduceAdd] at z10 z11 z12
 unfold outV
 rw [e2] at *
 simp only [Option.getD_some,Option.isSome_some]
 replace g1:=g1.ext hx1
 replace x1:=x1.trans hx1
 generalize (shortL L1).length=n1 at *
 clear e1 e2 e3 hO hA hsz hx1
 have o1:=(Ext.refl y1).alloc (.cells #[.bool true,.slice (some ⟨u1,0,none⟩) 4 c1,.slice A1' S1.nts.length c1',.slice As1 n1 k1] 30)
 have g3:=Blk.new y1 (.cells #[.bool true,.slice (some ⟨u1,0,none⟩) 4 c1,.slice A1' S1.nts.length c1',.slice As1 n1 k1] 30)
 go_upto_region 5 with fail
 have hA:=ints_new (y1.alloc (.cells #[.bool true,.slice (some ⟨u1,0,none⟩) 4 c1,.slice A1' S1.nts.length c1',.slice As1 n1 k1] 30)) [0,2] (by simp)
 have x3:=(Ext.refl (y1.alloc (.cells #[.bool true,.slice (some ⟨u1,0,none⟩) 4 c1,.slice A1' S1.nts.length c1',.slice As1 n1 k1] 30))).alloc (.cells (([0,2]:List Int).map (Value.int .i64)).toArray 3)
 replace g3:=g3.ext x3
 replace o1:=o1.trans x3
 replace g1:=g1.ext o1
 replace x1:=x1.trans o1
 replace z10:=(o1.cell (p:=⟨u1,6,none⟩) hu1).trans z10
 replace z11:=(o1.cell (p:=⟨u1,7,none⟩) hu1).trans z11
 replace z12:=(o1.cell (p:=⟨u1,8,none⟩) hu1).trans z12
 simp only [World.size_alloc,List.map_cons,List.map_nil,List.length_cons,List.length_nil] at hA g3 g1 x1 z10 z11 z12 o1
 have hu1':=Nat.lt_of_lt_of_le hu1 o1.size
 have hsz:y1.heap.size+1<(World.alloc (World.alloc y1 (.cells #[.bool true,.slice (some ⟨u1,0,none⟩) 4 c1,.slice A1' S1.nts.length c1',.slice As1 n1 k1] 30)) (.cells #[.int .i64 0,.int .i64 2] 3)).heap.size:=by simp
 have c_g1:=g1.cells
 clear x3 hu1 o1
 go_wp2_with fail
 generalize World.alloc (World.alloc y1 _) _=W1 at *
 have hP2:=play_int 122 #[.pointer (some ⟨w2.heap.size,0,none⟩)] (yOp 6 rs 2 1 2) none 0 [] (some ⟨y1.heap.size+1,0,none⟩) 2 [0,2] W1 (Ints.nil _) (by simp) hA (by decide) (fun k hk=>by simp only [Value.ownBlock,Option.some.injEq] at hk;omega) (fun _ _=>rfl) (fun W p hxW hP=>yal2 _ p _ b c w2.heap.size rs W hP (regsP hb hc (x1.trans hxW) hP x1.size) he hlen hc1 hc2 (tame_list (by decide)) (by decide) ((g1.ext hxW).cells 0))
 rw [r2] at hP2
 refine hP2.mono ?_
 clear hP2 r2
 rintro e y2 ⟨v2,rfl,hO,hx2⟩
 have e1:((treeM (yask 1 2 1) 6 (some (0,.inn))).run (TS0 [] [0,2])).1=some 0:=by kernel_rfl
 have e2:((treeM (yask 1 2 1) 6 (some (0,.inn))).run (TS0 [] [0,2])).2.acc.length=2:=by kernel_rfl
 rw [e1] at hO ⊢
 generalize ((treeM (yask 1 2 1) 6 (some (0,.inn))).run (TS0 [] [0,2])).2=S2 at *
 obtain⟨A2,d2,A2',d2',As2,k2,n2,rfl⟩:=hO.parts
 rw [e2] at *
 simp only [Option.getD_some,Option.isSome_some]
 have s2:=(Ext.refl y2).alloc (.cells #[.bool true,.slice A2 2 d2,.slice A2' S2.nts.length d2',.slice As2 n2 k2] 30)
 have m2:=Blk.new y2 (.cells #[.bool true,.slice A2 2 d2,.slice A2' S2.nts.length d2',.slice As2 n2 k2] 30)
 replace s2:=hx2.trans s2
 replace g1:=g1.ext s2
 replace g3:=g3.ext s2
 replace x1:=x1.trans s2
 replace z10:=(s2.cell (p:=⟨u1,6,none⟩) hu1').trans z10
 replace z11:=(s2.cell (p:=⟨u1,7,none⟩) hu1').trans z11
 replace z12:=(s2.cell (p:=⟨u1,8,none⟩) hu1').trans z12
 clear e1 e2 hO hx2 hA hsz s2 hu1' c_g1
 have hV:Vals w2 (some ⟨b,0,none⟩) (rs.flatMap regVals):=fun _=>⟨b,rfl,hb,hc⟩
 have hm:=fun (cell:Int) W (hx:Ext w2 W)=>yhome_p 2 rs (some ⟨b,0,none⟩) c cell W (by decide) (by decide) (by omega) hy (hV.ext hx)
 rw [hlen] at hm
 have hmh:=Lib.hid hm
 have hXh:=Lib.hid hX
 clear hm hV hc he hy hlen hX
 have hXh2:=Lib.hid (hXh.out.trans x1)
 have hx1h:=Lib.hid x1
 clear x1
 go_upto_region 6 with fail
 generalize World.alloc y2 _=W2 at *
 have c_g1:=g1.cells
 have c_g3:=g3.cells
 have c_m2:=m2.cells
 clear g1 g3 m2
 go_wp2_with fail
 refine (hmh.out 7 _ hx1h.out).mono ?_
 rintro e w5 ⟨rfl,hx⟩
 rw [show homeM 5 2 7=1 from by decide]
 have c_g1':w5.cell? ⟨w2.heap.size,0,none⟩=some (.slice (some ⟨b,0,none⟩) 5 c):=(hx.cell (p:=⟨w2.heap.size,0,none⟩) (cell_lt (c_g1 0))).trans (c_g1 0)
 have hx1i:=Lib.hid (hx1h.out.trans hx)
 clear c_g1 c_g3 c_m2 hx1h z10 z11 z12 hx
 go_wp2_with fail
 refine (hmh.out 3 _ hx1i.out).mono ?_
 rintro e w6 ⟨rfl,hx⟩
 rw [show homeM 5 2 3=-1 from by decide]
 have hx1j:=Lib.hid (hx1i.out.trans hx)
 clear hx hx1i c_g1'
 go_wp2_with fail
 refine (ywants_0 _).mono ?_
 rintro e w7 ⟨rfl,hx⟩
 have hf:=Lib.hid (hXh.out.trans (hx1j.out.trans hx))
 clear hx hx1j hmf hmh
 go_wp2_with fail
 go_ret
 exact⟨rfl,hf.out⟩
end Go.Proofs.Ytbphlkaihfbgeaa
namespace Kv
def RemB {α:Type} (f:Int->Bool) (T:Prog α) (r:Nat):Prop:=∀ S:TS,∃ l,(T.run S).2.acc=S.acc++l/\l.countP (fun a=>f a.cell)<=r
section
variable {f:Int->Bool} {α β:Type}
theorem RemB.ret (a:α)(r:Nat):RemB f (.ret a) r:=fun S=>⟨[],by simp [Prog.run],by simp⟩
theorem RemB.mono {T:Prog α}{r r':Nat}(h:RemB f T r)(hr:r<=r'):RemB f T r':=fun S=>by
 obtain⟨l,h1,h2⟩:=h S
 exact⟨l,h1,Nat.le_trans h2 hr⟩
theorem RemB.rd (c:Int):RemB f (rd c) (if f c=true then 1 else 0):=fun S=>by
 refine⟨[⟨1,c,0⟩],?_,by simp [List.countP_cons]⟩
 show (Prog.run (.read c fun v=>.ret v) S).2.acc=_
 simp only [Prog.run]
 cases S.next <;> rfl
theorem RemB.wr (c v:Int):RemB f (wr c v) (if f c=true then 1 else 0):=fun S=>by
 refine⟨[⟨2,c,v⟩],?_,by simp [List.countP_cons]⟩
 show (Prog.run (.write c v fun _=>.ret ()) S).2.acc=_
 simp only [Prog.run]
 cases S.next <;> rfl
theorem RemB.bind {T:Prog α}{g:α->Prog β}{r1 r2:Nat}(h1:RemB f T r1)(h2:∀ a,RemB f (g a) r2):RemB f (T.bind g) (r1+r2):=fun S=>by
 obtain⟨l1,a1,a2⟩:=h1 S
 cases hr:T.run S with
 | mk o S1 =>
   rw [hr] at a1
   cases o with
   | none =>
     rw [Prog.run_bind_none hr]
     exact⟨l1,a1,by omega⟩
   | some v =>
     rw [Prog.run_bind_some hr]
     obtain⟨l2,b1,b2⟩:=h2 v S1
     refine⟨l1++l2,by rw [b1,a1,List.append_assoc],?_⟩
     rw [List.countP_append]
     omega
theorem RemB.ite {T U:Prog α}{c:Prop} [Decidable c] {r:Nat}(h1:c->RemB f T r)(h2:¬ c->RemB f U r):RemB f (if c then T else U) r:=by
 split
 · exact h1 ‹_›
 · exact h2 ‹_›
theorem RemB.forP {σ:Type}{T:Int->σ->Prog σ}{r:Nat}:∀ (l:List Int) (x:σ),(∀ y∈l,∀ x,RemB f (T y x) r)->RemB f (forP T l x) (l.length*r)
 | [],x,_=>by
   rw [List.length_nil,Nat.zero_mul]
   exact .ret _ _
 | y :: l,x,h=>by
   have:=RemB.bind (h y (by simp) x) (r2:=l.length*r) fun z=>RemB.forP l z fun y hy=>h y (by simp [hy])
   refine this.mono ?_
   rw [List.length_cons,Nat.succ_mul]
   omega
theorem RemB.zero {T:Prog α}{g:α->Prog β}{r:Nat}(h1:RemB f T 0)(h2:∀ a,RemB f (g a) r):RemB f (T.bind g) r:=(h1.bind h2).mono (by omega)
theorem RemB.one {T:Prog α}{g:α->Prog β}{r:Nat}(h1:RemB f T 1)(h2:∀ a,RemB f (g a) r):RemB f (T.bind g) (r+1):=(h1.bind h2).mono (by omega)
end
theorem remB_if {α:Type}{f:Int->Bool}{T:Prog α}{c:Int}(h:RemB f T (if f c=true then 1 else 0)):RemB f T 1:=h.mono (by split <;> omega)
section
variable {rs:List Reg} {n me x D:Nat} {f:Int->Bool}
theorem rem_spin (c:Int->Bool)(r:Reg)(m cell:Int)(hr:regR r m=rd cell)(hf:f cell=false):∀ k,RemB f (ySpin c r m k) 0
 | 0=>.ret _ _
 | k+1=>by
   rw [ySpin_one,hr]
   have h:=RemB.rd (f:=f) cell
   rw [if_neg (by rw [hf];decide)] at h
   exact h.zero fun u=>.ite (fun _=>rem_spin c r m cell hr hf k) (fun _=>.ret _ _)
theorem rem_enter (hy:YNat rs)(hg:YRegs rs (yo n x) n)(hme:me<n)(hf:f (ycell n (x / 2) (3+(me:Int)))=false):RemB f (yEnter D rs (yo n x) n me (x % 2)) 7:=by
 have hm2:x % 2<2:=Nat.mod_lt _ (by decide)
 have own:∀ v:Int,RemB f (regW (yReg rs (yo n x) (3+me)) me v) 0:=fun v=>by
  rw [yW hy hg rfl (i:=3+me) (by omega) (by omega)]
  have h:=RemB.wr (f:=f) (ycell n (x / 2) (3+(me:Int))) v
  rw [if_neg (by rw [hf];decide)] at h
  exact h
 have oneW:∀ (i:Nat) (j v:Int),j=(i:Int)->i<n+3->RemB f (regW (yReg rs (yo n x) j) me v) 1:=fun i j v hj hi=>by
  rw [yW hy hg rfl hj hi]
  exact remB_if (RemB.wr _ v)
 have oneR:∀ (i:Nat) (j:Int),j=(i:Int)->i<n+3->RemB f (regR (yReg rs (yo n x) j) me) 1:=fun i j hj hi=>by
  rw [yR hy hg rfl hj hi]
  exact remB_if (RemB.rd _)
 have hr:regR (yReg rs (yo n x) (3+me)) me=rd (ycell n (x / 2) (3+(me:Int))):=yR hy hg rfl (i:=3+me) (by omega) (by omega)
 have hend:RemB f (yEnd D rs (yo n x) me) 1:=by
  unfold yEnd yEnd2
  exact (rem_spin _ _ _ _ hr hf D).zero fun _=>(oneR 2 2 rfl (by omega)).one fun u=>.ite (fun _=>rem_spin _ _ _ _ hr hf D) (fun _=>.ret _ _)
 unfold yEnter
 refine (oneW (x % 2) _ _ rfl (by omega)).one fun _=>(oneW 2 2 _ rfl (by omega)).one fun _=>(own 0).zero fun _=>(oneR (1-x % 2) _ rfl (by omega)).one fun v=>.ite (fun _=>.ret _ _) fun _=>(oneR 2 2 rfl (by omega)).one fun u=>.ite (fun hu=>?_) (fun _=>.ret _ _)
 obtain⟨q,hq⟩:∃ q:Nat,v=(q:Int):=⟨v.toNat,by omega⟩
 refine (oneR (2+q) (2+v) (by omega) (by omega)).one fun y=>.ite (fun _=>(oneW (2+q) (2+v) 1 (by omega) (by omega)).one fun _=>hend) (fun _=>hend.mono (by decide))
theorem rem_leave (hy:YNat rs)(hg:YRegs rs (yo n x) n)(hme:me<n):RemB f (yLeave rs (yo n x) n me (x % 2)) 3:=by
 have hm2:x % 2<2:=Nat.mod_lt _ (by decide)
 have oneW:∀ (i:Nat) (j v:Int),j=(i:Int)->i<n+3->RemB f (regW (yReg rs (yo n x) j) me v) 1:=fun i j v hj hi=>by
  rw [yW hy hg rfl hj hi]
  exact remB_if (RemB.wr _ v)
 have oneR:∀ (i:Nat) (j:Int),j=(i:Int)->i<n+3->RemB f (regR (yReg rs (yo n x) j) me) 1:=fun i j hj hi=>by
  rw [yR hy hg rfl hj hi]
  exact remB_if (RemB.rd _)
 unfold yLeave
 refine (oneW (x % 2) _ _ rfl (by omega)).one fun _=>(oneR 2 2 rfl (by omega)).one fun u=>.ite (fun hu=>?_) (fun _=>.ret _ _)
 obtain⟨q,hq⟩:∃ q:Nat,u=(q:Int):=⟨u.toNat,by omega⟩
 exact oneW (2+q) (2+u) 2 (by omega) (by omega)
theorem home_own {n len X me:Nat}(hX:1<=X)(hle:X*(n+3)<=len)(hme:me<n):homeM len n (ycell n X (3+(me:Int)))=(me:Int):=by
 have e:ycell n X (3+(me:Int))-3=(((X-1)*(n+3)+(3+me):Nat):Int):=by
  unfold ycell yb
  omega
 have e2:(((X-1)*(n+3)+(3+me):Nat):Int) % ((n:Int)+3)=((3+me:Nat):Int):=by
  have h:((X-1)*(n+3)+(3+me)) % (n+3)=3+me:=by
   rw [Nat.add_comm,Nat.add_mul_mod_self_right,Nat.mod_eq_of_lt (by omega)]
  have h2:(((X-1)*(n+3)+(3+me):Nat):Int) % ((n+3:Nat):Int)=((((X-1)*(n+3)+(3+me)) % (n+3):Nat):Int):=(Int.natCast_emod _ _).symm
  rw [h] at h2
  exact h2
 have hlt:(X-1)*(n+3)+(3+me)<len:=by
  obtain⟨k,rfl⟩:∃ k,X=k+1:=⟨X-1,by omega⟩
  rw [Nat.succ_mul] at hle
  rw [Nat.add_sub_cancel]
  omega
 unfold homeM
 rw [e,e2,if_pos (by omega)]
 omega
theorem rem_all (hy:YNat rs)(hall:YAll rs n)(hn:n<=8)(hme:me<n) :
  RemB (fun c=>decide (homeM rs.length n c≠(me:Int))) ((yAcq D rs n me).bind fun _=>(yRel rs n me).bind fun _=>.ret (0:Int)) (10*levels n):=by
 have hp:=path_own hn hme
 have hl:(pathL n me).length=levels n:=by rw [hp,List.length_map,List.length_range]
 have hx:∀ y∈pathL n me,∃ Y:Nat,y=(Y:Int)/\2<=Y/\Y<2*2 ^ levels n:=fun y hyy=>by
  rw [hp] at hyy
  obtain⟨k,hk,rfl⟩:=List.mem_map.1 hyy
  have:=own_step hn hme (List.mem_range.1 hk)
  exact⟨_,rfl,this.1,this.2⟩
 have hf:∀ Y:Nat,2<=Y->Y<2*2 ^ levels n->(fun c=>decide (homeM rs.length n c≠(me:Int))) (ycell n (Y / 2) (3+(me:Int)))=false:=fun Y h1 h2=>by
  have:=home_own (n:=n) (len:=rs.length) (X:=Y / 2) (by omega) (by rw [hall.len];exact Nat.mul_le_mul_right _ (by omega)) hme
  simp [this]
 have h1:RemB (fun c=>decide (homeM rs.length n c≠(me:Int))) (yAcq D rs n me) (levels n*7):=by
  unfold yAcq
  have:=RemB.forP (f:=fun c=>decide (homeM rs.length n c≠(me:Int))) (T:=fun (x:Int) (_:Unit)=>yEnter D rs (yo n x.toNat) n me (x.toNat % 2)) (r:=7) (pathL n me) () fun y hyy _=>by
   obtain⟨Y,rfl,a1,a2⟩:=hx y hyy
   rw [Int.toNat_natCast]
   exact rem_enter hy (hall.node a1 a2) hme (hf Y a1 a2)
  rw [hl] at this
  exact this
 have h2:RemB (fun c=>decide (homeM rs.length n c≠(me:Int))) (yRel rs n me) (levels n*3):=by
  unfold yRel
  have:=RemB.forP (f:=fun c=>decide (homeM rs.length n c≠(me:Int))) (T:=fun (x:Int) (_:Unit)=>yLeave rs (yo n x.toNat) n me (x.toNat % 2)) (r:=3) (pathL n me).reverse () fun y hyy _=>by
   obtain⟨Y,rfl,a1,a2⟩:=hx y (List.mem_reverse.1 hyy)
   rw [Int.toNat_natCast]
   exact rem_leave hy (hall.node a1 a2) hme
  rw [List.length_reverse,hl] at this
  exact this
 exact (h1.bind fun _=>h2.bind fun _=>.ret _ 0).mono (by omega)
end
end Kv
namespace Go.Proofs.Ytbphlkaihfbgeaa
open Go.ChangeShapes Go.WideShapes Go.ChangeAt Go.RowKit Kv
def U8s (w:World) (v:Value) (l:List Int):Prop :=
 ∃ A c,v=.slice A l.length c/\l.length<=c/\c<=9223372036854775807/\(l≠[]->∃ b off,A=some ⟨b,off,none⟩/\b<w.heap.size/\∀ i x,l[i]?=some x->w.cell? ⟨b,off+i,none⟩=some (.int .u8 x))
theorem U8s.ext {w w':World}{v:Value}{l:List Int}(h:U8s w v l)(hx:Ext w w'):U8s w' v l:=by
 obtain⟨A,c,rfl,h1,h2,h3⟩:=h
 refine⟨A,c,rfl,h1,h2,fun hl=>?_⟩
 obtain⟨b,off,rfl,hb,hc⟩:=h3 hl
 exact⟨b,off,rfl,Nat.lt_of_lt_of_le hb (Ext.size hx),fun i x hi=>(Ext.cell hx (p:=⟨b,off+i,none⟩) hb).trans (hc i x hi)⟩
theorem U8s.at_ {w:World}{A:Option Addr}{n c:Nat}{l:List Int}(h:U8s w (.slice A n c) l){i:Nat}{x:Int}(hi:l[i]?=some x) :
  ∃ b off,A=some ⟨b,off,none⟩/\b<w.heap.size/\w.cell? ⟨b,off+i,none⟩=some (.int .u8 x):=by
 obtain⟨A',c',he,h1,h2,h3⟩:=h
 injection he with e1 e2 e3
 subst e1 e2 e3
 have hl:l≠[]:=by rintro rfl;simp at hi
 obtain⟨b,off,rfl,hb,hc⟩:=h3 hl
 exact⟨b,off,rfl,hb,hc i x hi⟩
end Go.Proofs.Ytbphlkaihfbgeaa
namespace Kv
def remC (f:Int->Bool) (l:List Acc) (k:Nat):Nat:=(l.take k).countP fun a=>f a.cell
theorem remC_succ {f:Int->Bool}{l:List Acc}{k:Nat}{a:Acc}(h:l[k]?=some a):remC f l (k+1)=remC f l k+if f a.cell=true then 1 else 0:=by
 unfold remC
 rw [List.take_add_one,h]
 simp [List.countP_append,List.countP_cons]
theorem remC_le {f:Int->Bool}{l:List Acc}(k:Nat):remC f l k<=k:=by
 unfold remC
 refine Nat.le_trans (List.countP_le_length ..) ?_
 rw [List.length_take]
 omega
end Kv
namespace Go.Proofs.Ytbphlkaihfbgeaa
open Go.RowKit Kv
theorem yheldP_of {w0 W:World}{B p bb:Nat}{S:TS}{o:Obj}(hb:Blk w0 bb o)(hx:Ext w0 W)(hP:Plays B W p S)(hB:w0.heap.size<=B):HeldP W p bb o:=by
 refine⟨hb.ext hx,fun ho=>?_⟩
 obtain⟨_,_,_,_,_,_,h⟩:=hP
 have:=(h.own ho).1
 have:=hb.lt
 omega
set_option maxRecDepth 100000 in
theorem yremcl (B p m t D:Nat)(S:TS)(A:Option Addr)(c bl bn bt:Nat)(rs:List Reg)(w:World)(h:Plays B w p S)(hl:rs≠[]->∃ b,A=some ⟨b,0,none⟩/\RegsAt [2,3,4] w p b rs)(he:YAll rs m)(h1:1<=m)(h8:m<=8)(ht:t<m)(hc1:rs.length<=c)(hc2:c<=9223372036854775807)(hta:TameA S)(hD:S.left<D)
  (c1:HeldP w p bl (.cells #[.slice A rs.length c] 44))(c2:HeldP w p bn (.cells #[.int .i64 m] 3))(c3:HeldP w p bt (.cells #[.int .i64 t] 3)) :
  Calls Try.prog 49 #[.pointer (some ⟨p,0,none⟩),.pointer (some ⟨bl,0,none⟩),.pointer (some ⟨bn,0,none⟩),.pointer (some ⟨bt,0,none⟩)] w (Post encI B p w (((yAcq D rs m t).bind fun _=>(yRel rs m t).bind fun _=>.ret (0:Int)).run S)):=by
 have hq1:=Lib.hid fun W S' (hP:Plays B W p S') (hk:KeepP B p w W) (hta:TameA S') (hD:S'.left<D)=>yacq_p B p m t D S' rs A c W hP h1 h8 ht he hc1 hc2 (fun hne=>(hl hne).imp fun b hb=>⟨hb.1,hb.2.keep hk⟩) hta hD
 have hq2:=Lib.hid fun W S' (hP:Plays B W p S') (hk:KeepP B p w W) (hta:TameA S') (hD:S'.left<D)=>yrel_p B p m t D S' rs A c W hP h1 h8 ht he hc1 hc2 (fun hne=>(hl hne).imp fun b hb=>⟨hb.1,hb.2.keep hk⟩) hta hD
 obtain⟨k,hk⟩:∃ k,rs.length=k:=⟨_,rfl⟩
 rw [hk] at hq1 hq2 c1
 clear hk hc1 he hl
 generalize hR:Post encI B p w (((yAcq D rs m t).bind fun _=>(yRel rs m t).bind fun _=>.ret (0:Int)).run S)=R
 have hO:Owes R encI B p w (((yAcq D rs m t).bind fun _=>(yRel rs m t).bind fun _=>.ret (0:Int)).run S):=hR▸owes _ _ _ _ _
 clear hR
 have hK:=Keep.refl [2,3,4] B p w
 have hP:=h
 have c_1:=c1.cells
 have c_2:=c2.cells
 have c_3:=c3.cells
 clear h
 go_enter Try.func49,Try.ntmps49
 go_wp2_with fail
 refine tstep hO hK (hq1.out _ _ hP hK hta hD) (fun _ h=>⟨rfl,h⟩) ?_
 clear hO hP
 intro v S1 w1 hr hP hk1 hK1 hO
 replace hta:=hta.run hr
 replace hD:=Nat.lt_of_le_of_lt (bind_ran (g:=fun u=>Prog.ret u) hr) hD
 replace c1:=c1.keep hk1
 replace c2:=c2.keep hk1
 replace c3:=c3.keep hk1
 clear hr hk1 hK c_1 c_2 c_3
 have c_1:=c1.cells
 have c_2:=c2.cells
 have c_3:=c3.cells
 go_wp2_with fail
 refine tstep hO hK1 (hq2.out _ _ hP hK1 hta hD) (fun _ h=>⟨rfl,h⟩) ?_
 clear hO hP
 intro v S2 w2 hr hP hk2 hK2 hO
 have hf:=hO.done (v:=0) hP hK2
 clear hO hP hK1 hK2 hr hk2 c1 c2 c3 c_1 c_2 c_3 hq1 hq2
 go_wp2_with fail
 first | exact hf | (go_ret;exact hf)
set_option maxRecDepth 100000 in
set_option maxHeartbeats 4000000 in
theorem yrem_walk (n me:Nat)(vA:Value)(La:List Int)(w:World)(hn:n<256)(hme:me<256)(hA:Ints w vA La) :
  Calls Try.prog 8 #[.int .u8 n,.int .u8 me,vA] w fun e w'=>e=.returned (.bool true)/\Ext w w':=by
 have hmf:∀ (fn:Fn) (first cap:Array Value) (w:World),(Instr.makeFunc fn first cap).run Try.prog w=.ok (.func fn first cap) w:=fun _ _ _ _=>rfl
 obtain⟨m,hm⟩:∃ m:Nat,1+(n:Int) % 8=m:=⟨1+n % 8,by omega⟩
 have m1:1<=m:=by omega
 have m8:m<=8:=by omega
 obtain⟨Aa,ca,rfl,p3,p4⟩:=hA.slice
 go_enter Try.func8,Try.ntmps8
 by_cases hl:1500<La.length
 · have d1:decide ((1500:Int)<(La.length:Int))=true:=by rw [decide_eq_true_eq];omega
   go_wp2_with fail
   refine (alive47 _).mono ?_
   rintro e w7 ⟨rfl,hx7⟩
   have hf:=Lib.hid hx7
   clear hx7
   go_wp2_with fail
   go_ret
   exact⟨rfl,hf.out⟩
 have d1:decide ((1500:Int)<(La.length:Int))=false:=by rw [decide_eq_false_iff_not];omega
 go_upto_region 4 with fail
 have bN:=Blk.new w (.cells #[.int .i64 m] 3)
 have hX:=(Ext.refl w).alloc (.cells #[.int .i64 m] 3)
 generalize hbn:w.heap.size=bn at *
 generalize World.alloc w _=V0 at *
 have hS:∀ w',Ext V0 w'->w'.cell? ⟨bn,0,none⟩=some (.int .i64 m):=fun w' hx=>(bN.ext hx).cells 0
 have hWp:∀ W,Calls Try.prog 48 #[.int .i64 m] W fun e w'=>∃ A k c,e=.returned (.slice A k c)/\Ext W w'/\∀ W2,Ext w' W2->Calls Try.prog 21 #[.slice A k c,.int .i64 m,.int .i64 1] W2 fun e w'=>∃ A c rs,e=.returned (.slice A rs.length c)/\YAll rs m/\YNat rs/\rs.length<=c/\c<=9223372036854775807/\Ext W2 w'/\(rs≠[]->∃ b,A=some ⟨b,0,none⟩/\b<w'.heap.size/\(∀ (i:Nat) u,(rs.flatMap regVals)[i]?=some u->w'.cell? ⟨b,i,none⟩=some u)):=fun W=>by
  refine (yallw_p m W m1 (by omega)).mono ?_
  rintro e w1 ⟨v1,rfl,hW,hx⟩
  obtain⟨A,c,rfl,z⟩:=id hW
  refine⟨A,_,c,rfl,hx,fun W2 hx2=>(yang_some m _ W2 (hW.ext hx2) m1 (by omega)).mono ?_⟩
  rintro e w' ⟨A,c,rs,rfl,q1,q2,q3,q4,q5,q6⟩
  refine⟨A,c,rs,rfl,q1,q2,q3,q4,q5,fun hne=>?_⟩
  obtain⟨b,e1,_,e2,e3⟩:=q6 hne
  exact⟨b,e1,e2,e3⟩
 have hWph:=Lib.hid hWp
 go_cut [8] (fun s6 wx=>∃ bl A c rs,s6=.pointer (some ⟨bl,0,none⟩)/\YAll rs m/\YNat rs/\rs.length<=c/\c<=9223372036854775807/\Ext V0 wx/\V0.heap.size<=bl/\Blk wx bl (.cells #[.slice A rs.length c] 44)/\(rs≠[]->∃ b,A=some ⟨b,0,none⟩/\b<wx.heap.size/\(∀ (i:Nat) u,(rs.flatMap regVals)[i]?=some u->wx.cell? ⟨b,i,none⟩=some u)))
 case first =>
  -- [dev
  have hWh:=Lib.hid hWp
  clear hWp
  refine wp_region_held_drew (S:=fun w'=>w'.cell? ⟨bn,0,none⟩=some (.int .i64 m)) rfl (hS _ (Ext.refl _).drew) (fun hHeld=>?_)
  refine tk 0 (v:=?_) rfl (by kernel_rfl) (fun _ _ _ h=>h) (by assumption) ?_ ?_
  rotate_left
  · (intro w hSw;(try dsimp only at hSw);go_simp;try with_reducible rfl)
  try simp only [put_pack]
  refine tk 2 (v:=?_) rfl (by kernel_rfl) (fun _ _ _ h=>h) (by assumption) ?_ ?_
  rotate_left
  · (intro w hSw;(try dsimp only at hSw);go_simp;try with_reducible rfl)
  try simp only [put_pack]
  refine wpAnyH_ready (rs:=[1,4]) (by kernel_rfl) (by simp) ?_
  refine AllReadyH.cons rfl (fun K hKK=>?_) (AllReadyH.cons rfl (fun K hKK=>?_) (AllReadyH.nil))
  · go_simp
    refine (hWh.out _).mono ?_
    rintro e w1 ⟨A,k,c0,rfl,hx1,hs1⟩
    have hx1d:=(Ext.refl V0).drew.trans hx1
    refine hKK.out _ _ (hS _ hx1d) (fun hHeld=>?_)
    clear hKK K
    try dsimp only
    refine wpAnyH_ready (rs:=[3,4]) (by kernel_rfl) (by simp) ?_
    refine AllReadyH.cons rfl (fun K hKK=>?_) (AllReadyH.cons rfl (fun K hKK=>?_) (AllReadyH.nil))
    · go_simp
      refine (hs1 _ (Ext.refl _)).mono ?_
      rintro e w2 ⟨A,c,rs,rfl,he,hy,u1,u2,hx2,hreg⟩
      have hx3:=hx1d.trans hx2
      refine hKK.out _ _ (hS _ hx3) (fun hHeld=>?_)
      clear hKK K
      try dsimp only
      have hz:=Blk.new w2 (.cells #[.slice none 0 0] 44)
      have hxq:=hx3.alloc (.cells #[.slice none 0 0] 44)
      have hVz:V0.heap.size<=w2.heap.size:=hx3.size
      replace hreg:=fun hne:rs≠[]=>(hreg hne).imp fun b hb=>show A=some ⟨b,0,none⟩/\b<(w2.alloc (.cells #[.slice none 0 0] 44)).heap.size/\(∀ (i:Nat) u,(rs.flatMap regVals)[i]?=some u->(w2.alloc (.cells #[.slice none 0 0] 44)).cell? ⟨b,i,none⟩=some u) from ⟨hb.1,by have:=hb.2.1;simp;omega,fun i u hu=>(((Ext.refl w2).alloc (.cells #[.slice none 0 0] 44)).cell (p:=⟨b,i,none⟩) hb.2.1).trans (hb.2.2 i u hu)⟩
      refine wpAnyH_ready (rs:=[4]) (by kernel_rfl) (by simp) ?_
      refine AllReadyH.cons rfl (fun K hKK=>?_) (AllReadyH.nil)
      go_simp
      generalize w2.heap.size=bl at *
      generalize World.alloc w2 _=wq at *
      refine hKK.out _ _ (hS _ hxq) (fun hHeld=>?_)
      clear hKK K
      try dsimp only
      have c_hz:=hz.cells 0
      have hfz:=frozen_of_heap hz 0
      refine wpAnyH_ready (rs:=[5]) (by kernel_rfl) (by simp) ?_
      refine AllReadyH.cons rfl (fun K hKK=>?_) (AllReadyH.nil)
      simp only [List.getElem?_toArray,List.getElem?_cons_zero] at c_hz
      go_simp
      clear c_hz hfz
      obtain⟨z1,z2⟩:=box_end (v:=.slice A rs.length c) hz hxq hVz
      have hreg2:=fun hne:rs≠[]=>(hreg hne).imp fun b hb=>show A=some ⟨b,0,none⟩/\b<_/\_ from ⟨hb.1,(lay_end (v:=.slice A rs.length c) hz hxq hVz hb.2.1 hne hb.2.2).2.2⟩
      refine hKK.out _ _ (hS _ z1) (fun hHeld=>?_)
      clear hKK K
      try dsimp only
      refine wpAnyH_done (by kernel_rfl) ?_ _
      go_simp
      go_wp2_with fail
      go_meet
      exact⟨_,A,c,rs,rfl,he,hy,u1,u2,z1,hVz,z2,hreg2⟩
    · go_simp
      have hz:=Blk.new w1 (.cells #[.slice none 0 0] 44)
      have hxq:=hx1d.alloc (.cells #[.slice none 0 0] 44)
      have hs2:=hs1 _ ((Ext.refl w1).alloc (.cells #[.slice none 0 0] 44))
      have hVz:V0.heap.size<=w1.heap.size:=hx1d.size
      generalize w1.heap.size=bl at *
      generalize World.alloc w1 _=wq at *
      refine hKK.out _ _ (hS _ hxq) (fun hHeld=>?_)
      clear hKK K
      try dsimp only
      refine wpAnyH_ready (rs:=[3]) (by kernel_rfl) (by simp) ?_
      refine AllReadyH.cons rfl (fun K hKK=>?_) (AllReadyH.nil)
      go_simp
      refine (hs2).mono ?_
      rintro e w2 ⟨A,c,rs,rfl,he,hy,u1,u2,hx2,hreg⟩
      have hx3:=hxq.trans hx2
      refine hKK.out _ _ (hS _ hx3) (fun hHeld=>?_)
      clear hKK K
      try dsimp only
      replace hz:=hz.ext hx2
      replace hxq:=hx3
      have c_hz:=hz.cells 0
      have hfz:=frozen_of_heap hz 0
      refine wpAnyH_ready (rs:=[5]) (by kernel_rfl) (by simp) ?_
      refine AllReadyH.cons rfl (fun K hKK=>?_) (AllReadyH.nil)
      simp only [List.getElem?_toArray,List.getElem?_cons_zero] at c_hz
      go_simp
      clear c_hz hfz
      obtain⟨z1,z2⟩:=box_end (v:=.slice A rs.length c) hz hxq hVz
      have hreg2:=fun hne:rs≠[]=>(hreg hne).imp fun b hb=>show A=some ⟨b,0,none⟩/\b<_/\_ from ⟨hb.1,(lay_end (v:=.slice A rs.length c) hz hxq hVz hb.2.1 hne hb.2.2).2.2⟩
      refine hKK.out _ _ (hS _ z1) (fun hHeld=>?_)
      clear hKK K
      try dsimp only
      refine wpAnyH_done (by kernel_rfl) ?_ _
      go_simp
      go_wp2_with fail
      go_meet
      exact⟨_,A,c,rs,rfl,he,hy,u1,u2,z1,hVz,z2,hreg2⟩
  · go_simp
    have hz:Blk ((World.drew V0).alloc (.cells #[.slice none 0 0] 44)) V0.heap.size (.cells #[.slice none 0 0] 44):=Blk.new (World.drew V0) (.cells #[.slice none 0 0] 44)
    have hxq:=(Ext.refl V0).drew.alloc (.cells #[.slice none 0 0] 44)
    have hVz:V0.heap.size<=V0.heap.size:=Nat.le_refl _
    refine hKK.out _ _ (hS _ hxq) (fun hHeld=>?_)
    clear hKK K
    try dsimp only
    refine wpAnyH_ready (rs:=[1]) (by kernel_rfl) (by simp) ?_
    refine AllReadyH.cons rfl (fun K hKK=>?_) (AllReadyH.nil)
    go_simp
    refine (hWh.out _).mono ?_
    rintro e w1 ⟨A,k,c0,rfl,hx1,hs1⟩
    replace hz:=hz.ext hx1
    replace hxq:=hxq.trans hx1
    refine hKK.out _ _ (hS _ hxq) (fun hHeld=>?_)
    clear hKK K
    try dsimp only
    refine wpAnyH_ready (rs:=[3]) (by kernel_rfl) (by simp) ?_
    refine AllReadyH.cons rfl (fun K hKK=>?_) (AllReadyH.nil)
    go_simp
    refine (hs1 _ (Ext.refl _)).mono ?_
    rintro e w2 ⟨A,c,rs,rfl,he,hy,u1,u2,hx2,hreg⟩
    have hx3:=hxq.trans hx2
    refine hKK.out _ _ (hS _ hx3) (fun hHeld=>?_)
    clear hKK K
    try dsimp only
    replace hz:=hz.ext hx2
    replace hxq:=hx3
    have c_hz:=hz.cells 0
    have hfz:=frozen_of_heap hz 0
    refine wpAnyH_ready (rs:=[5]) (by kernel_rfl) (by simp) ?_
    refine AllReadyH.cons rfl (fun K hKK=>?_) (AllReadyH.nil)
    simp only [List.getElem?_toArray,List.getElem?_cons_zero] at c_hz
    go_simp
    clear c_hz hfz
    obtain⟨z1,z2⟩:=box_end (v:=.slice A rs.length c) hz hxq hVz
    have hreg2:=fun hne:rs≠[]=>(hreg hne).imp fun b hb=>show A=some ⟨b,0,none⟩/\b<_/\_ from ⟨hb.1,(lay_end (v:=.slice A rs.length c) hz hxq hVz hb.2.1 hne hb.2.2).2.2⟩
    refine hKK.out _ _ (hS _ z1) (fun hHeld=>?_)
    clear hKK K
    try dsimp only
    refine wpAnyH_done (by kernel_rfl) ?_ _
    go_simp
    go_wp2_with fail
    go_meet
    exact⟨_,A,c,rs,rfl,he,hy,u1,u2,z1,hVz,z2,hreg2⟩
  -- dev]
 case rest =>
 obtain⟨bl,A,c,rs,rfl,he,hy,u1,u2,hx0,hVl,kL,hreg⟩:=hcut
 clear hWp hS
 have kN:=bN.ext hx0
 have hX2:=hX.trans hx0
 clear hX bN hx0 hVl
 obtain⟨KN,hK⟩:∃ KN,(2 ^ levels m-1)*(m+3)=KN:=⟨_,rfl⟩
 have hrl:rs.length=KN:=by rw [he.len];exact hK
 have hK77:KN<=77:=by
  have:=yAllW_le (n:=m) (by omega)
  rw [yAllW_len,hK] at this
  exact this
 have hreg0:=Lib.hid hreg
 have heh:=Lib.hid he
 have hyh:=Lib.hid hy
 have hc1h:Hid (rs.length<=c):=Lib.hid u1
 have hc2h:Hid (c<=9223372036854775807):=Lib.hid u2
 have hrlh:=Lib.hid hrl
 have hKh:=Lib.hid hK
 rw [hrl] at kL
 clear hreg he hy u1 u2 hrl hK
 have hAl:∀ W,Calls Try.prog 48 #[.int .i64 m] W fun e w'=>∃ A c,e=.returned (.slice A KN c)/\Ext W w':=fun W=>by
  refine (yallw_p m W m1 (by omega)).mono ?_
  rintro e w1 ⟨v1,rfl,⟨A,c,rfl,_⟩,hx⟩
  refine⟨A,c,?_,hx⟩
  rw [yAllW_len,hKh.out]
 have hAlh:=Lib.hid hAl
 clear hAl
 go_upto_region 5 with fail
 have c_N:wc.drew.cell? ⟨bn,0,none⟩=some (.int .i64 m):=kN.cells 0
 have c_L:wc.drew.cell? ⟨bl,0,none⟩=some (.slice A KN c):=kL.cells 0
 refine wp_region_held_drew (S:=fun w'=>w'.cell? ⟨bn,0,none⟩=some (.int .i64 m)/\w'.cell? ⟨bl,0,none⟩=some (.slice A KN c)) rfl ⟨c_N,c_L⟩ (fun hHeld=>?_)
 refine tkb 0 ?_
 iterate 3
  refine tkn (v:=?_) rfl (by kernel_rfl) (fun _ _ _ h=>h) (by assumption) ?_ ?_
  rotate_left
  · (intro w hSw;(try dsimp only at hSw);go_simp;try with_reducible rfl)
  try simp only [put_pack]
 refine tke ?_
 refine wpAnyH_ready (rs:=[3]) (by kernel_rfl) (by simp) ?_
 refine AllReadyH.cons rfl (fun K hKK=>?_) (AllReadyH.nil)
 go_simp
 refine (hAlh.out _).mono ?_
 rintro e w5 ⟨A5,c5,rfl,hx5⟩
 replace hx5:=(Ext.refl wc).drew.trans hx5
 replace kN:=kN.ext hx5
 replace kL:=kL.ext hx5
 have hreg1:=Lib.hid fun hne:rs≠[]=>(hreg0.out hne).imp fun b hb=>show A=some ⟨b,0,none⟩/\b<w5.heap.size/\(∀ (i:Nat) u,(rs.flatMap regVals)[i]?=some u->w5.cell? ⟨b,i,none⟩=some u) from ⟨hb.1,Nat.lt_of_lt_of_le hb.2.1 hx5.size,fun i u hu=>(hx5.cell (p:=⟨b,i,none⟩) hb.2.1).trans (hb.2.2 i u hu)⟩
 replace hX2:=hX2.trans hx5
 refine hKK.out _ _ ⟨kN.cells 0,kL.cells 0⟩ (fun hHeld=>?_)
 clear hKK c_N c_L hx5 hreg0 hAlh
 try dsimp only
 refine tk 4 (v:=?_) rfl (by kernel_rfl) (fun _ _ _ h=>h) (by assumption) ?_ ?_
 rotate_left
 · (intro w hSw;(try dsimp only at hSw);go_simp;try with_reducible rfl)
 try simp only [put_pack]
 refine tk 5 (v:=?_) rfl (by kernel_rfl) (fun _ _ _ h=>h) (by assumption) ?_ ?_
 rotate_left
 · (intro w hSw;(try dsimp only at hSw);go_simp;try with_reducible rfl)
 try simp only [put_pack]
 refine wpAnyH_done (by kernel_rfl) ?_ _
 go_simp
 have hA5:=hA.ext hX2
 obtain⟨t,htt⟩:∃ t:Nat,((me:Int)).tmod (m:Int)=t:=⟨(((me:Int)).tmod (m:Int)).toNat,by
  have:=Int.tmod_nonneg (m:Int) (show (0:Int)<=me by omega)
  omega⟩
 have htm:t<m:=by
  have:=Int.tmod_lt_of_pos (me:Int) (show (0:Int)<m by omega)
  omega
 have hm0:¬ m=0:=by omega
 have hwy:=IntWalk.i64_in (me:Int) (by omega)
 have c_N:w5.cell? ⟨bn,0,none⟩=some (.int .i64 m):=kN.cells 0
 have hKne:((KN:Int) != (KN:Int))=false:=by simp
 clear hA hHeld
 go_upto_region 8 with fail
 have bT:=Blk.new w5 (.cells #[.int .i64 t] 3)
 have xT:=(Ext.refl w5).alloc (.cells #[.int .i64 t] 3)
 have hA6:=hA5.ext xT
 clear hA5 c_N htt hwy hKne
 generalize hbt:w5.heap.size=bt at bT ⊢
 generalize hW6:World.alloc w5 _=W6 at *
 clear hW6
 go_wp2_with fail
 clear hbt
 refine (tame_r _ La 9 W6 hA6).mono ?_
 rintro e w7 ⟨v7,rfl,hrow,hx7⟩
 obtain⟨Tl,hTe⟩:∃ Tl,Tl=tameL La 9:=⟨_,rfl⟩
 rw [<- hTe] at hrow
 have hTl:Tl.length<=1500:=by rw [hTe];unfold tameL;simp;omega
 have hTb:TameA (TS0 [] Tl):=by
  intro v hv
  rw [show (TS0 [] Tl).ans=tameL La 9 from hTe] at hv
  unfold tameL at hv
  obtain⟨x,_,rfl⟩:=List.mem_map.1 hv
  have h1:=wrapI_bd x 9
  have h2:clamp 9 1099511627776=9:=by unfold clamp within;omega
  omega
 obtain⟨A1,c1,rfl,q1,q2⟩:=hrow.ints.slice
 have hb7:∀ k,(Value.slice A1 Tl.length c1).ownBlock=some k->k<w7.heap.size:=fun k hk=>(World.ownsRow.lt hrow k hk).2
 replace xT:=xT.trans hx7
 replace bT:=bT.ext hx7
 clear hTe hA6 hx7
 have hXh:=Lib.hid (hX2.trans xT)
 have hkN:=kN.ext xT
 have hkL:=kL.ext xT
 clear kN kL hX2
 obtain⟨D,hD⟩:∃ D:Nat,D=1501:=⟨_,rfl⟩
 obtain⟨T,hT⟩:∃ T:Prog Int,T=(yAcq D rs m t).bind fun _=>(yRel rs m t).bind fun _=>.ret (0:Int):=⟨_,rfl⟩
 have hPl:=play_int 49 #[.pointer (some ⟨bl,0,none⟩),.pointer (some ⟨bn,0,none⟩),.pointer (some ⟨bt,0,none⟩)] T none 0 [] A1 c1 Tl w7 (Ints.nil _) (by simp) hrow.ints (by unfold maxAns;omega) hb7 (fun _ _=>rfl) (fun W p hxW hP=>by
  rw [hT]
  exact yremcl _ p m t D _ A c bl bn bt rs W hP (fun hne=>by
   obtain⟨b,e1,e2,e3⟩:=hreg1.out hne
   exact⟨b,e1,regsP e2 e3 (xT.trans hxW) hP xT.size⟩) heh.out m1 m8 htm hc1h.out hc2h.out hTb (by rw [hD];show Tl.length-0<1501;omega) (by rw [hrlh.out];exact yheldP_of hkL hxW hP (Nat.le_refl _)) (yheldP_of hkN hxW hP (Nat.le_refl _)) (yheldP_of bT hxW hP (Nat.le_refl _)))
 have hrem:=rem_all (D:=D) hyh.out heh.out m8 htm (TS0 [] Tl)
 rw [<- hT] at hrem
 obtain⟨rr,S1,hr⟩:∃ rr S1,T.run (TS0 [] Tl)=(rr,S1):=⟨_,_,rfl⟩
 rw [hr] at hPl hrem
 obtain⟨al,e1,e2⟩:=hrem
 have hacc:S1.acc=al:=by simpa [TS0] using e1
 subst hacc
 obtain⟨dn,hdn⟩:∃ dn,rr.isSome=dn:=⟨_,rfl⟩
 simp only [hdn] at hPl
 have hV:Hid (∀ W,Ext w5 W->Vals W A (rs.flatMap regVals)):=Lib.hid fun W hx hne=>by
  obtain⟨b,e1,e2,e3⟩:=hreg1.out (by rintro rfl;exact hne rfl)
  exact⟨b,e1,Nat.lt_of_lt_of_le e2 hx.size,fun i u hu=>(hx.cell (p:=⟨b,i,none⟩) e2).trans (e3 i u hu)⟩
 have he2:=Lib.hid e2
 clear e1 e2 hr hT hTb hb7 hrow hD hdn
 go_wp2_with fail
 refine hPl.mono ?_
 clear hPl
 rintro e w8 ⟨v8,rfl,hO,hx8⟩
 obtain⟨A3,c3,D3,d3,vs3,L3,rfl,hO3⟩:=hO
 obtain⟨E3,k3,hvs3,_,_⟩:=hO3.locs.slice
 subst hvs3
 generalize (shortL L3).length=n3 at *
 obtain⟨b1,b2⟩:=hO3.accc
 unfold outV
 rw [hrlh.out] at he2
 obtain⟨f,hf⟩:∃ f:Int->Bool,f=fun c=>decide (homeM KN m c≠(t:Int)):=⟨_,rfl⟩
 have he3:Hid (remC f S1.acc S1.acc.length<=10*levels m):=Lib.hid (by
  unfold remC
  rw [List.take_length,hf]
  exact he2.out)
 have hfh:=Lib.hid hf
 have hacc:=Lib.hid fun (j:Nat) (a:Acc) (h:S1.acc[j]?=some a)=>hO3.accs.at_ h
 obtain⟨len,hlen⟩:∃ len,S1.acc.length=len:=⟨_,rfl⟩
 have hlenh:=Lib.hid hlen
 rw [hlen] at b1 he3 ⊢
 clear hf he2 hO3 hlen
 have bO:=Blk.new w8 (.cells #[.bool dn,.slice A3 len c3,.slice D3 S1.nts.length d3,.slice E3 n3 k3] 30)
 have xO:=(Ext.refl w8).alloc (.cells #[.bool dn,.slice A3 len c3,.slice D3 S1.nts.length d3,.slice E3 n3 k3] 30)
 generalize hbo:w8.heap.size=bo at bO ⊢
 go_upto_region 10 with fail
 clear hbo
 generalize World.alloc w8 _=W9 at *
 have hX9:=Lib.hid ((hXh.out.trans hx8).trans xO)
 have hX5:=Lib.hid ((xT.trans hx8).trans xO)
 have kN9:=Lib.hid ((hkN.ext hx8).ext xO)
 have kL9:=Lib.hid ((hkL.ext hx8).ext xO)
 have kT9:=Lib.hid ((bT.ext hx8).ext xO)
 have kO9:=Lib.hid bO
 have xO8:=Lib.hid xO
 clear hXh hx8 xO hkN hkL bT bO xT
 have hlev:=Lib.hid fun W=>levels_r m (by omega) W
 go_wp2_with fail
 go_loopw [13,14] (fun a13 a14 wr=>∃ j:Nat,a14=.int .i64 j/\a13=.int .i64 (remC f S1.acc j:Nat)/\j<=len/\Ext W9 wr) (fun _ a14 _=>len-(intOf a14).toNat)
 case atStart=>exact⟨0,rfl,rfl,by omega,Ext.refl _⟩
 case round =>
  obtain⟨j,rfl,rfl,hj,hxr⟩:=hrel
  have c_O:=(kO9.out.ext hxr).cells
  have c_N:=(kN9.out.ext hxr).cells 0
  simp only [List.getElem?_toArray,List.getElem?_cons_zero] at c_N
  by_cases hjl:j<len
  · have dj:decide ((j:Int)<(len:Int))=true:=by rw [decide_eq_true_eq];omega
    have dj2:decide (j<len)=true:=by rw [decide_eq_true_eq];omega
    obtain⟨a,ha⟩:∃ a,S1.acc[j]?=some a:=⟨_,List.getElem?_eq_getElem (by rw [hlenh.out];exact hjl)⟩
    obtain⟨bk,rfl,hbk,z0,z1',z2'⟩:=hacc.out j a ha
    have hrs:=remC_succ (f:=f) ha
    obtain⟨kk,cell,val⟩:=a
    simp only at z0 z1' z2' hrs
    obtain⟨q,hq⟩:∃ q,remC f S1.acc j=q:=⟨_,rfl⟩
    have hqj:q<=j:=by rw [<- hq];exact remC_le j
    have hxr8:=xO8.out.trans hxr
    go_upto_region 14 with fail
    clear c_O c_N
    have cA:∀ W,Ext wr W->W.cell? ⟨bl,0,none⟩=some (.slice A KN c)/\W.cell? ⟨bn,0,none⟩=some (.int .i64 m)/\W.cell? ⟨bt,0,none⟩=some (.int .i64 t)/\W.cell? ⟨bo,1,none⟩=some (.slice (some ⟨bk,0,none⟩) len c3)/\W.cell? ⟨bk,j*3+1,none⟩=some (.int .i64 cell):=fun W hx =>
     ⟨(kL9.out.ext (hxr.trans hx)).cells 0,(kN9.out.ext (hxr.trans hx)).cells 0,(kT9.out.ext (hxr.trans hx)).cells 0,(kO9.out.ext (hxr.trans hx)).cells 1,((hxr8.trans hx).cell (p:=⟨bk,j*3+1,none⟩) hbk).trans z1'⟩
    have hj0:(0:Int)<=(j:Int):=by omega
    have hj1:(j:Int)<(len:Int):=by omega
    refine wp_region_held_drew (S:=fun w'=>w'.cell? ⟨bl,0,none⟩=some (.slice A KN c)/\w'.cell? ⟨bn,0,none⟩=some (.int .i64 m)/\w'.cell? ⟨bt,0,none⟩=some (.int .i64 t)/\w'.cell? ⟨bo,1,none⟩=some (.slice (some ⟨bk,0,none⟩) len c3)/\w'.cell? ⟨bk,j*3+1,none⟩=some (.int .i64 cell)) rfl (cA _ (Ext.refl _).drew) (fun hHeld=>?_)
    refine tkb 0 ?_
    iterate 8
     refine tkn (v:=?_) rfl (by kernel_rfl) (fun _ _ _ h=>h) (by assumption) ?_ ?_
     rotate_left
     · (intro w hSw;(try dsimp only at hSw);go_simp;try with_reducible rfl)
     try simp only [put_pack]
    refine tke ?_
    refine tk 9 (v:=?_) rfl (by kernel_rfl) (fun _ _ _ h=>h) (by assumption) ?_ ?_
    rotate_left
    · (intro w hSw;(try dsimp only at hSw);go_simp;try with_reducible rfl)
    try simp only [put_pack]
    refine wpAnyH_ready (rs:=[8]) (by kernel_rfl) (by simp) ?_
    refine AllReadyH.cons rfl (fun K hKK=>?_) (AllReadyH.nil)
    go_simp
    have hhm:=yhome_p m rs A c cell wr.drew m1 m8 (by rw [hrlh.out];exact hK77) hyh.out (hV.out _ ((hX5.out.trans hxr).trans (Ext.refl _).drew))
    rw [hrlh.out] at hhm
    refine hhm.mono ?_
    clear hhm
    rintro e w6 ⟨rfl,hx6⟩
    have hxd:=(Ext.refl wr).drew.trans hx6
    have hxw:=hxr.trans hxd
    refine hKK.out _ _ (cA _ hxd) (fun hHeld=>?_)
    clear hKK K
    try dsimp only
    refine tk 10 (v:=?_) rfl (by kernel_rfl) (fun _ _ _ h=>h) (by assumption) ?_ ?_
    rotate_left
    · (intro w hSw;(try dsimp only at hSw);go_simp;try with_reducible rfl)
    try simp only [put_pack]
    refine wpAnyH_done (by kernel_rfl) ?_ _
    go_simp
    obtain⟨hm',hhm⟩:∃ x,homeM KN m cell=x:=⟨_,rfl⟩
    have hfc:f cell=decide (hm'≠(t:Int)):=by rw [hfh.out,<- hhm]
    rw [hfc,hq] at hrs
    rw [hhm]
    by_cases hne:hm'=(t:Int)
    · have dn:(hm' != (t:Int))=false:=by simpa using hne
      have hr2:Hid (remC f S1.acc (j+1)=q):=Lib.hid (by rw [hrs,if_neg (by simpa using hne)];rfl)
      clear hrs hhm hne z0 z1' z2' cA hHeld ha hq hqj hfc
      go_wp2_with fail
      refine⟨⟨j+1,by first | rfl | go_num,by rw [hr2.out],by omega,hxw⟩,?_⟩
      simp [intOf];omega
    · have dn:(hm' != (t:Int))=true:=by simpa using hne
      have hr2:Hid (remC f S1.acc (j+1)=q+1):=Lib.hid (by rw [hrs,if_pos (by simpa using hne)])
      have hwq:=IntWalk.i64_in ((q:Int)+1) (by omega)
      clear hrs hhm hne z0 z1' z2' cA hHeld ha hq hqj hfc
      go_wp2_with fail
      refine⟨⟨j+1,by first | rfl | go_num,by rw [hr2.out];rfl,by omega,hxw⟩,?_⟩
      simp [intOf];omega
  · obtain rfl:j=len:=by omega
    have dj:decide ((j:Int)<(j:Int))=false:=by rw [decide_eq_false_iff_not];omega
    obtain⟨q,hq⟩:∃ q,remC f S1.acc j=q:=⟨_,rfl⟩
    rw [hq] at he3 ⊢
    have hL3:levels m<=3:=by
     have:∀ n:Nat,n<9->levels n<=3:=by decide +kernel
     exact this m (by omega)
    obtain⟨L,hL⟩:∃ L,levels m=L:=⟨_,rfl⟩
    rw [hL] at he3 hL3 hlev
    have hwq:=IntWalk.i64_in (10*(L:Int)) (by omega)
    have hqL:=he3.out
    have dq:decide ((q:Int)<=10*(L:Int))=true:=by rw [decide_eq_true_eq];omega
    have dq2:decide (q<=10*L)=true:=by rw [decide_eq_true_eq];omega
    clear hL hq hqL
    go_wp2_with fail
    refine (hlev.out _).mono ?_
    rintro e w6 ⟨rfl,rfl⟩
    go_wp2_with fail
    refine (alive47 _).mono ?_
    rintro e w7 ⟨rfl,hx7⟩
    have hf:=Lib.hid ((hX9.out.trans hxr).trans hx7)
    clear hx7
    go_wp2_with fail
    first | exact⟨rfl,hf.out⟩ | (go_ret;exact⟨rfl,hf.out⟩) | (go_ret2;exact⟨rfl,hf.out⟩)
end Go.Proofs.Ytbphlkaihfbgeaa
namespace Go.Proofs.Ytbphlkaihfbgeaa.yangRemote
open Go.ChangeShapes Go.WideShapes Go.ChangeAt Go.RowKit Kv
set_option maxRecDepth 100000 in
theorem main (H:Type)(enc:TypeId × Value->H)(W:World)(base:Nat)(args:Array Value)(ds:List (DataW H))(p:List MemPlace)
  (hval:∀ (j:Nat) t v,Try.f8.params[j]?=some t->args[j]?=some v->Value.okWide Try.prog W .any base t v)
  (hA:DataW.TrodAll enc Try.prog W 0 (fun _=>true) true Try.f8.params.toList args.toList ds p)(_hL:laidMetH Try.prog Rows.yangRemoteRow.laid W) :
  Calls Try.prog 8 args W fun e w'=>e=.returned (.bool true)/\Ext W w':=by
 rw [Try.params8] at hA hval
 obtain⟨v0,vs0,d0,ds0,p0,q0,hargs,rfl,rfl,h0,r0⟩:=trodAll_cons hA
 obtain⟨v1,vs1,d1,ds1,p1,q1,rfl,rfl,rfl,h1,r1⟩:=trodAll_cons r0
 obtain⟨v2,vs2,d2,ds2,p2,q2,rfl,rfl,rfl,h2,r2⟩:=trodAll_cons r1
 obtain⟨rfl,rfl,rfl⟩:=trodAll_nil r2
 obtain rfl:args=#[v0,v1,v2]:=by cases args;simp_all
 obtain⟨s,rfl,rfl,rfl,ws⟩:=open_int Try.underlying5 (hval 0 5 v0 rfl rfl) h0
 have hs:=bounds_u8 ws
 obtain⟨n,rfl⟩:∃ n:Nat,s=(n:Int):=⟨s.toNat,by omega⟩
 obtain⟨s1,rfl,rfl,rfl,ws1⟩:=open_int Try.underlying5 (hval 1 5 v1 rfl rfl) h1
 have hs1:=bounds_u8 ws1
 obtain⟨me,rfl⟩:∃ n:Nat,s1=(n:Int):=⟨s1.toNat,by omega⟩
 obtain⟨La,hLa⟩:=ints_arg (hval 2 28 v2 rfl rfl) h2
 exact yrem_walk n me v2 La W (by omega) (by omega) hLa.1
end Go.Proofs.Ytbphlkaihfbgeaa.yangRemote
namespace Go.Proofs.Ytbphlkaihfbgeaa.yangRemote
open Go.ChangeShapes Go.WideShapes Go.ChangeAt Go.RowKit
theorem laidOut:laidOutB Try.prog=true:=by kernel_rfl
set_option maxRecDepth 100000 in
theorem contract (H:Type)(enc:TypeId × Value->H)(W:World)(base:Nat)(args:Array Value)(ds gs:List (DataW H))(before:List MemPlace)
  (hval:∀ (j:Nat) t v,Try.f8.params[j]?=some t->args[j]?=some v->Value.okWide Try.prog W .any base t v)
  (hW:DataW.Whole enc Try.prog Try.f8.params.toList Rows.yangRemoteSpec.vars false W args.toList ds gs before)(hL:laidMetH Try.prog Rows.yangRemoteRow.laid W) :
  Calls Try.prog 8 args W fun e W'=>∃ v,e=.returned v/\Rows.yangRemoteSpec.post enc Try.prog Try.f8 false true false false W args v W':=by
 refine (main H enc W base args ds before hval (by obtain⟨p,q,hA,hV,hpq,_,_⟩:=hW;obtain⟨_,rfl⟩:=trodVars_none hV;rw [List.append_nil] at hpq;subst hpq;exact hA) hL).mono fun e W' ⟨he,hg⟩=>⟨_,he,?_⟩
 refine law_post (tb:=4) laidOut ?_ (by kernel_rfl) Try.underlying4 rfl ?_ hW hg
 · rw [Try.params8]
   intro t ht
   simp only [List.mem_cons,List.not_mem_nil,or_false] at ht
   rcases ht with rfl | rfl | rfl <;> exact⟨by kernel_rfl,of_decide_eq_true (by kernel_rfl)⟩
 · intro ds hl
   rw [Try.params8] at hl
   match ds,hl with
   | [d0,d1,d2],_=>rfl
set_option maxRecDepth 100000 in
theorem laid_met (os:Os):laidMet Try.prog Rows.yangRemoteRow.laid (((World.holding Try.prog os ⟨#[],#[],[]⟩)).forCall (fun _ _=>0) ⟨#[],#[.int .u8 0,.int .u8 0,.slice none 0 0],[]⟩).memory :=
 laidMet_of_run' 8 (by kernel_rfl) (by kernel_rfl)
set_option maxRecDepth 100000 in
theorem reads (os:Os){H:Type}(enc:TypeId × Value->H):∃ places,DataW.whole enc Try.prog (((World.holding Try.prog os ⟨#[],#[],[]⟩)).forCall (fun _ _=>0) ⟨#[],#[.int .u8 0,.int .u8 0,.slice none 0 0],[]⟩).memory Try.f8.params.toList Rows.yangRemoteSpec.vars false (#[.int .u8 0,.int .u8 0,.slice none 0 0]:Array Value).toList 8=some ([.lit (.int .u8 0),.lit (.int .u8 0),.nil],[],places) :=
 ⟨[],by kernel_rfl⟩
set_option maxRecDepth 100000 in
theorem lifted (os:Os)(started:os.Started)(H:Type)(enc:TypeId × Value->H)(F:Stop.Interp) :
  ReturnsInHanded {} Try.checked os 8 .any ((OpenSpec.ofChange Rows.yangRemoteSpec).preRow enc Try.prog Try.f8 Rows.yangRemoteRow.domain false Rows.yangRemoteRow.laid) (((OpenSpec.ofChange Rows.yangRemoteSpec).at F).post enc Try.prog Try.f8 false true false false):=by
 obtain⟨places,hx⟩:=reads os enc
 refine returnsInHanded_of_row (C:=Try.checked) (s:=(OpenSpec.ofChange Rows.yangRemoteSpec)) own started (by kernel_rfl) Try.func8
  (witness_row_at (enc:=enc) (C:=Try.checked) false (World.holding Try.prog os ⟨#[],#[],[]⟩) #[.int .u8 0,.int .u8 0,.slice none 0 0] rfl (by kernel_rfl) (by kernel_rfl) (by kernel_rfl)
    (OpenSpec.preRow_of_cond 8 hx (by kernel_rfl) (fun k hk=>by cases hk) (by kernel_rfl) (laid_met os))) ?_
 intro W base args ds gs before hval hW _ _ _ hL _ _
 exact contract H enc W base args ds gs before hval hW hL
theorem c1:(Rows.yangRemoteRow.inPlace==Try.pinned.checked.prog.inPlace 8)=true:=by kernel_rfl
theorem c2:(Rows.yangRemoteRow.unfollowed==Try.pinned.checked.prog.unfollowed 8)=true:=by kernel_rfl
theorem c3:(Rows.yangRemoteRow.recurses==Try.pinned.checked.prog.recurses 8)=true:=by kernel_rfl
theorem c4:(Rows.yangRemoteRow.named==Try.pinned.checked.prog.varsNamed 8)=true:=by kernel_rfl
theorem closed:joinedFacts Try.pinned.checked.prog 8 Try.f8 (OpenSpec.ofChange Rows.yangRemoteSpec).bare Rows.yangRemoteRow=true:=by
 unfold joinedFacts
 simp only [Bool.and_eq_true]
 repeat' refine And.intro ?_ ?_
 all_goals first | with_reducible exact c1 | with_reducible exact c2 | with_reducible exact c3 | with_reducible exact c4 | kernel_rfl
theorem said:Rows.YangRemoteSaid :=
 OpenClaim.holds_of_cond 8 Try.f8 rfl rfl rfl rfl rfl rfl rfl ⟨rfl,rfl,rfl,rfl,rfl⟩ rfl rfl rfl rfl rfl (by kernel_rfl) Try.func8 closed
  (of_decide_eq_true (by kernel_rfl)) (by unfold Func.isWrapper;first | (rw [if_pos (by decide +kernel)];kernel_rfl) | (rw [if_neg (by decide +kernel)];exact⟨rfl,rfl⟩))
  (fun os started H enc _ F=>by rw [OpenClaim.pre_eq_preRow];exact lifted os started H enc F)
end Go.Proofs.Ytbphlkaihfbgeaa.yangRemote
