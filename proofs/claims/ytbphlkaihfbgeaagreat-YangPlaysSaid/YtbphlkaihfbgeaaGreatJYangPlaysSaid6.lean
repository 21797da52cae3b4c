/-
  YangPlaysSaid: part 6 of its proof.
-/
import Derived.Test.YtbphlkaihfbgeaaGreatJYangPlaysSaid5
import Derived.Laws.MakeOwn
import Derived.Laws.CopyOwn
import Derived.Laws.CopyRow
import Derived.Deep.RegionLaw
import Derived.Deep.DeepCutAuto
namespace Kv
def EqB {α:Type} (D:Nat) (A C:Prog α):Prop:=∀ S:TS,S.left<D->A.run S=C.run S
section
variable {σ:Type} {ask:σ->Todo σ} {D:Nat} {s:σ}
theorem EqB.m_rd {c:Int}{k:Int->σ}{g:Int->Prog Int}(hk:ask s=.rd c k)(h:∀ v,EqB D (treeM ask D (k v)) (g v)):EqB D (treeM ask D s) ((rd c).bind g):=fun S hS=>by
 obtain⟨D',rfl⟩:∃ D',D=D'+1:=⟨D-1,by omega⟩
 rw [treeM_rd hk]
 show Prog.run (.read c fun v=>treeM ask D' (k v)) S=Prog.run (.read c g) S
 simp only [Prog.run]
 cases hn:S.next with
 | none=>rfl
 | some v =>
   have:=left_put hn ⟨1,c,0⟩
   show (treeM ask D' (k v)).run _=(g v).run _
   rw [treeM_fuel ask D' (D'+1) _ _ (by omega) (by omega)]
   exact h v _ (by omega)
theorem EqB.m_wr {c u:Int}{s':σ}{g:Unit->Prog Int}(hk:ask s=.wr c u s')(h:EqB D (treeM ask D s') (g ())):EqB D (treeM ask D s) ((wr c u).bind g):=fun S hS=>by
 obtain⟨D',rfl⟩:∃ D',D=D'+1:=⟨D-1,by omega⟩
 rw [treeM_wr hk]
 show Prog.run (.write c u fun _=>treeM ask D' s') S=Prog.run (.write c u g) S
 simp only [Prog.run]
 cases hn:S.next with
 | none=>rfl
 | some v =>
   have:=left_put hn ⟨2,c,u⟩
   show (treeM ask D' s').run _=(g ()).run _
   rw [treeM_fuel ask D' (D'+1) _ _ (by omega) (by omega)]
   exact h _ (by omega)
theorem EqB.m_fin {a:Int}(hk:ask s=.fin a)(hD:0<D):EqB D (treeM ask D s) (.ret a):=fun S hS=>by
 obtain⟨D',rfl⟩:∃ D',D=D'+1:=⟨D-1,by omega⟩
 rw [treeM_fin hk]
end
def YNat (rs:List Reg):Prop:=∀ (i:Nat) r,rs[i]?=some r->r.kind=1/\r.base=3+(i:Int)
section
variable {rs:List Reg} {n L me k D x X:Nat}
theorem ynat_at (hy:YNat rs){o i:Nat}{j:Int}{r:Reg}(hj:j=(i:Int))(h:rs[o+i]?=some r):(yReg rs o j).kind=1/\(yReg rs o j).base=3+(o:Int)+j:=by
 rw [yReg_of hj h]
 obtain⟨h1,h2⟩:=hy _ _ h
 exact⟨h1,by omega⟩
theorem yR (hy:YNat rs)(hg:YRegs rs (yo n x) n)(hX:x / 2=X){i:Nat}{j me:Int}(hj:j=(i:Int))(hi:i<n+3):regR (yReg rs (yo n x) j) me=rd (ycell n X j):=by
 obtain⟨r,q,_⟩:=hg i hi
 obtain⟨h1,h2⟩:=ynat_at hy hj q
 rw [show regR (yReg rs (yo n x) j) me=rd (yReg rs (yo n x) j).base from if_pos h1,h2]
 unfold ycell yb yo
 rw [hX]
 congr 1
theorem yW (hy:YNat rs)(hg:YRegs rs (yo n x) n)(hX:x / 2=X){i:Nat}{j me v:Int}(hj:j=(i:Int))(hi:i<n+3):regW (yReg rs (yo n x) j) me v=wr (ycell n X j) v:=by
 obtain⟨r,q,_⟩:=hg i hi
 obtain⟨h1,h2⟩:=ynat_at hy hj q
 rw [show regW (yReg rs (yo n x) j) me v=wr (yReg rs (yo n x) j).base v from if_pos h1,h2]
 unfold ycell yb yo
 rw [hX]
 congr 1
theorem spin_eq {ask:Option (Nat × LPc)->Todo (Option (Nat × LPc))}{c:Int->Bool}{r:Reg}{m cell:Int}{s s':Option (Nat × LPc)}{F:Unit->Prog Int}(hr:regR r m=rd cell)(hk:ask s=.rd cell fun u=>if c u=true then s else s')(hF:EqB D (treeM ask D s') (F ())) :
  ∀ (f:Nat) (S:TS),S.left<f->S.left<D->(treeM ask D s).run S=((ySpin c r m f).bind F).run S
 | 0,_,h,_=>absurd h (by omega)
 | f+1,S,h,hD=>by
   rw [show treeM ask D s=treeM ask (D-1+1) s from by rw [Nat.sub_add_cancel (by omega)],treeM_rd hk,ySpin_bind,hr]
   show Prog.run (.read cell fun v=>treeM ask (D-1) (if c v=true then s else s')) S=Prog.run (.read cell fun x=>if c x=true then (ySpin c r m f).bind F else F ()) S
   simp only [Prog.run]
   cases hn:S.next with
   | none=>rfl
   | some v =>
     have:=left_put hn ⟨1,cell,0⟩
     show (treeM ask (D-1) (if c v=true then s else s')).run _=(if c v=true then (ySpin c r m f).bind F else F ()).run _
     rw [treeM_fuel ask (D-1) D _ _ (by omega) (by omega)]
     split
     · exact spin_eq hr hk hF f _ (by omega) (by omega)
     · exact hF _ (by omega)
theorem yend_eq (hy:YNat rs)(hg:YRegs rs (yo n x) n)(hx:x=own L me k)(hme:me<n)(G:Prog Int)(hG:EqB D (treeM (yask L n me) D (yup L k)) G) :
  EqB D (treeM (yask L n me) D (some (k,.e8))) ((yEnd D rs (yo n x) me).bind fun _=>G):=fun S hS=>by
 have hX:x / 2=own L me (k+1):=by rw [own_succ,hx]
 unfold yEnd
 rw [Prog.bind_assoc]
 refine spin_eq (s':=some (k,.e9)) (cell:=ycell n (own L me (k+1)) (3+(me:Int))) (yR hy hg hX (i:=3+me) (by omega) (by omega)) ?_ ?_ D S hS hS
 · show yask L n me (some (k,.e8))=_
   simp only [yask]
   congr 1
   funext u
   by_cases hu:u=0
   · rw [if_pos hu,if_pos (by simpa using hu)]
   · rw [if_neg hu,if_neg (by simpa using hu)]
 · unfold yEnd2
   rw [yR hy hg hX (i:=2) (j:=2) rfl (by omega),Prog.bind_assoc]
   refine EqB.m_rd (k:=fun u=>if u=(me:Int)+1 then some (k,.e10) else yup L k) rfl fun u=>?_
   by_cases hu:u=(me:Int)+1
   · simp only [if_pos hu]
     intro S hS
     refine spin_eq (s':=yup L k) (cell:=ycell n (own L me (k+1)) (3+(me:Int))) (yR hy hg hX (i:=3+me) (by omega) (by omega)) ?_ hG D S hS hS
     show yask L n me (some (k,.e10))=_
     simp only [yask]
     congr 1
     funext u
     by_cases hu:u<=1
     · rw [if_pos hu,if_pos (by simpa using hu)]
     · rw [if_neg hu,if_neg (by simpa using hu)]
   · simp only [if_neg hu]
     exact hG
theorem yenter_eq (hy:YNat rs)(hg:YRegs rs (yo n x) n)(hx:x=own L me k)(hme:me<n)(G:Prog Int)(hG:EqB D (treeM (yask L n me) D (yup L k)) G) :
  EqB D (treeM (yask L n me) D (some (k,.out))) ((yEnter D rs (yo n x) n me (x % 2)).bind fun _=>G):=by
 have hX:x / 2=own L me (k+1):=by rw [own_succ,hx]
 have hm2:x % 2<2:=Nat.mod_lt _ (by decide)
 unfold yEnter
 rw [yW hy hg hX (i:=x % 2) rfl (by omega),Prog.bind_assoc]
 refine EqB.m_wr (s':=some (k,.e2)) (by rw [hx];rfl) ?_
 rw [yW hy hg hX (i:=2) (j:=2) rfl (by omega),Prog.bind_assoc]
 refine EqB.m_wr (s':=some (k,.e3)) rfl ?_
 rw [yW hy hg hX (i:=3+me) (by omega) (by omega),Prog.bind_assoc]
 refine EqB.m_wr (s':=some (k,.e4)) rfl ?_
 rw [yR hy hg hX (i:=1-x % 2) rfl (by omega),Prog.bind_assoc]
 refine EqB.m_rd (k:=fun v=>if v=0 then yup L k else some (k,.e5 v)) (by rw [hx];rfl) fun v=>?_
 by_cases hv:v=0
 · simp only [if_pos hv]
   exact hG
 simp only [if_neg hv]
 rw [yR hy hg hX (i:=2) (j:=2) rfl (by omega),Prog.bind_assoc]
 refine EqB.m_rd (k:=fun u=>if u=(me:Int)+1/\1<=v/\v<=n then some (k,.e6 v) else yup L k) rfl fun u=>?_
 by_cases hu:u=(me:Int)+1/\1<=v/\v<=n
 rotate_left
 · simp only [if_neg hu]
   exact hG
 simp only [if_pos hu]
 obtain⟨q,hq⟩:∃ q:Nat,v=(q:Int):=⟨v.toNat,by omega⟩
 rw [yR hy hg hX (i:=2+q) (by omega) (by omega),Prog.bind_assoc]
 refine EqB.m_rd (k:=fun u=>if u=0 then some (k,.e7 v) else some (k,.e8)) rfl fun u=>?_
 by_cases h0:u=0
 · simp only [if_pos h0]
   rw [yW hy hg hX (i:=2+q) (by omega) (by omega),Prog.bind_assoc]
   refine EqB.m_wr (s':=some (k,.e8)) rfl ?_
   exact yend_eq hy hg hx hme G hG
 · simp only [if_neg h0]
   exact yend_eq hy hg hx hme G hG
theorem yleave_eq (hy:YNat rs)(hg:YRegs rs (yo n x) n)(hx:x=own L me k)(hme:me<n)(G:Prog Int)(hG:EqB D (treeM (yask L n me) D (ydown k)) G) :
  EqB D (treeM (yask L n me) D (some (k,.inn))) ((yLeave rs (yo n x) n me (x % 2)).bind fun _=>G):=by
 have hX:x / 2=own L me (k+1):=by rw [own_succ,hx]
 have hm2:x % 2<2:=Nat.mod_lt _ (by decide)
 unfold yLeave
 rw [yW hy hg hX (i:=x % 2) rfl (by omega),Prog.bind_assoc]
 refine EqB.m_wr (s':=some (k,.l2)) (by rw [hx];rfl) ?_
 rw [yR hy hg hX (i:=2) (j:=2) rfl (by omega),Prog.bind_assoc]
 refine EqB.m_rd (k:=fun u=>if u≠(me:Int)+1/\1<=u/\u<=n then some (k,.l3 u) else ydown k) rfl fun u=>?_
 by_cases hu:u≠(me:Int)+1/\1<=u/\u<=n
 · simp only [if_pos hu]
   obtain⟨q,hq⟩:∃ q:Nat,u=(q:Int):=⟨u.toNat,by omega⟩
   rw [yW hy hg hX (i:=2+q) (by omega) (by omega)]
   exact EqB.m_wr (s':=ydown k) rfl hG
 · simp only [if_neg hu]
   exact hG
theorem own_step {n me k:Nat}(hn:n<=8)(hme:me<n)(hk:k<levels n):2<=own (levels n) me k/\own (levels n) me k<2*2 ^ levels n:=by
 have hlt:me<2 ^ levels n:=Nat.lt_of_lt_of_le hme (lev_ge (by omega))
 have h1:=own_ge (t:=me) (show k<=levels n by omega)
 have h2:=own_lt (show k<=levels n by omega) hlt
 have h3:2 ^ 1<=2 ^ (levels n-k):=Nat.pow_le_pow_right (by decide) (by omega)
 have h4:2 ^ (levels n-k+1)<=2 ^ (levels n+1):=Nat.pow_le_pow_right (by decide) (by omega)
 rw [Nat.pow_succ 2 (levels n)] at h4
 omega
theorem path_own {n me:Nat}(hn:n<=8)(hme:me<n):pathL n me=(List.range (levels n)).map fun k=>((own (levels n) me k:Nat):Int):=by
 have:∀ n:Nat,n<9->∀ me:Nat,me<n->pathL n me=(List.range (levels n)).map fun k=>((own (levels n) me k:Nat):Int):=by decide +kernel
 exact this n (by omega) me hme
theorem acq_from (hy:YNat rs)(hall:YAll rs n)(hn:n<=8)(hme:me<n)(hD:0<D):∀ (j k:Nat),k+j=levels n ->
  EqB D (treeM (yask (levels n) n me) D (if k<levels n then some (k,.out) else none)) ((forP (fun (x:Int) (_:Unit)=>yEnter D rs (yo n x.toNat) n me (x.toNat % 2)) ((List.range' k j).map fun k=>((own (levels n) me k:Nat):Int)) ()).bind fun _=>.ret 0)
 | 0,k,h=>by
   rw [if_neg (by omega)]
   exact EqB.m_fin rfl hD
 | j+1,k,h=>by
   rw [if_pos (by omega)]
   have ih:=acq_from hy hall hn hme hD j (k+1) (by omega)
   obtain⟨h1,h2⟩:=own_step hn hme (show k<levels n by omega)
   have:=yenter_eq hy (hall.node h1 h2) rfl hme _ ih
   have e:(List.range' k (j+1)).map (fun k=>((own (levels n) me k:Nat):Int))=((own (levels n) me k:Nat):Int) :: (List.range' (k+1) j).map fun k=>((own (levels n) me k:Nat):Int):=rfl
   rw [e]
   show EqB D _ (((yEnter D rs (yo n ((own (levels n) me k:Nat):Int).toNat) n me (((own (levels n) me k:Nat):Int).toNat % 2)).bind fun y=>forP _ _ y).bind fun _=>.ret 0)
   rw [Prog.bind_assoc,Int.toNat_natCast]
   exact this
theorem yacq_eq (hy:YNat rs)(hall:YAll rs n)(hn:n<=8)(hme:me<n)(hD:0<D):EqB D ((yAcq D rs n me).bind fun _=>.ret 0) (treeM (yask (levels n) n me) D (if 0<levels n then some (0,.out) else none)):=fun S hS=>by
 have h:=acq_from (D:=D) hy hall hn hme hD (levels n) 0 (by omega) S hS
 rw [h]
 unfold yAcq
 rw [path_own hn hme,List.range_eq_range']
theorem rel_from (hy:YNat rs)(hall:YAll rs n)(hn:n<=8)(hme:me<n)(hD:0<D):∀ (k:Nat),k<levels n ->
  EqB D (treeM (yask (levels n) n me) D (some (k,.inn))) ((forP (fun (x:Int) (_:Unit)=>yLeave rs (yo n x.toNat) n me (x.toNat % 2)) ((List.range (k+1)).map fun k=>((own (levels n) me k:Nat):Int)).reverse ()).bind fun _=>.ret 0)
 | 0,h=>by
   obtain⟨h1,h2⟩:=own_step hn hme h
   have:=yleave_eq (D:=D) hy (hall.node h1 h2) rfl hme (.ret 0) (EqB.m_fin rfl hD)
   have e:((List.range (0+1)).map fun k=>((own (levels n) me k:Nat):Int)).reverse=[((own (levels n) me 0:Nat):Int)]:=rfl
   rw [e]
   show EqB D _ (((yLeave rs (yo n ((own (levels n) me 0:Nat):Int).toNat) n me (((own (levels n) me 0:Nat):Int).toNat % 2)).bind fun y=>forP _ [] y).bind fun _=>.ret 0)
   rw [Prog.bind_assoc,Int.toNat_natCast]
   exact this
 | k+1,h=>by
   have ih:=rel_from hy hall hn hme hD k (by omega)
   obtain⟨h1,h2⟩:=own_step hn hme h
   have:=yleave_eq hy (hall.node h1 h2) rfl hme _ ih
   have e:((List.range (k+1+1)).map fun k=>((own (levels n) me k:Nat):Int)).reverse=((own (levels n) me (k+1):Nat):Int) :: ((List.range (k+1)).map fun k=>((own (levels n) me k:Nat):Int)).reverse:=by
    rw [List.range_succ (n:=k+1),List.map_append,List.reverse_append]
    rfl
   rw [e]
   show EqB D _ (((yLeave rs (yo n ((own (levels n) me (k+1):Nat):Int).toNat) n me (((own (levels n) me (k+1):Nat):Int).toNat % 2)).bind fun y=>forP _ _ y).bind fun _=>.ret 0)
   rw [Prog.bind_assoc,Int.toNat_natCast]
   exact this
theorem yrel_eq (hy:YNat rs)(hall:YAll rs n)(hn:n<=8)(hme:me<n)(hD:0<D):EqB D ((yRel rs n me).bind fun _=>.ret 0) (treeM (yask (levels n) n me) D (if 0<levels n then some (levels n-1,.inn) else none)):=fun S hS=>by
 unfold yRel
 rw [path_own hn hme]
 by_cases h0:0<levels n
 · rw [if_pos h0]
   have h:=rel_from (D:=D) hy hall hn hme hD (levels n-1) (by omega) S hS
   rw [show levels n-1+1=levels n from by omega] at h
   exact h.symm
 · rw [if_neg h0,show levels (n:Int)=0 from by omega]
   exact (EqB.m_fin (ask:=yask 0 n me) rfl hD S hS).symm
end
def zeros (n:Nat):List Int:=List.replicate n 0
end Kv
namespace Go.Proofs.YtbphlkaihfbgeaaGreat
open Go.RowKit Kv
theorem make_ints (l:Int)(k:Nat)(hl:l=k)(hk:k<=100000)(w:World) :
  (Instr.makeSlice 22 (.int .i64 l) (.int .i64 l)).run Tryz.prog w=.ok (.slice (some ⟨w.heap.size,0,none⟩) k k) (w.alloc (.cells ((zeros k).map (Value.int .i64)).toArray 3)):=by
 subst hl
 obtain⟨i0,hi,hz0,hz1,hz2⟩:=info_parts info_int
 have hr:=run_makeSlice (P:=Tryz.prog) w 22 3 i0 (.int .i64 0) Tryz.underlying22 hi hz0 .i64 .i64 k k (by omega) (by omega) (by rw [hz1];simp;omega) (by rw [hz2];omega) (by omega)
 rw [Int.toNat_natCast,hz1,Nat.mul_one] at hr
 have he:madeCells (Value.int .i64 0).cells k=((zeros k).map (Value.int .i64)).toArray:=by
  unfold zeros madeCells
  apply Array.ext'
  rw [List.map_replicate]
  apply List.ext_getElem?
  intro j
  by_cases hj:j<k
  · simp [hj,Nat.mod_one,Value.cells]
  · simp [hj]
 rw [hr,he]
end Go.Proofs.YtbphlkaihfbgeaaGreat
namespace Kv
def rep {α:Type} (k:Nat) (l:List α):List α:=(List.replicate k l).flatten
theorem rep_len {α:Type}(k:Nat)(l:List α):(rep k l).length=k*l.length:=by
 unfold rep
 induction k with
 | zero=>simp
 | succ k ih=>rw [List.replicate_succ,List.flatten_cons,List.length_append,ih,Nat.succ_mul,Nat.add_comm]
theorem rep_add {α:Type}(a b:Nat)(l:List α):rep (a+b) l=rep a l++rep b l:=by
 unfold rep
 rw [<- List.replicate_append_replicate,List.flatten_append]
theorem rep_flatMap {α β:Type}(f:α->List β)(k:Nat)(l:List α):(rep k l).flatMap f=rep k (l.flatMap f):=by
 unfold rep
 induction k with
 | zero=>rfl
 | succ k ih=>rw [List.replicate_succ,List.flatten_cons,List.flatMap_append,ih,List.replicate_succ,List.flatten_cons]
theorem rep_take {α:Type}(l:List α){k j m:Nat}(hj:j<=k)(hm:j*l.length+m<=k*l.length):(rep k l).take (j*l.length)++(rep k l).take m=(rep k l).take (j*l.length+m):=by
 obtain⟨i,rfl⟩:∃ i,k=j+i:=⟨k-j,by omega⟩
 rw [Nat.add_mul] at hm
 have h1:(rep (j+i) l).take (j*l.length)=rep j l:=by rw [rep_add,<- rep_len,List.take_left'];rfl
 have h2:(rep (j+i) l).take m=(rep i l).take m:=by
  rw [Nat.add_comm,rep_add,List.take_append_of_le_length (by rw [rep_len];omega)]
 have h3:(rep (j+i) l).take (j*l.length+m)=rep j l++(rep i l).take m:=by
  rw [rep_add,<- rep_len,List.take_length_add_append]
 rw [h1,h2,h3]
end Kv
namespace Go.Proofs.YtbphlkaihfbgeaaGreat
open Go.RowKit Kv
theorem run_copy2 {P:Program}(w:World)(dT sT ty elem:TypeId)(g o dLen dCap:Nat)(a:Addr)(sLen sCap:Nat)(cur:Array Value)(t:TypeId)(cs:List Value)
  (hu:P.underlying dT=some (.slice elem))(hs:(P.info? elem).map (·.size)=some 2)
  (hg:w.heap[g]?=some (.cells cur t (0,0)))(hn:cs.length=Nat.min sLen dLen*2)
  (hsrc:∀ j v,cs[j]?=some v->w.cell? (a.add j)=some v)(hfit:o+cs.length<=cur.size)(h1:∀ v∈cs,v.oneCell'=true) :
  (Builtin.copy_ #[dT,sT] ty #[.slice (some ⟨g,o,none⟩) dLen dCap,.slice (some a) sLen sCap]).run P w =
    .ok (goInt (Nat.min sLen dLen)) (w.setRow g (cur.toList.take o++cs++cur.toList.drop (o+cs.length)).toArray):=by
 have hl:=run_loadCells_list (P:=P) w a cs hsrc
 have hst:=run_storeCells_at P g o t cs 0 cur w hg (by simpa using hfit) h1
 cases hq:P.info? elem with
 | none=>simp [hq] at hs
 | some i =>
   have hi:i.size=2:=by simpa [hq] using hs
   simp [Builtin.copy_,run_underlying hu,Builtin.lenOf,Builtin.firstCells,sizeOf,typeInfo,hq,hi,<- hn,hl,hst]
theorem splice_take {α:Type}{cur cs:List α}{a:Nat}(h:a+cs.length<=cur.length):(splice cur a cs).take (a+cs.length)=cur.take a++cs:=by
 unfold splice
 rw [<- List.append_assoc]
 have e:(cur.take a++cs).length=a+cs.length:=by simp;omega
 rw [<- e,List.take_left']
 rfl
theorem want_size:(Tryz.prog.info? 54).map (·.size)=some 2:=by kernel_rfl
theorem make_wants (k:Nat)(hk:k<=1000)(w:World) :
  ∃ cur:List Value,cur.length=2*k/\(Instr.makeSlice 25 (.int .i64 k) (.int .i64 k)).run Tryz.prog w=.ok (.slice (some ⟨w.heap.size,0,none⟩) k k) (w.alloc (.cells cur.toArray 54)):=by
 obtain⟨i0,hi,hz0,hz1,hz2⟩:=info_parts info_want
 have hr:=run_makeSlice (P:=Tryz.prog) w 25 54 i0 (.agg #[.int .i64 0,.int .i64 0]) Tryz.underlying25 hi hz0 .i64 .i64 k k (by omega) (by omega) (by rw [hz1];simp;omega) (by rw [hz2];omega) (by omega)
 rw [Int.toNat_natCast,hz1] at hr
 refine⟨(madeCells (Value.cells (.agg #[.int .i64 0,.int .i64 0])) (k*2)).toList,?_,?_⟩
 · rw [Array.length_toList,size_madeCells,Nat.mul_comm]
 · rw [Array.toArray_toList];exact hr
theorem wants_one {l:List Want}:∀ v∈l.flatMap wantVals,v.oneCell'=true:=by
 intro v hv
 obtain⟨q,_,hq⟩:=List.mem_flatMap.1 hv
 simp [wantVals] at hq
 rcases hq with rfl | rfl <;> rfl
set_option maxRecDepth 100000 in
set_option maxHeartbeats 800000 in
theorem repeat_p (v:Value)(l:List Want)(k:Nat)(w:World)(hv:WantsAt w v l)(h1:1<=l.length)(h2:l.length<=20)(hk:k<=10) :
  Calls Tryz.prog 30 #[v,.int .i64 k] w fun e w'=>∃ v',e=.returned v'/\WantsAt w' v' (rep k l)/\Ext w w':=by
 obtain⟨A,c,rfl,hc1,hc2,hV⟩:=hv
 have hVl:(l.flatMap wantVals).length=2*l.length:=by
  rw [List.length_flatMap]
  have:l.map (fun a=>(wantVals a).length)=l.map fun _=>2:=List.map_congr_left fun _ _=>rfl
  rw [this,List.map_const',List.sum_replicate_nat,Nat.mul_comm]
 obtain⟨b,rfl,hb,hcell⟩:=hV (by intro e;rw [e] at hVl;simp at hVl;omega)
 obtain⟨K,hK⟩:∃ K,l.length=K:=⟨_,rfl⟩
 obtain⟨W2,hW2⟩:∃ W2,l.flatMap wantVals=W2:=⟨_,rfl⟩
 have hone:∀ x∈rep k W2,x.oneCell'=true:=by
  rw [<- hW2,<- rep_flatMap]
  exact wants_one
 have hfin:(rep k l).flatMap wantVals=rep k W2/\(rep k l).length=k*K:=by rw [rep_flatMap,hW2,rep_len,hK];exact⟨rfl,rfl⟩
 rw [hW2] at hVl hcell
 rw [hK] at hVl h1 h2 hc1 ⊢
 have htk:K*k<=200:=Nat.le_trans (Nat.mul_le_mul h2 hk) (by decide)
 obtain⟨T,hT⟩:∃ T,K*k=T:=⟨_,rfl⟩
 rw [hT] at htk
 have hFl:(rep k W2).length=2*T:=by rw [rep_len,hVl,<- hT,Nat.mul_comm k,Nat.mul_assoc]
 have hm1:K*k / 18446744073709551616=0:=by rw [hT];omega
 have hm2:K*k % 18446744073709551616=T:=by rw [hT];omega
 have hMul:=fun w=>Tryz.bits_Mul K k (by omega) (by omega) w
 rw [hm1,hm2] at hMul
 have e1:=IntWalk.i64_in (T:Int) (by omega)
 have hu1:IntKind.u64.wrap (K:Int)=K:=by rw [show IntKind.u64.wrap (K:Int)=(K:Int) % 18446744073709551616 from rfl];omega
 have hu2:IntKind.u64.wrap (k:Int)=k:=by rw [show IntKind.u64.wrap (k:Int)=(k:Int) % 18446744073709551616 from rfl];omega
 have d0:decide ((k:Int)<0)=false:=by rw [decide_eq_false_iff_not];omega
 have d1:decide ((9223372036854775807:Int)<(T:Int))=false:=by rw [decide_eq_false_iff_not];omega
 have d2:decide (9223372036854775807<T)=false:=by rw [decide_eq_false_iff_not];omega
 have hTh:=Lib.hid hT
 clear hT hm1 hm2
 go_enter Tryz.func30,Tryz.ntmps30
 go_wp2_with fail
 refine (hMul _).mono ?_
 rintro e w1 ⟨rfl,rfl⟩
 obtain⟨cur0,hcur0,hmk⟩:=make_wants T (by omega) w1
 have hg0:=Blk.new w1 (.cells cur0.toArray 54)
 have hx0:=(Ext.refl w1).alloc (.cells cur0.toArray 54)
 have hcell1:∀ (i:Nat) (u:Value),W2[i]?=some u->(w1.alloc (.cells cur0.toArray 54)).cell? ⟨b,i,none⟩=some u:=fun i u hu=>(hx0.cell (p:=⟨b,i,none⟩) hb).trans (hcell i u hu)
 clear hV hcell hW2 hK
 obtain⟨F,hF⟩:∃ F,rep k W2=F:=⟨_,rfl⟩
 rw [hF] at hone hFl hfin
 obtain⟨n0,hn0⟩:∃ n0,Nat.min K T=n0:=⟨_,rfl⟩
 have hnT:n0<=T:=by rw [<- hn0];exact Nat.min_le_right _ _
 have hnK:n0<=K:=by rw [<- hn0];exact Nat.min_le_left _ _
 have hstart:((∃ j,n0=j*K/\1<=j)∨n0=T)/\W2.take (2*n0)=F.take (2*n0):=by
  have hT:=hTh.out
  by_cases hk0:k=0
  · subst hk0
    have:n0=0:=by omega
    subst this
    exact⟨.inr (by omega),by simp⟩
  · obtain⟨k',rfl⟩:∃ k',k=1+k':=⟨k-1,by omega⟩
    have hKT:K<=T:=by rw [<- hT,Nat.mul_add];omega
    have:n0=K:=by rw [<- hn0];exact Nat.min_eq_left hKT
    subst this
    refine⟨.inl ⟨1,by omega,by omega⟩,?_⟩
    rw [<- hF,rep_add,List.take_append_of_le_length (by rw [rep_len];omega)]
    simp [rep]
 have hcsl:(W2.take (2*n0)).length=2*n0:=by rw [List.length_take];omega
 have hcs1:∀ x∈W2.take (2*n0),x.oneCell'=true:=by
  rw [hstart.2]
  exact fun x hx=>hone x (List.mem_of_mem_take hx)
 have hcsc:∀ j v,(W2.take (2*n0))[j]?=some v->(w1.alloc (.cells cur0.toArray 54)).cell? ((⟨b,0,none⟩:Addr).add j)=some v:=fun j v hj=>by
  have hj2:W2[j]?=some v:=by
   rw [List.getElem?_take] at hj
   split at hj
   · exact hj
   · cases hj
  have e:(⟨b,0,none⟩:Addr).add j=⟨b,j,none⟩:=by unfold Addr.add;split <;> simp_all
  rw [e]
  exact hcell1 j v hj2
 have hsth:=Lib.hid hstart
 have hFh:=Lib.hid hF
 have honeh:=Lib.hid hone
 have hfinh:=Lib.hid hfin
 have hcshh:=Lib.hid hcsl
 have hcsch:=Lib.hid hcsc
 have hcs1h:=Lib.hid hcs1
 have hn0h:=Lib.hid hn0
 have hVlh:=Lib.hid hVl
 have hc0h:=Lib.hid hcur0
 have hFlh:=Lib.hid hFl
 clear hstart hF hone hfin hcsl hcsc hcs1 hn0 hcell1 hVl hcur0 hFl
 have hrun:=run_copy2 (P:=Tryz.prog) (w1.alloc (.cells cur0.toArray 54)) 25 25 3 54 w1.heap.size 0 T T ⟨b,0,none⟩ K c cur0.toArray 54 (W2.take (2*n0)) Tryz.underlying25 want_size hg0 (by rw [hcshh.out,hn0h.out,Nat.mul_comm]) hcsch.out (by rw [hcshh.out,List.size_toArray,hc0h.out];omega) hcs1h.out
 rw [hn0h.out,show goInt n0=.int .i64 (n0:Int) from rfl] at hrun
 have hg2:Hid (((w1.alloc (.cells cur0.toArray 54)).setRow w1.heap.size (cur0.toArray.toList.take 0++W2.take (2*n0)++cur0.toArray.toList.drop (0+(W2.take (2*n0)).length)).toArray).heap[w1.heap.size]?=some (.cells (splice cur0 0 (W2.take (2*n0))).toArray 54 (0,0))):=Lib.hid (by simpa [splice] using setRow_heap (w1.alloc (.cells cur0.toArray 54)) w1.heap.size _ _ _ _ hg0)
 have hx2:Ext w1 ((w1.alloc (.cells cur0.toArray 54)).setRow w1.heap.size (cur0.toArray.toList.take 0++W2.take (2*n0)++cur0.toArray.toList.drop (0+(W2.take (2*n0)).length)).toArray):=below_setRow hx0 (Nat.le_refl _) _
 generalize (w1.alloc (.cells cur0.toArray 54)).setRow w1.heap.size _=w2 at *
 clear hg0 hx0
 have hcurh:Hid ((splice cur0 0 (W2.take (2*n0))).take (2*n0)=F.take (2*n0)):=by
  have h:=splice_take (cur:=cur0) (cs:=W2.take (2*n0)) (a:=0) (by rw [hcshh.out,hc0h.out];omega)
  rw [hcshh.out,Nat.zero_add] at h
  refine Lib.hid ?_
  rw [h,<- hsth.out.2]
  simp
 have hlen0:(splice cur0 0 (W2.take (2*n0))).length=2*T:=by rw [length_splice _ _ _ (by rw [hcshh.out,hc0h.out];omega)];exact hc0h.out
 generalize splice cur0 0 (W2.take (2*n0))=cur1 at *
 clear hcsch hcs1h hcshh hn0h hc0h
 go_wp2_with fail
 clear hmk hrun
 have hge0:=Nat.le_refl w1.heap.size
 generalize hgs:w1.heap.size=g at hge0 hg2 hb ⊢
 have hge:w1.heap.size<=g:=by rw [hgs];exact Nat.le_refl _
 clear hgs
 go_loopw [8] (fun a8 wr=>∃ (n:Nat) (cur:List Value),a8=.int .i64 n/\n<=T/\Hid ((∃ j,n=j*K/\1<=j)∨n=T)/\Hid (cur.length=2*T)/\Hid (wr.heap[g]?=some (.cells cur.toArray 54 (0,0)))/\Hid (cur.take (2*n)=F.take (2*n))/\Ext w1 wr) (fun a8 _=>T-(intOf a8).toNat)
 case atStart=>exact⟨n0,cur1,rfl,hnT,Lib.hid hsth.out.1,Lib.hid hlen0,hg2,hcurh,hx2⟩
 case round =>
  clear hg2 hcurh hlen0 hx2 hsth hnT hnK
  obtain⟨n,cur,rfl,hn,hj,hcl,hgw,hcur,hxw⟩:=hrel
  by_cases hnT:n<T
  · have dn:decide ((n:Int)<(T:Int))=true:=by rw [decide_eq_true_eq];omega
    have dn2:decide (n<T)=true:=by rw [decide_eq_true_eq];omega
    obtain⟨m,hm⟩:∃ m,Nat.min n (T-n)=m:=⟨_,rfl⟩
    have hmn:m<=n:=by rw [<- hm];exact Nat.min_le_left _ _
    have hmT:m<=T-n:=by rw [<- hm];exact Nat.min_le_right _ _
    have hkey:F.take (2*n)++F.take (2*m)=F.take (2*n+2*m):=by
     rcases hj.out with⟨j,rfl,_⟩ | e
     · have hT:=hTh.out
       have hjk:j<=k:=Nat.le_of_lt (Nat.lt_of_mul_lt_mul_left (a:=K) (by rw [hT,Nat.mul_comm];exact hnT))
       have h3:=rep_take W2 (k:=k) (j:=j) (m:=2*m) hjk (by
        rw [hVlh.out,show j*(2*K)=2*(j*K) from by rw [Nat.mul_left_comm],show k*(2*K)=2*(K*k) from by rw [Nat.mul_left_comm,Nat.mul_comm k K],hT]
        omega)
       rw [hFh.out,hVlh.out,show j*(2*K)=2*(j*K) from by rw [Nat.mul_left_comm]] at h3
       exact h3
     · omega
    have hcsl:(F.take (2*m)).length=2*m:=by rw [List.length_take,hFlh.out];omega
    have hcs1:∀ x∈F.take (2*m),x.oneCell'=true:=fun x hx=>honeh.out x (List.mem_of_mem_take hx)
    have hat:∀ i,i<2*n->cur[i]?=F[i]?:=fun i hi=>by
     have h:=congrArg (fun l:List Value=>l[i]?) hcur.out
     simpa [List.getElem?_take,hi] using h
    have hcsc:∀ j v,(F.take (2*m))[j]?=some v->wr.drew.cell? ((⟨g,0,none⟩:Addr).add j)=some v:=fun j v hjv=>by
     have hjm:j<2*m:=by have:=(List.getElem?_eq_some_iff.1 hjv).1;omega
     rw [List.getElem?_take,if_pos hjm] at hjv
     have e:(⟨g,0,none⟩:Addr).add j=⟨g,j,none⟩:=by unfold Addr.add;split <;> simp_all
     rw [e,cell_of_heap (w:=wr.drew) hgw.out]
     rw [<- hat j (by omega)] at hjv
     simpa using hjv
    have hsp:∀ (D:List Value),D=splice cur (n*2) (F.take (2*m))->D.length=2*T/\D.take (2*(n+m))=F.take (2*(n+m)):=fun D hD=>by
     rw [Nat.mul_comm n 2] at hD
     have hfit:2*n+(F.take (2*m)).length<=cur.length:=by rw [hcsl,hcl.out];omega
     refine⟨by rw [hD,length_splice _ _ _ hfit];exact hcl.out,?_⟩
     have h:=splice_take hfit
     rw [hcsl,hcur.out,hkey] at h
     rw [hD,Nat.mul_add]
     exact h
    have hj2:(∃ j,n+m=j*K/\1<=j)∨n+m=T:=by
     rcases hj.out with⟨j,rfl,h1⟩ | e
     · by_cases h:j*K<=T-j*K
       · refine .inl ⟨2*j,?_,by omega⟩
         rw [show m=j*K from by rw [<- hm];exact Nat.min_eq_left h,Nat.mul_assoc]
         omega
       · exact .inr (by rw [show m=T-j*K from by rw [<- hm];exact Nat.min_eq_right (by omega)];omega)
     · omega
    have hm1:1<=m∨n=0:=by
     by_cases h:n<=T-n
     · have h2:Nat.min n (T-n)=n:=Nat.min_eq_left h
       omega
     · have h2:Nat.min n (T-n)=T-n:=Nat.min_eq_right (by omega)
       omega
    have hn1:1<=n:=by
     rcases hj.out with⟨j,e,h1'⟩ | e
     · rw [e];exact Nat.mul_pos h1' h1
     · omega
    have hjh:=Lib.hid hj2
    have hsph:=Lib.hid hsp
    have hm2:1<=m:=by omega
    have hw9:=IntWalk.i64_in ((n:Int)+(m:Int)) (by omega)
    have hne:¬ T=n:=by omega
    have hn0':(0:Int)<=(n:Int):=by omega
    have hnT2:(n:Int)<=(T:Int):=by omega
    have hxd:=hxw.drew
    have hcsch:=Lib.hid hcsc
    have hcs1h:=Lib.hid hcs1
    have hcslh:=Lib.hid hcsl
    have hmh:=Lib.hid hm
    clear hj hat hkey hcsl hcs1 hcsc hsp hj2 hm1 hm
    have hrun2:=run_copy2 (P:=Tryz.prog) wr.drew 25 25 3 54 g (n*2) (T-n) (T-n) ⟨g,0,none⟩ n T cur.toArray 54 (F.take (2*m)) Tryz.underlying25 want_size hgw.out (by rw [hcslh.out,hmh.out,Nat.mul_comm]) hcsch.out (by rw [hcslh.out,List.size_toArray,hcl.out];omega) hcs1h.out
    rw [hmh.out,show goInt m=.int .i64 (m:Int) from rfl] at hrun2
    have hg4:Hid ((wr.drew.setRow g (cur.toArray.toList.take (n*2)++F.take (2*m)++cur.toArray.toList.drop (n*2+(F.take (2*m)).length)).toArray).heap[g]?=some (.cells (splice cur (n*2) (F.take (2*m))).toArray 54 (0,0))):=Lib.hid (by simpa [splice] using setRow_heap wr.drew g _ _ _ _ hgw.out)
    have hx4:Ext w1 (wr.drew.setRow g (cur.toArray.toList.take (n*2)++F.take (2*m)++cur.toArray.toList.drop (n*2+(F.take (2*m)).length)).toArray):=below_setRow hxd hge _
    go_wp2_with fail
    generalize World.setRow (World.drew wr) g _=w4 at *
    have hrh:=Lib.hid hrun2
    clear hrun2
    refine wp_region_held_drew (S:=fun _=>True) rfl trivial (fun hHeld=>?_)
    refine tkb 0 ?_
    iterate 7
     refine tkn (v:=?_) rfl (by kernel_rfl) (fun _ _ _ h=>h) (by assumption) ?_ ?_
     rotate_left
     · (intro w hSw;(try dsimp only at hSw);go_simp;try with_reducible rfl)
     try simp only [put_pack]
    refine tke ?_
    have hrun2:=hrh.out
    clear hrh
    refine wpAnyH_ready (rs:=[7]) (by kernel_rfl) (by simp) ?_
    refine AllReadyH.cons rfl (fun K hKK=>?_) (AllReadyH.nil)
    go_simp
    refine hKK.out _ _ trivial (fun hHeld=>?_)
    clear hKK K hrun2
    try dsimp only
    refine tk 8 (v:=?_) rfl (by kernel_rfl) (fun _ _ _ h=>h) (by assumption) ?_ ?_
    rotate_left
    · (intro w hSw;(try dsimp only at hSw);go_simp;try with_reducible rfl)
    try simp only [put_pack]
    refine tk 9 (v:=?_) rfl (by kernel_rfl) (fun _ _ _ h=>h) (by assumption) ?_ ?_
    rotate_left
    · (intro w hSw;(try dsimp only at hSw);go_simp;try with_reducible rfl)
    try simp only [put_pack]
    refine wpAnyH_done (by kernel_rfl) ?_ _
    go_simp
    have hs9:=hsph.out _ rfl
    have h91:=Lib.hid hs9.1
    have h92:=Lib.hid hs9.2
    clear hs9 hcsch hcs1h hcslh hmh hgw hcur hcl hsph hxd
    go_wp2_with fail
    refine⟨⟨n+m,_,by first | rfl | go_num,by omega,hjh,h91,hg4,h92,hx4⟩,?_⟩
    simp [intOf];omega
  · obtain rfl:n=T:=by omega
    have dn:decide ((n:Int)<(n:Int))=false:=by rw [decide_eq_false_iff_not];omega
    have hcF:cur=F:=by
     have h:=hcur.out
     rw [<- hcl.out,List.take_length,hcl.out,<- hFlh.out,List.take_length] at h
     exact h
    have hw:WantsAt wr (.slice (some ⟨g,0,none⟩) n n) (rep k l):=by
     refine⟨_,n,?_,?_,by omega,fun _=>⟨g,rfl,(Array.getElem?_eq_some_iff.1 hgw.out).1,fun i u hu=>?_⟩⟩
     · rw [hfinh.out.2,Nat.mul_comm,hTh.out]
     · rw [hfinh.out.2,Nat.mul_comm,hTh.out]
       exact Nat.le_refl _
     · rw [hfinh.out.1,<- hcF] at hu
       rw [cell_of_heap (w:=wr) hgw.out]
       simpa using hu
    have hwh:=Lib.hid hw
    clear hw hcF hgw hcur hj
    go_wp2_with fail
    go_ret
    exact⟨_,rfl,hwh.out,hxw⟩
end Go.Proofs.YtbphlkaihfbgeaaGreat
namespace Kv
def yWant (n i:Nat):Want:=if i<3 then ⟨-1,n⟩ else ⟨-1,2⟩
def yWants (n:Nat):List Want:=(List.range (n+3)).map (yWant n)
def yAllW (n:Nat):List Want:=rep (2 ^ levels n-1) (yWants n)
theorem yWants_len (n:Nat):(yWants n).length=n+3:=by simp [yWants]
theorem yAllW_len (n:Nat):(yAllW n).length=(2 ^ levels n-1)*(n+3):=by rw [yAllW,rep_len,yWants_len]
theorem pow_levels {n:Nat}(hn:n<=8):1<=2 ^ levels n/\2 ^ levels n<=8:=by
 have:∀ n:Nat,n<9->1<=2 ^ levels n/\2 ^ levels n<=8:=by decide +kernel
 exact this n (by omega)
theorem yAllW_le {n:Nat}(hn:n<=8):(yAllW n).length<=77:=by
 have:=pow_levels hn
 rw [yAllW_len]
 exact Nat.le_trans (Nat.mul_le_mul (show 2 ^ levels n-1<=7 by omega) (show n+3<=11 by omega)) (by decide)
theorem yAllW_wr {n:Nat}:∀ q∈yAllW n,q.wr=-1:=by
 intro q hq
 unfold yAllW rep at hq
 obtain⟨l,hl,hq⟩:=List.mem_flatten.1 hq
 rw [List.eq_of_mem_replicate hl] at hq
 unfold yWants at hq
 obtain⟨i,_,rfl⟩:=List.mem_map.1 hq
 unfold yWant
 split <;> rfl
theorem lay_native (n:Int)(hn:1<=n/\n<=8)(c:Int)(hc:0<=c/\c<=32768):∀ (l:List Want) (b:Int),0<=b->b+l.length<=32768->∃ rs,layFrom n 1 l b c=some rs/\rs.length=l.length/\∀ (i:Nat) r,rs[i]?=some r->r.kind=1/\r.base=b+i/\r.loc=c/\r.n=n
 | [],b,_,_=>⟨[],rfl,rfl,fun i r h=>by simp at h⟩
 | q :: l,b,h0,h1=>by
   simp only [List.length_cons] at h1
   have hk:(regOf n 1 b c q).kind=1:=by unfold regOf kindM;simp
   have hcl:cellsM (regOf n 1 b c q)=1:=by unfold cellsM;rw [if_pos hk]
   have hll:localsM (regOf n 1 b c q)=0:=by unfold localsM;rw [if_pos hk]
   have hf:fineM (regOf n 1 b c q)=true:=by
    unfold fineM
    rw [hcl,hll]
    rw [Bool.and_eq_true,Bool.and_eq_true,Bool.and_eq_true,decide_eq_true_eq,decide_eq_true_eq,decide_eq_true_eq,decide_eq_true_eq]
    show ((b<=32768/\c<=32768)/\b+1<=32768)/\c+0<=32768
    omega
   obtain⟨rs,h2,h3,h4⟩:=lay_native n hn c hc l (b+1) (by omega) (by omega)
   refine⟨regOf n 1 b c q :: rs,?_,by simp [h3],fun i r hr=>?_⟩
   · unfold layFrom
     rw [if_pos hf,hcl,hll,Int.add_zero,h2]
     rfl
   · cases i with
     | zero =>
       obtain rfl:regOf n 1 b c q=r:=by simpa using hr
       exact⟨hk,by simp [regOf],rfl,rfl⟩
     | succ i =>
       obtain⟨a1,a2,a3,a4⟩:=h4 i r (by simpa using hr)
       exact⟨a1,by rw [a2];omega,a3,a4⟩
theorem yang_lay (n:Nat)(h1:1<=n)(h8:n<=8):∃ rs,layM (yAllW n) n 1 3 2=some rs/\YAll rs n/\YNat rs:=by
 have hl:=yAllW_le h8
 obtain⟨rs,h2,h3,h4⟩:=lay_native n ⟨by omega,by omega⟩ 2 (by decide) (yAllW n) 3 (by decide) (by omega)
 have ha:argsM (yAllW n) n 1 3 2=true:=by
  unfold argsM
  rw [Bool.and_eq_true,decide_eq_true_eq,List.all_eq_true]
  refine⟨by omega,fun q hq=>?_⟩
  rw [decide_eq_true_eq,yAllW_wr q hq]
  omega
 refine⟨rs,by unfold layM;rw [if_pos ha];exact h2,⟨by rw [h3,yAllW_len],fun i hi=>?_⟩,fun i r hr=>?_⟩
 · obtain⟨r,hr⟩:∃ r,rs[i]?=some r:=⟨_,List.getElem?_eq_getElem hi⟩
   obtain⟨a1,a2,a3,a4⟩:=h4 i r hr
   refine⟨r,hr,⟨.inl a1,by omega,by rw [a3];decide,by omega,fun h=>by omega⟩,a4,fun _=>.inl a1,by unfold cellsM;rw [if_pos a1];decide⟩
 · obtain⟨a1,a2,_⟩:=h4 i r hr
   exact⟨a1,by omega⟩
end Kv
namespace Go.Proofs.YtbphlkaihfbgeaaGreat
open Go.RowKit Kv
set_option maxRecDepth 100000 in
set_option maxHeartbeats 1000000 in
theorem ywants_p (n:Nat)(w:World)(h1:1<=n)(h8:n<=8):Calls Tryz.prog 5 #[.int .i64 n] w fun e w'=>∃ v,e=.returned v/\WantsAt w' v (yWants n)/\Ext w w':=by
 go_enter Tryz.func5,Tryz.ntmps5
 go_wp2_with fail
 refine (yfine_p n _ h1 h8).mono ?_
 rintro e w2 ⟨rfl,rfl⟩
 go_wp2_with fail
 go_loopw [3,7] (fun v i wr=>∃ j:Nat,i=.int .i64 j/\j<=3/\wr.ownsRow w.heap.size 54 2 v j (wantRow (yWant n) j)/\Ext w wr) (fun _ i _=>3-(intOf i).toNat)
 case atStart=>exact⟨0,rfl,by omega,World.ownsRow_nil _ _ _ _,Ext.refl _⟩
 case round =>
  obtain⟨j,rfl,hj,hown,hE⟩:=hrel
  by_cases hl:j<3
  · have dj:decide ((j:Int)<3)=true:=by rw [decide_eq_true_eq];omega
    go_wp2_with (at_builtin;refine append_rec info_want Tryz.underlying25 rfl (by decide) (by decide) rfl _ _ rfl _ j _ [.int .i64 (-1),.int .i64 n] hE hown rfl rfl rfl (by simp [Value.oneCell']) (by omega) ?_)
    intro v' w' ho hx _
    have hoh:=Lib.hid ho
    clear hown ho
    go_wp2_with fail
    refine⟨⟨j+1,by go_num,by omega,?_,hx⟩,?_⟩
    · rw [wants_succ]
      rw [show yWant n j=⟨-1,n⟩ from by unfold yWant;rw [if_pos hl]]
      exact hoh.out
    · simp [intOf];omega
  · have hj3:j=3:=by omega
    have dj:decide ((j:Int)<3)=false:=by rw [decide_eq_false_iff_not];omega
    have hownh:Hid (wr.ownsRow w.heap.size 54 2 _ (3+0) (wantRow (yWant n) (3+0))):=Lib.hid (by rw [<- hj3,Nat.add_zero];exact hown)
    clear hown hj3 hj hl
    go_wp2_with fail
    clear dj
    go_loopw [3,16] (fun v i wr=>∃ j:Nat,i=.int .i64 j/\j<=n/\wr.ownsRow w.heap.size 54 2 v (3+j) (wantRow (yWant n) (3+j))/\Ext w wr) (fun _ i _=>n-(intOf i).toNat)
    case atStart=>exact⟨0,rfl,by omega,hownh.out,hE⟩
    case round =>
     clear hownh hE
     obtain⟨j,rfl,hj,hown,hE⟩:=hrel
     by_cases hl:j<n
     · have dj:decide ((j:Int)<(n:Int))=true:=by rw [decide_eq_true_eq];omega
       go_wp2_with (at_builtin;refine append_rec info_want Tryz.underlying25 rfl (by decide) (by decide) rfl _ _ rfl _ (3+j) _ [.int .i64 (-1),.int .i64 2] hE hown rfl rfl rfl (by simp [Value.oneCell']) (by omega) ?_)
       intro v' w' ho hx _
       have hoh:=Lib.hid ho
       clear hown ho
       go_wp2_with fail
       refine⟨⟨j+1,by go_num,by omega,?_,hx⟩,?_⟩
       · rw [show 3+(j+1)=(3+j)+1 from by omega,wants_succ]
         rw [show yWant n (3+j)=⟨-1,2⟩ from by unfold yWant;rw [if_neg (by omega)]]
         exact hoh.out
       · simp [intOf];omega
     · obtain rfl:j=n:=by omega
       have hownh:=Lib.hid hown
       clear hown
       go_wp2_with fail
       go_ret
       have h:=wants_row hownh.out
       rw [Nat.add_comm] at h
       exact⟨_,rfl,h,hE⟩
theorem ywants_0 (w:World):Calls Tryz.prog 5 #[.int .i64 0] w fun e w'=>e=.returned (.slice none 0 0)/\Ext w w':=by
 have hf:∀ W,Calls Tryz.prog 28 #[.int .i64 0] W fun e w'=>e=.returned (.bool false)/\W=w':=fun W=>by
  go_enter Tryz.func28,Tryz.ntmps28
  go_wp2_with fail
  go_ret
  exact⟨rfl,rfl⟩
 go_enter Tryz.func5,Tryz.ntmps5
 go_wp2_with fail
 refine (hf _).mono ?_
 rintro e w2 ⟨rfl,rfl⟩
 go_wp2_with fail
 go_ret
 exact⟨rfl,Ext.refl w⟩
set_option maxRecDepth 100000 in
set_option maxHeartbeats 1000000 in
theorem yallw_p (n:Nat)(w:World)(h1:1<=n)(h8:n<=8):Calls Tryz.prog 4 #[.int .i64 n] w fun e w'=>∃ v,e=.returned v/\WantsAt w' v (yAllW n)/\Ext w w':=by
 have hlv:=fun w=>levels_p n (by omega) w
 have hp:=pow_levels h8
 have hw:=yWants_len n
 have hrp:=fun (v:Value) (W:World) (hv:WantsAt W v (yWants n))=>repeat_p v (yWants n) (2 ^ levels n-1) W hv (by omega) (by omega) (by omega)
 unfold yAllW
 have hl3:levels n<=3:=by
  have:∀ n:Nat,n<9->levels n<=3:=by decide +kernel
  exact this n (by omega)
 generalize levels n=L at *
 have hPi:(2:Int) ^ L=((2 ^ L:Nat):Int):=by rw [Int.natCast_pow];rfl
 generalize 2 ^ L=P at *
 have hsh:Op.shift .shl .i64 1 .i64 (L:Int)=pure (.int .i64 (P:Int)):=by
  rw [Go.shift_shl_i64 (x:=1) (y:=(L:Int)) (yk:=.i64) (by omega) (by omega),Int.one_mul,Int.toNat_natCast,hPi,IntWalk.i64_in _ (by omega)]
 obtain⟨k,hk⟩:∃ k,P-1=k:=⟨_,rfl⟩
 have hwk:IntKind.i64.wrap ((P:Int)-1)=(k:Int):=by rw [IntWalk.i64_in _ (by omega)];omega
 rw [hk] at hrp ⊢
 replace hrp:=Lib.hid hrp
 have hw2:IntKind.i64.wrap ((2:Int) ^ L)=(P:Int):=by rw [hPi];exact IntWalk.i64_in _ (by omega)
 clear hPi hk hl3
 go_enter Tryz.func4,Tryz.ntmps4
 go_wp2_with fail
 refine (yfine_p n _ h1 h8).mono ?_
 rintro e w2 ⟨rfl,rfl⟩
 go_wp2_with fail
 refine (hlv _).mono ?_
 rintro e w' ⟨rfl,rfl⟩
 go_wp2_with fail
 refine (ywants_p n _ h1 h8).mono ?_
 rintro e w3 ⟨v,rfl,hv,hx⟩
 have hr:=hrp.out v w3 hv
 obtain⟨A,c,rfl,-⟩:=id hv
 rw [hw] at hr ⊢
 replace hr:=Lib.hid hr
 clear hv hrp hw
 go_wp2_with fail
 refine hr.out.mono ?_
 rintro e w4 ⟨v',rfl,hv',hx4⟩
 obtain⟨A',c',rfl,-⟩:=id hv'
 have hvh:=Lib.hid hv'
 clear hv' hr
 go_wp2_with fail
 go_ret
 exact⟨_,rfl,hvh.out,hx.trans hx4⟩
theorem yang_some (n:Nat)(v:Value)(w:World)(h:WantsAt w v (yAllW n))(h1:1<=n)(h8:n<=8) :
  Calls Tryz.prog 10 #[v,.int .i64 n,.int .i64 1] w fun e w'=>∃ A c rs,e=.returned (.slice A rs.length c)/\YAll rs n/\YNat rs/\rs.length<=c/\c<=9223372036854775807/\Ext w w'/\(rs≠[]->∃ b,A=some ⟨b,0,none⟩/\w.heap.size<=b/\b<w'.heap.size/\(∀ (i:Nat) u,(rs.flatMap regVals)[i]?=some u->w'.cell? ⟨b,i,none⟩=some u)):=by
 obtain⟨rs,hl,he,hy⟩:=yang_lay n h1 h8
 have hlen:=yAllW_le h8
 refine (some_r v _ n 1 w h (by omega)).mono ?_
 rintro e w' ⟨v',rfl,hx,hrow⟩
 rw [hl] at hrow
 simp only [Option.getD_some] at hrow
 obtain⟨Ar,cr,rfl,r1,r2,hV⟩:=Recs.of_row hrow
 refine⟨Ar,cr,rs,rfl,he,hy,r1,r2,hx,fun hne=>?_⟩
 cases rs with
 | nil=>exact absurd rfl hne
 | cons r rs =>
   obtain⟨b,rfl,hb,hc⟩:=hV (by simp [regVals])
   exact⟨b,rfl,(World.ownsRow.lt hrow b rfl).1,hb,hc⟩
structure BelowX (X:Nat->Prop) (w w':World):Prop where
 os:w'.os=w.os
 tape:w'.tape=w.tape
 output:w'.output=w.output
 size:w.heap.size<=w'.heap.size
 blocks:∀ k,k<w.heap.size->¬ X k->w'.heap[k]?=w.heap[k]?
theorem BelowX.of {X:Nat->Prop}{w w':World}(h:Ext w w'):BelowX X w w':=⟨h.os,h.tape,h.output,h.size,fun k hk _=>h.block k hk⟩
theorem BelowX.refl (X:Nat->Prop)(w:World):BelowX X w w:=BelowX.of (Ext.refl w)
theorem BelowX.trans {X:Nat->Prop}{w w' w'':World}(h:BelowX X w w')(g:BelowX X w' w''):BelowX X w w'' :=
 ⟨g.os.trans h.os,g.tape.trans h.tape,g.output.trans h.output,Nat.le_trans h.size g.size,fun k hk hx=>(g.blocks k (Nat.lt_of_lt_of_le hk h.size) hx).trans (h.blocks k hk hx)⟩
theorem BelowX.set {X:Nat->Prop}{w w':World}(h:BelowX X w w'){b:Nat}(hb:X b)(i:Nat)(v:Value):BelowX X w (w'.setCell ⟨b,i,none⟩ v):=by
 have e:∀ k,k≠b->(w'.setCell ⟨b,i,none⟩ v).heap[k]?=w'.heap[k]?:=fun k hk=>heap_setCell_ne _ _ hk
 exact⟨h.os,h.tape,h.output,by simpa using h.size,fun k hk hx=>(e k (fun hkb=>hx (hkb▸hb))).trans (h.blocks k hk hx)⟩
theorem BelowX.mono {X Y:Nat->Prop}{w w':World}(h:BelowX X w w')(hxy:∀ k,X k->Y k):BelowX Y w w' :=
 ⟨h.os,h.tape,h.output,h.size,fun k hk hx=>h.blocks k hk fun q=>hx (hxy k q)⟩
theorem BelowX.blk {X:Nat->Prop}{w w':World}(h:BelowX X w w'){b:Nat}{o:Obj}(hb:Blk w b o)(hx:¬ X b):Blk w' b o:=(h.blocks b hb.lt hx).trans hb
theorem BelowX.ints {X:Nat->Prop}{w w':World}{v:Value}{l:List Int}(h:BelowX X w w')(hl:Ints w v l)(hx:∀ b,v.ownBlock=some b->¬ X b):Ints w' v l:=by
 obtain⟨A,c,rfl,h1,h2,h3⟩:=hl
 refine⟨A,c,rfl,h1,h2,fun hne=>?_⟩
 obtain⟨b,off,rfl,hb,hc⟩:=h3 hne
 refine⟨b,off,rfl,Nat.lt_of_lt_of_le hb h.size,fun i x hi=>?_⟩
 rw [<- hc i x hi]
 unfold World.cell?
 simp only
 rw [h.blocks b hb (hx b rfl)]
theorem BelowX.grown {X:Nat->Prop}{w w' wr:World}{o:Obj}{row:Option Nat}(h:BelowX X w wr)(hg:(wr.alloc o).grownBy w' row)(hr:∀ b,row=some b->w.heap.size<=b):BelowX X w w':=by
 have h1:=h.trans (BelowX.of ((Ext.refl wr).alloc o))
 exact⟨hg.os.trans h1.os,hg.tape.trans h1.tape,hg.output.trans h1.output,Nat.le_trans h1.size hg.size,fun k hk hx=>(hg.block k (Nat.lt_of_lt_of_le hk h1.size) (fun e=>by have:=hr k e.symm;omega)).trans (h1.blocks k hk hx)⟩
def rowOf (l:List Int):List Value:=l.map (Value.int .i64)
structure ARows (B:Nat) (bs:List Nat) (w:World) (vs:Array Value) (ans:Nat->List Int) (n:Nat):Prop where
 sz:vs.size=n
 ge:B<=w.heap.size
 row:∀ t,t<n->∃ v,vs[t]?=some v/\w.ownsRow B 3 1 v (ans t).length (rowOf (ans t))
 off:∀ (t:Nat) (v:Value) (b:Nat),vs[t]?=some v->v.ownBlock=some b->b ∉ bs
 apart:∀ (t s:Nat) (v u:Value) (b:Nat),t≠s->vs[t]?=some v->vs[s]?=some u->v.ownBlock=some b->u.ownBlock≠some b
section
variable {B n:Nat} {bs:List Nat} {w W:World} {vs:Array Value} {ans:Nat->List Int}
theorem own_ge {v:Value}{k:Nat}{xs:List Value}(h:w.ownsRow B 3 1 v k xs){b:Nat}(hb:v.ownBlock=some b):B<=b/\b<w.heap.size:=by
 rcases h.2 with⟨rfl,_⟩ | ⟨g,cap,cur,rfl,h1,h2,_⟩
 · simp [Value.ownBlock] at hb
 · simp only [Value.ownBlock,Option.some.injEq] at hb
   subst hb
   exact⟨h1,(Array.getElem?_eq_some_iff.1 h2).1⟩
theorem ARows.ints (h:ARows B bs w vs ans n){t:Nat}(ht:t<n):∃ A c,vs[t]?=some (.slice A (ans t).length c)/\Ints w (.slice A (ans t).length c) (ans t)/\w.ownsRow B 3 1 (.slice A (ans t).length c) (ans t).length (rowOf (ans t)):=by
 obtain⟨v,h1,h2⟩:=h.row t ht
 have h3:=IntRow.ints (show IntRow w B v (ans t) from h2)
 obtain⟨A,c,rfl,_⟩:=h3.slice
 exact⟨A,c,h1,h3,h2⟩
theorem ARows.ext (h:ARows B bs w vs ans n)(hx:Ext w W):ARows B bs W vs ans n :=
 { h with
  ge:=Nat.le_trans h.ge hx.size
  row:=fun t ht=>by
   obtain⟨v,h1,h2⟩:=h.row t ht
   exact⟨v,h1,row_ext h2 hx⟩ }
theorem ARows.set (h:ARows B bs w vs ans n){b:Nat}(hb:b∈bs)(i:Nat)(u:Value):ARows B bs (w.setCell ⟨b,i,none⟩ u) vs ans n :=
 { h with
  ge:=by simpa using h.ge
  row:=fun t ht=>by
   obtain⟨v,h1,h2⟩:=h.row t ht
   exact⟨v,h1,row_set h2 fun e=>h.off t v b h1 e hb⟩ }
theorem ARows.more (h:ARows B bs w vs ans n){b:Nat}(hb:w.heap.size<=b):ARows B (b :: bs) w vs ans n :=
 { h with
  off:=fun t v k h1 h2 hk=>by
   have ht:t<n:=by rw [<- h.sz];exact (Array.getElem?_eq_some_iff.1 h1).1
   obtain⟨v',q1,q2⟩:=h.row t ht
   rw [q1] at h1
   injection h1 with h1
   subst h1
   have:=own_ge q2 h2
   rcases List.mem_cons.1 hk with rfl | hk
   · omega
   · exact h.off t _ k q1 h2 hk }
theorem ARows.less {cs:List Nat}(h:ARows B bs w vs ans n)(hc:∀ b∈cs,b∈bs):ARows B cs w vs ans n :=
 { h with off:=fun t v k h1 h2 hk=>h.off t v k h1 h2 (hc k hk) }
theorem ARows.clear (h:ARows B bs w vs ans n)(t:Nat):ARows B bs w (vs.setIfInBounds t (.slice none 0 0)) (fun s=>if s=t then [] else ans s) n:=by
 have hsz:=h.sz
 have get:∀ s u b,(vs.setIfInBounds t (.slice none 0 0))[s]?=some u->u.ownBlock=some b->s≠t/\vs[s]?=some u:=fun s u b h1 h2=>by
  by_cases e:t=s
  · subst e
    have hl:t<vs.size:=by
     have:=(Array.getElem?_eq_some_iff.1 h1).1
     simpa using this
    rw [Array.getElem?_setIfInBounds_self_of_lt hl] at h1
    injection h1 with h1
    subst h1
    simp [Value.ownBlock] at h2
  · rw [Array.getElem?_setIfInBounds_ne e] at h1
    exact⟨Ne.symm e,h1⟩
 refine⟨by simp [hsz],h.ge,fun s hs=>?_,fun s u b h1 h2=>h.off s u b (get s u b h1 h2).2 h2,fun s r u u' b hne h1 h1' h2 h2'=>h.apart s r u u' b hne (get s u b h1 h2).2 (get r u' b h1' h2').2 h2 h2'⟩
 by_cases e:s=t
 · subst e
   refine⟨.slice none 0 0,Array.getElem?_setIfInBounds_self_of_lt (by omega),?_⟩
   rw [if_pos rfl]
   exact⟨rfl,.inl ⟨rfl,rfl⟩⟩
 · obtain⟨u,q1,q2⟩:=h.row s hs
   refine⟨u,by rw [Array.getElem?_setIfInBounds_ne (Ne.symm e)];exact q1,?_⟩
   rw [if_neg e]
   exact q2
end
theorem lay_end {V0 wq:World}{bl b:Nat}{rs:List Reg}{T:TypeId}{v:Value}(hz:Blk wq bl (.cells #[.slice none 0 0] T))(hx:Ext V0 wq)(hV:V0.heap.size<=bl)(hb:b<wq.heap.size)(hne:rs≠[])
  (hc:∀ (i:Nat) u,(rs.flatMap regVals)[i]?=some u->wq.cell? ⟨b,i,none⟩=some u):Ext V0 (wq.setCell ⟨bl,0,none⟩ v)/\Blk (wq.setCell ⟨bl,0,none⟩ v) bl (.cells #[v] T)/\b<(wq.setCell ⟨bl,0,none⟩ v).heap.size/\(∀ (i:Nat) u,(rs.flatMap regVals)[i]?=some u->(wq.setCell ⟨bl,0,none⟩ v).cell? ⟨b,i,none⟩=some u):=by
 have hn:b≠bl:=fun e=>by
  cases rs with
  | nil=>exact hne rfl
  | cons r rs =>
    have h1:=hc 0 (.int .i64 r.kind) rfl
    rw [e,hz.cells 0] at h1
    cases h1
 refine⟨hx.setCell (p:=⟨bl,0,none⟩) hV v,heap_setCell hz v,by simpa using hb,fun i u hu=>?_⟩
 have h1:(wq.setCell ⟨bl,0,none⟩ v).heap[b]?=wq.heap[b]?:=heap_setCell_ne _ _ hn
 exact (World.cell?_of_block (w:=wq) (a:=⟨b,i,none⟩) h1).trans (hc i u hu)
theorem box_end {V0 wq:World}{bz:Nat}{T:TypeId}{v0 v:Value}(hz:Blk wq bz (.cells #[v0] T))(hx:Ext V0 wq)(hV:V0.heap.size<=bz):Ext V0 (wq.setCell ⟨bz,0,none⟩ v)/\Blk (wq.setCell ⟨bz,0,none⟩ v) bz (.cells #[v] T) :=
 ⟨hx.setCell (p:=⟨bz,0,none⟩) hV v,heap_setCell hz v⟩
section
variable {w0 wr W:World} {bn bl bc ba bp:Nat} {on ol:Obj} {M:List Int} {ph:Nat->Int} {ans:Nat->List Int} {vs:Array Value}
end
end Go.Proofs.YtbphlkaihfbgeaaGreat
namespace Kv
end Kv
namespace Go.Proofs.YtbphlkaihfbgeaaGreat
open Go.RowKit Kv
@[go_sem] theorem build_acc3 (a b c:Int) (w:World):(Instr.build 56 #[(0,.int .i64 a),(1,.int .i64 b),(2,.int .i64 c)]).run Tryz.prog w=.ok (.agg #[.int .i64 a,.int .i64 b,.int .i64 c]) w:=run_build w 56 _ _ (by kernel_rfl)
end Go.Proofs.YtbphlkaihfbgeaaGreat
namespace Kv
def homeM (len n:Nat) (cell:Int):Int:=if 3<=cell/\cell<3+len/\3<=(cell-3) % ((n:Int)+3) then (cell-3) % ((n:Int)+3)-3 else -1
def yOp (D:Nat) (rs:List Reg) (n t ph:Nat):Prog Int:=if ph=2 then (yRel rs n t).bind fun _=>.ret 0 else (yAcq D rs n t).bind fun _=>.ret 0
theorem yOp_eq {D:Nat}{rs:List Reg}{n t ph:Nat}(hy:YNat rs)(hall:YAll rs n)(hn:n<=8)(ht:t<n)(hD:0<D)(hL:0<levels n):EqB D (yOp D rs n t ph) (treeM (yask (levels n) n t) D (ystart (levels n) ph)):=by
 unfold yOp ystart
 by_cases h:ph=2
 · rw [if_pos h,if_pos h]
   have:=yrel_eq (D:=D) hy hall hn ht hD
   rw [if_pos hL] at this
   exact this
 · rw [if_neg h,if_neg h]
   have:=yacq_eq (D:=D) hy hall hn ht hD
   rw [if_pos hL] at this
   exact this
end Kv
namespace Go.Proofs.YtbphlkaihfbgeaaGreat
open Go.RowKit Kv
set_option maxRecDepth 100000 in
set_option maxHeartbeats 1000000 in
theorem yhome_p (n:Nat)(rs:List Reg)(A:Option Addr)(c:Nat)(cell:Int)(w:World)(h1:1<=n)(h8:n<=8)(hlen:rs.length<=77)(hy:YNat rs)
  (hV:Vals w A (rs.flatMap regVals)) :
  Calls Tryz.prog 33 #[.slice A rs.length c,.int .i64 n,.int .i64 cell] w fun e w'=>e=.returned (.int .i64 (homeM rs.length n cell))/\Ext w w':=by
 have hyh:=Lib.hid hy
 have hVh:=Lib.hid hV
 obtain⟨m,hm⟩:∃ m,rs.length=m:=⟨_,rfl⟩
 have hmh:=Lib.hid hm
 rw [hm] at hlen ⊢
 clear hy hV hm
 go_enter Tryz.func33,Tryz.ntmps33
 go_wp2_with fail
 refine (yfine_p n _ h1 h8).mono ?_
 rintro e w2 ⟨rfl,rfl⟩
 go_wp2_with fail
 go_loopw [15] (fun a15 wr=>∃ j:Nat,a15=.int .i64 j/\j<=m/\Ext w wr/\Hid (∀ i:Nat,i<j->¬ (3+(i:Int)=cell/\3<=i % (n+3)))) (fun a15 _=>m-(intOf a15).toNat)
 case atStart=>exact⟨0,rfl,by omega,Ext.refl w,Lib.hid fun i hi=>absurd hi (by omega)⟩
 case round =>
  obtain⟨j,rfl,hj,hE,hno⟩:=hrel
  by_cases hjm:j<m
  · have dj:decide ((j:Int)<(m:Int))=true:=by rw [decide_eq_true_eq];omega
    have dj2:decide (j<m)=true:=by rw [decide_eq_true_eq];omega
    obtain⟨r,hr⟩:∃ r,rs[j]?=some r:=⟨_,List.getElem?_eq_getElem (by rw [hmh.out];exact hjm)⟩
    obtain⟨hk,hbase⟩:=hyh.out j r hr
    obtain⟨b,rfl,hb,a0,a1,a2,a3,a4,a5,a6⟩:=reg_at (hVh.out.ext hE) hr
    obtain⟨q,hq⟩:∃ q:Nat,j % (n+3)=q:=⟨_,rfl⟩
    have hq8:q<n+3:=by rw [<- hq];exact Nat.mod_lt _ (by omega)
    have hn3:=IntWalk.i64_in ((n:Int)+3) (by omega)
    have hz3:¬ n+3=0:=by omega
    have hz4:¬ (n:Int)+3=0:=by omega
    have htm:(j:Int).tmod ((n:Int)+3)=(q:Int):=by
     rw [Int.tmod_eq_emod_of_nonneg (by omega),<- hq,Int.natCast_emod]
     rfl
    have hwq:=IntWalk.i64_in ((q:Int)-3) (by omega)
    have hqh:=Lib.hid hq
    by_cases hcell:3+(j:Int)=cell/\3<=q
    · have dc:(r.base==cell)=true:=by rw [beq_iff_eq,hbase];exact hcell.1
      have dq:decide ((0:Int)<=(q:Int)-3)=true:=by rw [decide_eq_true_eq];omega
      have dq2:decide (3<=q)=true:=by rw [decide_eq_true_eq];omega
      have dq3:decide ((3:Int)<=(q:Int))=true:=by rw [decide_eq_true_eq];omega
      have hres:homeM m n cell=(q:Int)-3:=by
       unfold homeM
       rw [show cell-3=(j:Int) from by omega,show (j:Int) % ((n:Int)+3)=(q:Int) from by rw [<- hq,Int.natCast_emod];rfl,if_pos (by omega)]
      have hresh:=Lib.hid hres
      have hEx:=hE.alloc (.cells #[.int .i64 r.kind,.int .i64 r.base,.int .i64 r.loc,.int .i64 r.n,.int .i64 r.wr,.int .i64 r.rd,.int .i64 r.top] 87)
      clear hcell hq hres hbase hk hno hE
      go_wp2_with fail
      go_ret
      exact⟨by rw [hresh.out];rfl,hEx⟩
    · have hno2:Hid (∀ i:Nat,i<j+1->¬ (3+(i:Int)=cell/\3<=i % (n+3))):=Lib.hid fun i hi=>by
       by_cases e:i=j
       · rw [e,hq];exact hcell
       · exact hno.out i (by omega)
      have hEx:=hE.alloc (.cells #[.int .i64 r.kind,.int .i64 r.base,.int .i64 r.loc,.int .i64 r.n,.int .i64 r.wr,.int .i64 r.rd,.int .i64 r.top] 87)
      by_cases hcb:3+(j:Int)=cell
      · have dc:(r.base==cell)=true:=by rw [beq_iff_eq,hbase];exact hcb
        have dq:decide ((0:Int)<=(q:Int)-3)=false:=by rw [decide_eq_false_iff_not];omega
        have dq2:decide (3<=q)=false:=by rw [decide_eq_false_iff_not];omega
        have dq3:decide ((3:Int)<=(q:Int))=false:=by rw [decide_eq_false_iff_not];omega
        clear hcell hq hbase hk hno hE hcb
        go_wp2_with fail
        refine⟨⟨j+1,by first | rfl | go_num,by omega,hEx,hno2⟩,?_⟩
        simp [intOf];omega
      · have dc:(r.base==cell)=false:=by rw [beq_eq_false_iff_ne,hbase];exact hcb
        clear hcell hq hbase hk hno hE hcb
        go_wp2_with fail
        refine⟨⟨j+1,by first | rfl | go_num,by omega,hEx,hno2⟩,?_⟩
        simp [intOf];omega
  · obtain rfl:j=m:=by omega
    have dj:decide ((j:Int)<(j:Int))=false:=by rw [decide_eq_false_iff_not];omega
    have hres:homeM j n cell=-1:=by
     unfold homeM
     rw [if_neg]
     rintro ⟨z1,z2,z3⟩
     have:=hno.out (cell-3).toNat (by omega)
     refine this ⟨by omega,?_⟩
     have:((((cell-3).toNat % (n+3):Nat)):Int)=(cell-3) % ((n:Int)+3):=by
      rw [Int.natCast_emod,Int.toNat_of_nonneg (by omega)]
      rfl
     omega
    have hresh:=Lib.hid hres
    clear hno hres
    go_wp2_with fail
    go_ret
    exact⟨by rw [hresh.out];rfl,hE⟩
set_option maxRecDepth 100000 in
theorem yal1 (B p:Nat)(S:TS)(b c bl:Nat)(rs:List Reg)(w:World)(h:Plays B w p S)(hl:RegsAt [2,3,4] w p b rs)(he:YAll rs 2)(hlen:rs.length=5)(hc1:5<=c)(hc2:c<=9223372036854775807)(hta:TameA S)(hD:S.left<6)
  (c1:w.cell? ⟨bl,0,none⟩=some (.slice (some ⟨b,0,none⟩) 5 c)) :
  Calls Tryz.prog 31 #[.pointer (some ⟨p,0,none⟩),.pointer (some ⟨bl,0,none⟩)] w (Post encI B p w ((yOp 6 rs 2 1 0).run S)):=by
 have hq:=yacq_p B p 2 1 6 S rs (some ⟨b,0,none⟩) c w h (by decide) (by decide) (by decide) he (by omega) hc2 (fun _=>⟨b,rfl,hl⟩) hta hD
 rw [hlen] at hq
 generalize hR:Post encI B p w ((yOp 6 rs 2 1 0).run S)=R
 have hO:Owes R encI B p w ((yOp 6 rs 2 1 0).run S):=hR▸owes _ _ _ _ _
 clear hR
 replace hO:Owes R encI B p w (((yAcq 6 rs 2 1).bind fun _=>Prog.ret (0:Int)).run S):=hO
 have hK:=Keep.refl [2,3,4] B p w
 go_enter Tryz.func31,Tryz.ntmps31
 go_wp2_with fail
 clear c1
 refine tstep hO hK hq (fun _ h=>⟨rfl,h⟩) ?_
 intro v S1 w1 hr hP1 hk1 hK1 hO1
 have hf:=hO1.done (v:=0) hP1 hK1
 clear hO1 hP1 hK1 hr hk1 hO h hK hq hl
 go_wp2_with fail
 first | exact hf | (go_ret;exact hf)
set_option maxRecDepth 100000 in
theorem yal2 (B p:Nat)(S:TS)(b c bl:Nat)(rs:List Reg)(w:World)(h:Plays B w p S)(hl:RegsAt [2,3,4] w p b rs)(he:YAll rs 2)(hlen:rs.length=5)(hc1:5<=c)(hc2:c<=9223372036854775807)(hta:TameA S)(hD:S.left<6)
  (c1:w.cell? ⟨bl,0,none⟩=some (.slice (some ⟨b,0,none⟩) 5 c)) :
  Calls Tryz.prog 32 #[.pointer (some ⟨p,0,none⟩),.pointer (some ⟨bl,0,none⟩)] w (Post encI B p w ((yOp 6 rs 2 1 2).run S)):=by
 have hq:=yrel_p B p 2 1 6 S rs (some ⟨b,0,none⟩) c w h (by decide) (by decide) (by decide) he (by omega) hc2 (fun _=>⟨b,rfl,hl⟩) hta hD
 rw [hlen] at hq
 generalize hR:Post encI B p w ((yOp 6 rs 2 1 2).run S)=R
 have hO:Owes R encI B p w ((yOp 6 rs 2 1 2).run S):=hR▸owes _ _ _ _ _
 clear hR
 replace hO:Owes R encI B p w (((yRel rs 2 1).bind fun _=>Prog.ret (0:Int)).run S):=hO
 have hK:=Keep.refl [2,3,4] B p w
 go_enter Tryz.func32,Tryz.ntmps32
 go_wp2_with fail
 clear c1
 refine tstep hO hK hq (fun _ h=>⟨rfl,h⟩) ?_
 intro v S1 w1 hr hP1 hk1 hK1 hO1
 have hf:=hO1.done (v:=0) hP1 hK1
 clear hO1 hP1 hK1 hr hk1 hO h hK hq hl
 go_wp2_with fail
 first | exact hf | (go_ret;exact hf)
theorem tame_list {l:List Int}(h:∀ v∈l,0<=v/\v<=1048576):TameA (TS0 [] l):=h
set_option maxRecDepth 100000 in
set_option maxHeartbeats 1000000 in
theorem alive47 (w:World):Calls Tryz.prog 6 #[] w fun e w'=>e=.returned (.bool true)/\Ext w w':=by
 have hmf:∀ (fn:Fn) (first cap:Array Value) (w:World),(Instr.makeFunc fn first cap).run Tryz.prog w=.ok (.func fn first cap) w:=fun _ _ _ _=>rfl
 go_enter Tryz.func6,Tryz.ntmps6
 go_wp2_with fail
 refine (yallw_p 2 w (by decide) (by decide)).mono ?_
 rintro e w1 ⟨v1,rfl,hW,hX⟩
 have hSm:=yang_some 2 v1 w1 hW (by decide) (by decide)
 obtain⟨Aw,cw,rfl,_,_,_⟩:=hW
 go_wp2_with fail
 refine hSm.mono ?_
 rintro e w2 ⟨A,c,rs,rfl,he,hy,hc1,hc2,hx2,hreg⟩
 have hlen:rs.length=5:=by rw [he.len];decide +kernel
 obtain⟨b,rfl,-,hb,hc⟩:=hreg (by rintro rfl;simp at hlen)
 rw [hlen] at hc1 ⊢
 replace hX:=hX.trans hx2
 clear hSm hx2 hreg
 go_upto_region 4 with fail
 have g1:=Blk.new w2 (.cells #[.slice (some ⟨b,0,none⟩) 5 c] 29)
 have x1:=(Ext.refl w2).alloc (.cells #[.slice (some ⟨b,0,none⟩) 5 c] 29)
 have hA:=ints_new (w2.alloc (.cells #[.slice (some ⟨b,0,none⟩) 5 c] 29)) [0,0,0,0] (by simp)
 have x3:=(Ext.refl (w2.alloc (.cells #[.slice (some ⟨b,0,none⟩) 5 c] 29))).alloc (.cells (([0,0,0,0]:List Int).map (Value.int .i64)).toArray 3)
 have c_g1:=g1.cells
 have hmk:=make_ints 4 4 rfl (by decide) (w2.alloc (.cells #[.slice (some ⟨b,0,none⟩) 5 c] 29))
 replace g1:=g1.ext x3
 replace x1:=x1.trans x3
 simp only [World.size_alloc,zeros,List.replicate,List.map_cons,List.map_nil,List.length_cons,List.length_nil] at hA g1 x1 x3 hmk
 clear x3
 go_wp2_with fail
 have hsz:w2.heap.size+1<(World.alloc (World.alloc w2 (.cells #[.slice (some ⟨b,0,none⟩) 5 c] 29)) (.cells #[.int .i64 0,.int .i64 0,.int .i64 0,.int .i64 0] 3)).heap.size:=by simp
 clear hmk c_g1
 generalize World.alloc (World.alloc w2 _) _=W0 at *
 have hL2:levels ((2:Nat):Int)=1:=by decide +kernel
 have r1:(yOp 6 rs 2 1 0).run (TS0 [] [0,0,0,0])=(treeM (yask 1 2 1) 6 (some (0,.out))).run (TS0 [] [0,0,0,0]):=by
  have:=yOp_eq (D:=6) (ph:=0) hy he (by decide) (show 1<2 by decide) (by decide) (by rw [hL2];decide) (TS0 [] [0,0,0,0]) (by decide)
  rw [hL2] at this
  exact this
 have r2:(yOp 6 rs 2 1 2).run (TS0 [] [0,2])=(treeM (yask 1 2 1) 6 (some (0,.inn))).run (TS0 [] [0,2]):=by
  have:=yOp_eq (D:=6) (ph:=2) hy he (by decide) (show 1<2 by decide) (by decide) (by rw [hL2];decide) (TS0 [] [0,2]) (by decide)
  rw [hL2] at this
  exact this
 have hP1:=play_int 31 #[.pointer (some ⟨w2.heap.size,0,none⟩)] (yOp 6 rs 2 1 0) none 0 [] (some ⟨w2.heap.size+1,0,none⟩) 4 [0,0,0,0] W0 (Ints.nil _) (by simp) hA (by decide) (fun k hk=>by simp only [Value.ownBlock,Option.some.injEq] at hk;omega) (fun _ _=>rfl) (fun W p hxW hP=>yal1 _ p _ b c w2.heap.size rs W hP (regsP hb hc (x1.trans hxW) hP x1.size) he hlen hc1 hc2 (tame_list (by decide)) (by decide) ((g1.ext hxW).cells 0))
 rw [r1] at hP1
 refine hP1.mono ?_
 clear hP1 r1
 rintro e y1 ⟨v1,rfl,hO,hx1⟩
 have e1:((treeM (yask 1 2 1) 6 (some (0,.out))).run (TS0 [] [0,0,0,0])).1=some 0:=by kernel_rfl
 have e2:((treeM (yask 1 2 1) 6 (some (0,.out))).run (TS0 [] [0,0,0,0])).2.acc.length=4:=by kernel_rfl
 have e3:((treeM (yask 1 2 1) 6 (some (0,.out))).run (TS0 [] [0,0,0,0])).2.acc[2]?=some ⟨2,7,0⟩:=by kernel_rfl
 rw [e1] at hO ⊢
 generalize ((treeM (yask 1 2 1) 6 (some (0,.out))).run (TS0 [] [0,0,0,0])).2=S1 at *
 obtain⟨A1,c1,A1',c1',vs1,L1,rfl,hO⟩:=hO
 obtain⟨As1,k1,hvs1,_,_⟩:=hO.locs.slice
 subst hvs1
 obtain⟨u1,rfl,hu1,z10,z11,z12⟩:=hO.accs.at_ e3
 simp only [Nat.reduceMul,Nat.reduceAdd] at z10 z11 z12
 unfold outV
 rw [e2] at *
 simp only [Option.getD_some,Option.isSome_some]
 replace g1:=g1.ext hx1
 replace x1:=x1.trans hx1
 generalize (shortL L1).length=n1 at *
 clear e1 e2 e3 hO hA hsz hx1
 have o1:=(Ext.refl y1).alloc (.cells #[.bool true,.slice (some ⟨u1,0,none⟩) 4 c1,.slice A1' S1.nts.length c1',.slice As1 n1 k1] 36)
 have g3:=Blk.new y1 (.cells #[.bool true,.slice (some ⟨u1,0,none⟩) 4 c1,.slice A1' S1.nts.length c1',.slice As1 n1 k1] 36)
 go_upto_region 5 with fail
 have hA:=ints_new (y1.alloc (.cells #[.bool true,.slice (some ⟨u1,0,none⟩) 4 c1,.slice A1' S1.nts.length c1',.slice As1 n1 k1] 36)) [0,2] (by simp)
 have x3:=(Ext.refl (y1.alloc (.cells #[.bool true,.slice (some ⟨u1,0,none⟩) 4 c1,.slice A1' S1.nts.length c1',.slice As1 n1 k1] 36))).alloc (.cells (([0,2]:List Int).map (Value.int .i64)).toArray 3)
 replace g3:=g3.ext x3
 replace o1:=o1.trans x3
 replace g1:=g1.ext o1
 replace x1:=x1.trans o1
 replace z10:=(o1.cell (p:=⟨u1,6,none⟩) hu1).trans z10
 replace z11:=(o1.cell (p:=⟨u1,7,none⟩) hu1).trans z11
 replace z12:=(o1.cell (p:=⟨u1,8,none⟩) hu1).trans z12
 simp only [World.size_alloc,List.map_cons,List.map_nil,List.length_cons,List.length_nil] at hA g3 g1 x1 z10 z11 z12 o1
 have hu1':=Nat.lt_of_lt_of_le hu1 o1.size
 have hsz:y1.heap.size+1<(World.alloc (World.alloc y1 (.cells #[.bool true,.slice (some ⟨u1,0,none⟩) 4 c1,.slice A1' S1.nts.length c1',.slice As1 n1 k1] 36)) (.cells #[.int .i64 0,.int .i64 2] 3)).heap.size:=by simp
 have c_g1:=g1.cells
 clear x3 hu1 o1
 go_wp2_with fail
 generalize World.alloc (World.alloc y1 _) _=W1 at *
 have hP2:=play_int 32 #[.pointer (some ⟨w2.heap.size,0,none⟩)] (yOp 6 rs 2 1 2) none 0 [] (some ⟨y1.heap.size+1,0,none⟩) 2 [0,2] W1 (Ints.nil _) (by simp) hA (by decide) (fun k hk=>by simp only [Value.ownBlock,Option.some.injEq] at hk;omega) (fun _ _=>rfl) (fun W p hxW hP=>yal2 _ p _ b c w2.heap.size rs W hP (regsP hb hc (x1.trans hxW) hP x1.size) he hlen hc1 hc2 (tame_list (by decide)) (by decide) ((g1.ext hxW).cells 0))
 rw [r2] at hP2
 refine hP2.mono ?_
 clear hP2 r2
 rintro e y2 ⟨v2,rfl,hO,hx2⟩
 have e1:((treeM (yask 1 2 1) 6 (some (0,.inn))).run (TS0 [] [0,2])).1=some 0:=by kernel_rfl
 have e2:((treeM (yask 1 2 1) 6 (some (0,.inn))).run (TS0 [] [0,2])).2.acc.length=2:=by kernel_rfl
 rw [e1] at hO ⊢
 generalize ((treeM (yask 1 2 1) 6 (some (0,.inn))).run (TS0 [] [0,2])).2=S2 at *
 obtain⟨A2,d2,A2',d2',As2,k2,n2,rfl⟩:=hO.parts
 rw [e2] at *
 simp only [Option.getD_some,Option.isSome_some]
 have s2:=(Ext.refl y2).alloc (.cells #[.bool true,.slice A2 2 d2,.slice A2' S2.nts.length d2',.slice As2 n2 k2] 36)
 have m2:=Blk.new y2 (.cells #[.bool true,.slice A2 2 d2,.slice A2' S2.nts.length d2',.slice As2 n2 k2] 36)
 replace s2:=hx2.trans s2
 replace g1:=g1.ext s2
 replace g3:=g3.ext s2
 replace x1:=x1.trans s2
 replace z10:=(s2.cell (p:=⟨u1,6,none⟩) hu1').trans z10
 replace z11:=(s2.cell (p:=⟨u1,7,none⟩) hu1').trans z11
 replace z12:=(s2.cell (p:=⟨u1,8,none⟩) hu1').trans z12
 clear e1 e2 hO hx2 hA hsz s2 hu1' c_g1
 have hV:Vals w2 (some ⟨b,0,none⟩) (rs.flatMap regVals):=fun _=>⟨b,rfl,hb,hc⟩
 have hm:=fun (cell:Int) W (hx:Ext w2 W)=>yhome_p 2 rs (some ⟨b,0,none⟩) c cell W (by decide) (by decide) (by omega) hy (hV.ext hx)
 rw [hlen] at hm
 have hmh:=Lib.hid hm
 have hXh:=Lib.hid hX
 clear hm hV hc he hy hlen hX
 have hXh2:=Lib.hid (hXh.out.trans x1)
 have hx1h:=Lib.hid x1
 clear x1
 go_upto_region 6 with fail
 generalize World.alloc y2 _=W2 at *
 have c_g1:=g1.cells
 have c_g3:=g3.cells
 have c_m2:=m2.cells
 clear g1 g3 m2
 go_wp2_with fail
 refine (hmh.out 7 _ hx1h.out).mono ?_
 rintro e w5 ⟨rfl,hx⟩
 rw [show homeM 5 2 7=1 from by decide]
 have c_g1':w5.cell? ⟨w2.heap.size,0,none⟩=some (.slice (some ⟨b,0,none⟩) 5 c):=(hx.cell (p:=⟨w2.heap.size,0,none⟩) (cell_lt (c_g1 0))).trans (c_g1 0)
 have hx1i:=Lib.hid (hx1h.out.trans hx)
 clear c_g1 c_g3 c_m2 hx1h z10 z11 z12 hx
 go_wp2_with fail
 refine (hmh.out 3 _ hx1i.out).mono ?_
 rintro e w6 ⟨rfl,hx⟩
 rw [show homeM 5 2 3=-1 from by decide]
 have hx1j:=Lib.hid (hx1i.out.trans hx)
 clear hx hx1i c_g1'
 go_wp2_with fail
 refine (ywants_0 _).mono ?_
 rintro e w7 ⟨rfl,hx⟩
 have hf:=Lib.hid (hXh.out.trans (hx1j.out.trans hx))
 clear hx hx1j hmf hmh
 go_wp2_with fail
 go_ret
 exact⟨rfl,hf.out⟩
end Go.Proofs.YtbphlkaihfbgeaaGreat
namespace Kv
theorem lev_least {m:Nat}(h:m<=64){j:Nat}(hj:j<levels m):2 ^ j<m:=by
 have:∀ m:Nat,m<65->∀ j:Nat,j<levels m->2 ^ j<m:=by decide +kernel
 exact this m (by omega) j hj
end Kv
namespace Go.Proofs.YtbphlkaihfbgeaaGreat
open Go.RowKit Kv
theorem leaves_r (m:Nat)(w:World)(h2:m<=64):Calls Tryz.prog 34 #[.int .i64 m] w fun e w'=>e=.returned (.int .i64 ((2 ^ levels m:Nat):Int))/\w=w':=by
 have hlt:=fun j (hj:j<levels m)=>lev_least h2 hj
 have hge:=lev_ge h2
 have hle:=lev_le h2
 generalize levels (m:Int)=L at *
 have hp2:=(pow_le hle).2
 obtain⟨P,hP⟩:∃ P,2 ^ L=P:=⟨_,rfl⟩
 rw [hP] at hge hp2 ⊢
 have hlth:=Lib.hid hlt
 have hgeh:=Lib.hid hge
 have hPh:=Lib.hid hP
 clear hlt hge hP
 go_enter Tryz.func34,Tryz.ntmps34
 go_wp2_with fail
 go_loop [3] (fun p=>∃ j q:Nat,p=.int .i64 q/\1<=q/\q<=128/\Hid (q=2 ^ j/\j<=L)) (fun p=>256-(intOf p).toNat)
 case atStart=>exact⟨0,1,rfl,by omega,by omega,Lib.hid ⟨rfl,by omega⟩⟩
 case round =>
  obtain⟨j,q,rfl,q1,q2,hq⟩:=hrel
  by_cases hm:q<m
  · have d1:decide ((q:Int)<(m:Int))=true:=by rw [decide_eq_true_eq];omega
    have hj:j<L:=by
     have h1:=hq.out.2
     have h3:=hgeh.out
     by_cases e:j=L
     · have h4:=hq.out.1
       rw [e,hPh.out] at h4
       omega
     · omega
    have hq2:Hid (2*q=2 ^ (j+1)/\j+1<=L):=Lib.hid ⟨by rw [hq.out.1,Nat.pow_succ];omega,by omega⟩
    clear hq
    go_wp2_with fail
    go_round
    case rel=>exact⟨j+1,2*q,by go_num,by omega,by omega,hq2⟩
    case measure=>simp [intOf];omega
  · have d1:decide ((q:Int)<(m:Int))=false:=by rw [decide_eq_false_iff_not];omega
    have hj:j=L:=by
     by_cases e:j=L
     · exact e
     · have:=hlth.out j (by have:=hq.out.2;omega)
       rw [<- hq.out.1] at this
       omega
    have hf:=hq.out.1
    rw [hj,hPh.out] at hf
    subst hf
    clear hq hPh hlth hgeh
    go_wp2_with fail
    go_ret
    exact⟨rfl,rfl⟩
set_option maxRecDepth 100000 in
set_option maxHeartbeats 1000000 in
theorem rpath_r (m place:Nat)(w:World)(h1:1<=m)(h2:m<=64)(h3:place<m) :
  Calls Tryz.prog 42 #[.int .i64 m,.int .i64 place] w fun e w'=>∃ v,e=.returned v/\IntRow w' w.heap.size v (pathL m place)/\Ext w w':=by
 have hlv:=fun w=>leaves_r m w h2
 have hle:=lev_le h2
 unfold pathL
 generalize levels m=L at *
 obtain⟨p1,p2⟩:=pow_le hle
 generalize 2 ^ L=P at *
 clear hle
 obtain⟨X,hX⟩:∃ X:Nat,P+place=X:=⟨_,rfl⟩
 rw [hX]
 have hw:IntKind.i64.wrap ((P:Int)+(place:Int))=(X:Int):=by rw [IntWalk.i64_in _ (by omega)];omega
 go_enter Tryz.func42,Tryz.ntmps42
 go_wp2_with fail
 refine (hlv _).mono ?_
 rintro e w' ⟨rfl,rfl⟩
 go_wp2_with fail
 go_loopw [5,6] (fun v i wr=>∃ (x:Nat) (l:List Int),i=.int .i64 x/\x<=128/\l.length+x<=X/\IntRow wr w.heap.size v l/\Hid (l++pathN x x=pathN X X)/\Ext w wr) (fun _ i _=>(intOf i).toNat)
 case atStart=>exact⟨X,[],rfl,by omega,by simp,IntRow.nil _ _,Lib.hid rfl,Ext.refl w⟩
 case round =>
  obtain⟨x,l,rfl,hx,hln,hown,hpath,hE⟩:=hrel
  by_cases hx1:1<x
  · have e1:decide ((1:Int)<(x:Int))=true:=by rw [decide_eq_true_eq];omega
    go_wp2_with (at_builtin;refine append_int rfl _ _ rfl w.heap.size _ l x hown rfl rfl (by omega) hE.size ?_)
    intro v' w' ho hg
    have hx':=hE.appended hown hg
    have hoh:=Lib.hid ho
    have hp2:Hid ((l++[(x:Int)])++pathN (x / 2) (x / 2)=pathN X X):=Lib.hid (by rw [<- hpath.out,pathN_cons hx1,List.append_assoc];rfl)
    clear hown ho hg hpath hE
    go_wp2_with fail
    refine⟨⟨x / 2,l++[(x:Int)],by go_num,by omega,by simp;omega,hoh.out,hp2,hx'⟩,?_⟩
    simp [intOf];omega
  · have e1:decide ((1:Int)<(x:Int))=false:=by rw [decide_eq_false_iff_not];omega
    have hp:=hpath.out
    rw [pathN_nil (by omega),List.append_nil] at hp
    have hf:=Lib.hid hown
    subst hp
    clear hown hpath
    go_wp2_with fail
    go_ret
    exact⟨_,rfl,hf.out,hE⟩
theorem append_recs2 {ops:Array Oper}{rest:List Oper}{o:Oper}{a:Act}{Q:Exit->Act->World->Prop}{w0 w:World}{e t:TypeId}{z:Value}{size bytes:Nat}
  (hinfo:(Tryz.prog.info? e).map (fun i=>(i.zero,i.size,i.bytes))=some (some z,size,bytes))(hund:Tryz.prog.underlying t=some (.slice e))(hzs:z.cells.size=size)(hsz:0<size)(hby:bytes<=100)
  (hgd:o.guard=none)(s x:Operand)(ho:o.op=.call { callee:=.builtin .append,args:=#[s,x],argTypes:=#[t,t] })
  (v:Value)(n m c b:Nat)(xs news:List Value)(hX:Ext w0 w)(hown:w.ownsRow w0.heap.size e size v n xs)(hs:a.eval s=v)(hx:a.eval x=.slice (some ⟨b,0,none⟩) m c)
  (hnl:news.length=m*size)(hcell:∀ j u,news[j]?=some u->w.cell? ⟨b,j,none⟩=some u)(h1:∀ u∈news,u.oneCell'=true)(hlen:n+m<1000000000)
  (h:∀ v' w',w'.ownsRow w0.heap.size e size v' (n+m) (xs++news)->Ext w0 w'->wpList Tryz.prog ops Q rest (a.put o.dst v') w') :
  wpList Tryz.prog ops Q (o :: rest) a w:=by
 obtain⟨i0,hi,hz0,hz1,hz2⟩:=info_parts hinfo
 refine wpList_append_own_at _ hgd s x t ho w0.heap.size e i0 z size bytes hund hi hz0 hz1 hz2 hzs hsz v n xs hs hown ⟨b,0,none⟩ m c news hx hnl ?_ h1 (by unfold maxLen;omega) ?_ hX.size fun v' w' h2 h3 _ _=>?_
 · intro j u hu
   rw [Addr.add_lit,Nat.zero_add]
   exact hcell j u hu
 · have:(n+m)*bytes<=(n+m)*100:=Nat.mul_le_mul_left _ hby
   omega
 · refine h v' w' h2 (Below.grown hX h3 hX.size fun k hk=>?_)
   rcases hown.2 with⟨rfl,_⟩ | ⟨g,cap,cur,rfl,hgb,_⟩
   · simp [Value.ownBlock] at hk
   · simp [Value.ownBlock] at hk
     omega
set_option maxRecDepth 100000 in
set_option maxHeartbeats 1000000 in
theorem ywants_r (n:Nat)(w:World)(h1:1<=n)(h8:n<=8):Calls Tryz.prog 9 #[.int .i64 n] w fun e w'=>∃ v,e=.returned v/\WantsAt w' v (yWants n)/\w'.ownsRow w.heap.size 54 2 v (n+3) (wantRow (yWant n) (n+3))/\Ext w w':=by
 have hn3:=IntWalk.i64_in ((n:Int)+3) (by omega)
 go_enter Tryz.func9,Tryz.ntmps9
 go_wp2_with fail
 go_loopw [3,4,5] (fun v i _ wr=>∃ j:Nat,i=.int .i64 j/\j<=n+3/\wr.ownsRow w.heap.size 54 2 v j (wantRow (yWant n) j)/\Ext w wr) (fun _ i _ _=>n+3-(intOf i).toNat)
 case atStart=>exact⟨0,rfl,by omega,World.ownsRow_nil _ _ _ _,Ext.refl _⟩
 case round =>
  obtain⟨j,rfl,hj,hown,hE⟩:=hrel
  by_cases hl:j<n+3
  · have dj:decide ((j:Int)<(n:Int)+3)=true:=by rw [decide_eq_true_eq];omega
    have hownh:=Lib.hid hown
    clear hown
    by_cases h3:j<3
    · have d2:decide ((2:Int)<(j:Int))=false:=by rw [decide_eq_false_iff_not];omega
      have d2':decide (2<j)=false:=by rw [decide_eq_false_iff_not];omega
      go_upto_region 8 with fail
      have hE2:=hE.alloc (.cells #[.int .i64 (-1),.int .i64 (n:Int)] 54)
      have hown2:=hownh.out.alloc (.cells #[.int .i64 (-1),.int .i64 (n:Int)] 54)
      have bW:=Blk.new wr (.cells #[.int .i64 (-1),.int .i64 (n:Int)] 54)
      generalize hz:wr.heap.size=z at bW ⊢
      generalize World.alloc wr _=W1 at *
      clear hz
      have c_W:=bW.cells
      go_wp2_with (at_builtin;refine append_rec info_want Tryz.underlying25 rfl (by decide) (by decide) rfl _ _ rfl _ j _ [.int .i64 (-1),.int .i64 n] hE2 hown2 rfl rfl rfl (by simp [Value.oneCell']) (by omega) ?_)
      intro v' w' ho hx _
      have hoh:=Lib.hid ho
      clear hown2 ho c_W
      go_wp2_with fail
      refine⟨⟨j+1,by first | rfl | go_num,by omega,?_,hx⟩,?_⟩
      · rw [wants_succ]
        rw [show yWant n j=⟨-1,n⟩ from by unfold yWant;rw [if_pos h3]]
        exact hoh.out
      · simp [intOf];omega
    · have d2:decide ((2:Int)<(j:Int))=true:=by rw [decide_eq_true_eq];omega
      have d2':decide (2<j)=true:=by rw [decide_eq_true_eq];omega
      go_upto_region 8 with fail
      have hE3:=hE.alloc (.cells #[.int .i64 (-1),.int .i64 2] 54)
      have hown2:=hownh.out.alloc (.cells #[.int .i64 (-1),.int .i64 2] 54)
      have bW:=Blk.new wr (.cells #[.int .i64 (-1),.int .i64 2] 54)
      generalize hz:wr.heap.size=z at bW ⊢
      generalize World.alloc wr _=W1 at *
      clear hz
      have c_W:=bW.cells
      go_wp2_with (at_builtin;refine append_rec info_want Tryz.underlying25 rfl (by decide) (by decide) rfl _ _ rfl _ j _ [.int .i64 (-1),.int .i64 2] hE3 hown2 rfl rfl rfl (by simp [Value.oneCell']) (by omega) ?_)
      intro v' w' ho hx _
      have hoh:=Lib.hid ho
      clear hown2 ho c_W
      go_wp2_with fail
      refine⟨⟨j+1,by first | rfl | go_num,by omega,?_,hx⟩,?_⟩
      · rw [wants_succ]
        rw [show yWant n j=⟨-1,2⟩ from by unfold yWant;rw [if_neg (by omega)]]
        exact hoh.out
      · simp [intOf];omega
  · have hj3:j=n+3:=by omega
    have dj:decide ((j:Int)<(n:Int)+3)=false:=by rw [decide_eq_false_iff_not];omega
    have hownh:=Lib.hid hown
    have hjh:=Lib.hid hj3
    clear hown hj3
    go_wp2_with fail
    go_ret
    have h:=hownh.out
    rw [hjh.out] at h
    exact⟨_,rfl,wants_row h,h,hE⟩
set_option maxRecDepth 100000 in
set_option maxHeartbeats 1000000 in
theorem yallw_r (n:Nat)(w:World)(h1:1<=n)(h8:n<=8):Calls Tryz.prog 8 #[.int .i64 n] w fun e w'=>∃ v,e=.returned v/\WantsAt w' v (yAllW n)/\Ext w w':=by
 have hlv:=fun w=>leaves_r n w (by omega)
 have hp:=pow_levels h8
 unfold yAllW
 generalize 2 ^ levels n=P at *
 go_enter Tryz.func8,Tryz.ntmps8
 go_wp2_with fail
 go_loopw [3,4] (fun v i wr=>∃ j:Nat,i=.int .i64 ((j:Int)+1)/\j+1<=P/\wr.ownsRow w.heap.size 54 2 v (j*(n+3)) (rep j (wantRow (yWant n) (n+3)))/\Ext w wr) (fun _ i _=>P-(intOf i).toNat)
 case atStart=>exact⟨0,rfl,by omega,by rw [Nat.zero_mul];exact World.ownsRow_nil _ _ _ _,Ext.refl _⟩
 case round =>
  obtain⟨j,rfl,hj,hown,hE⟩:=hrel
  have hownh:=Lib.hid hown
  clear hown
  go_wp2_with fail
  refine (hlv _).mono ?_
  rintro e w2 ⟨rfl,rfl⟩
  by_cases hl:j+1<P
  · have dj:decide ((j:Int)+1<(P:Int))=true:=by rw [decide_eq_true_eq];omega
    have dj2:decide (j+1<P)=true:=by rw [decide_eq_true_eq];omega
    go_wp2_with fail
    refine (ywants_r n _ h1 h8).mono ?_
    rintro e w3 ⟨v3,rfl,-,hrow,hx3⟩
    have hvl:(wantRow (yWant n) (n+3)).length=(n+3)*2:=by
     unfold wantRow
     rw [List.length_flatMap]
     have:((List.range (n+3)).map (yWant n)).map (fun a=>(wantVals a).length)=((List.range (n+3)).map (yWant n)).map fun _=>2:=List.map_congr_left fun _ _=>rfl
     rw [this,List.map_const',List.sum_replicate_nat,List.length_map,List.length_range]
    have hone:∀ u∈wantRow (yWant n) (n+3),u.oneCell'=true:=wants_one
    obtain⟨b,c,rfl,hcell⟩:∃ b c,v3=.slice (some ⟨b,0,none⟩) (n+3) c/\∀ i u,(wantRow (yWant n) (n+3))[i]?=some u->w3.cell? ⟨b,i,none⟩=some u:=by
     obtain⟨A,c,rfl,q1,q2,hV⟩:=Recs.of_row hrow
     obtain⟨b,rfl,_,hc⟩:=hV (by intro e;rw [e] at hvl;simp at hvl)
     exact⟨b,c,rfl,hc⟩
    have hown3:=row_ext hownh.out hx3
    have hE3:=hE.trans hx3
    have hj7:j*(n+3)<=1000:=Nat.le_trans (Nat.mul_le_mul (show j<=8 by omega) (show n+3<=11 by omega)) (by decide)
    clear hownh hE hx3 hrow
    have hvlh:=Lib.hid hvl
    have honeh:=Lib.hid hone
    have hcellh:=Lib.hid hcell
    clear hvl hone hcell
    generalize hR:wantRow (yWant n) (n+3)=Rw at *
    have hRh:=Lib.hid hR
    clear hR
    go_wp2_with (at_builtin;refine append_recs2 info_want Tryz.underlying25 rfl (by decide) (by decide) rfl _ _ rfl _ (j*(n+3)) (n+3) c b (rep j Rw) Rw hE3 hown3 rfl rfl hvlh.out hcellh.out honeh.out (by omega) ?_)
    intro v' w' ho hx
    have hoh:=Lib.hid ho
    clear hown3 ho
    have hwj:=IntWalk.i64_in ((j:Int)+1+1) (by omega)
    go_wp2_with fail
    refine⟨⟨j+1,by first | rfl | go_num,by omega,?_,hx⟩,?_⟩
    · rw [Nat.succ_mul,rep_add,hRh.out]
      have e1:rep 1 Rw=Rw:=by simp [rep]
      rw [e1]
      exact hoh.out
    · simp [intOf];omega
  · have hjP:j=P-1:=by omega
    have dj:decide ((j:Int)+1<(P:Int))=false:=by rw [decide_eq_false_iff_not];omega
    have dj2:decide (j+1<P)=false:=by rw [decide_eq_false_iff_not];omega
    have conv:∀ v,Recs wr v (j*(n+3)) (rep j (wantRow (yWant n) (n+3)))->WantsAt wr v (rep (P-1) (yWants n)):=fun v h=>by
     unfold WantsAt
     rw [rep_flatMap,rep_len,yWants_len,<- hjP]
     exact h
    have hwh:=Lib.hid (conv _ (Recs.of_row hownh.out))
    clear hjP hownh conv
    go_wp2_with fail
    go_ret
    exact⟨_,rfl,hwh.out,hE⟩
set_option maxRecDepth 100000 in
set_option maxHeartbeats 1000000 in
theorem yget_r (B p:Nat)(o:Bool)(S:TS)(r:Reg)(me:Int)(w:World)(h:RAt B w p o S)(hok:r.ok)(hm:0<=me/\me<r.n) :
  Calls Tryz.prog 54 #[.pointer (some ⟨p,0,none⟩),.agg #[.int .i64 r.kind,.int .i64 r.base,.int .i64 r.loc,.int .i64 r.n,.int .i64 r.wr,.int .i64 r.rd,.int .i64 r.top],.int .i64 me] w (RPost encI B p w (regR r me) o S):=by
 have hq:=Lib.hid (fun W (hP:RAt B W p o S)=>reg_read_r B p o S r me W hP hok hm)
 generalize hR:RPost encI B p w (regR r me) o S=R
 have hO:ROwes R encI B p w (regR r me) o S:=hR▸rowes _ _ _ _ _ _ _
 clear hR
 obtain⟨b1,hK,hP⟩:=h.entry (.cells #[.int .i64 r.kind,.int .i64 r.base,.int .i64 r.loc,.int .i64 r.n,.int .i64 r.wr,.int .i64 r.rd,.int .i64 r.top] 87)
 have c_b1:=b1.cells
 clear h
 obtain⟨_,_,_,_,_,hcc⟩:=hP.cell
 go_enter Tryz.func54,Tryz.ntmps54
 cases o with
 | true =>
   have hf:=hO.over 0 hP hK
   clear hO hP hK hq
   go_wp2_with fail
   first | exact hf | (go_ret;exact hf)
 | false =>
   have hOh:=Lib.hid hO
   clear hO
   go_wp2_with fail
   clear hcc
   refine rlast hOh.out hK (hq.out _ hP) ?_
   clear hOh hP hK
   intro v o1 S1 w1 hP hk hK hO
   clear b1 c_b1
   have hf:=hO.ret hP hK
   clear hO hP hK hk hq
   go_wp2_with fail
   first | exact hf | (go_ret;exact hf)
set_option maxRecDepth 100000 in
set_option maxHeartbeats 1000000 in
theorem yset_r (B p:Nat)(o:Bool)(S:TS)(r:Reg)(me v:Int)(w:World)(h:RAt B w p o S)(hok:r.ok)(hm:0<=me/\me<r.n) :
  Calls Tryz.prog 53 #[.pointer (some ⟨p,0,none⟩),.agg #[.int .i64 r.kind,.int .i64 r.base,.int .i64 r.loc,.int .i64 r.n,.int .i64 r.wr,.int .i64 r.rd,.int .i64 r.top],.int .i64 me,.int .i64 v] w (RPost encU B p w (regW r me v) o S):=by
 have hq:=Lib.hid (fun W (hP:RAt B W p o S)=>reg_write_r B p o S r me v W hP hok hm)
 generalize hR:RPost encU B p w (regW r me v) o S=R
 have hO:ROwes R encU B p w (regW r me v) o S:=hR▸rowes _ _ _ _ _ _ _
 clear hR
 obtain⟨b1,hK,hP⟩:=h.entry (.cells #[.int .i64 r.kind,.int .i64 r.base,.int .i64 r.loc,.int .i64 r.n,.int .i64 r.wr,.int .i64 r.rd,.int .i64 r.top] 87)
 have c_b1:=b1.cells
 clear h
 obtain⟨_,_,_,_,_,hcc⟩:=hP.cell
 go_enter Tryz.func53,Tryz.ntmps53
 cases o with
 | true =>
   have hf:=hO.over () hP hK
   clear hO hP hK hq
   go_wp2_with fail
   first | exact hf | (refine bodyPost_end (results_none rfl _ _ _) rfl ?_;exact hf) | (refine bodyPost_ret (results_none rfl _ _ _) rfl ?_;exact hf)
 | false =>
   have hOh:=Lib.hid hO
   clear hO
   go_wp2_with fail
   clear hcc
   refine rlast hOh.out hK (hq.out _ hP) ?_
   clear hOh hP hK
   intro v o1 S1 w1 hP hk hK hO
   clear b1 c_b1
   have hf:=hO.ret hP hK
   clear hO hP hK hk hq
   go_wp2_with fail
   first | exact hf | (refine bodyPost_end (results_none rfl _ _ _) rfl ?_;exact hf) | (refine bodyPost_ret (results_none rfl _ _ _) rfl ?_;exact hf)
set_option maxRecDepth 100000 in
set_option maxHeartbeats 8000000 in
theorem yenter_r (B p n me sd D k:Nat)(o:Bool)(s:Int)(S:TS)(rs:List Reg)(b c:Nat)(w:World)(h:RAt B w p o S)(hl:RegsAt [3,4,5] w p b rs)(he:YRegs rs k n)(h1:1<=n)(hn:n<=8)(hme:me<n)(hsd:(if s=0 then 0 else 1)=sd)(hD:o=false->S.left<D) :
  Calls Tryz.prog 26 #[.pointer (some ⟨p,0,none⟩),.slice (some ⟨b,k*7,none⟩) (n+3) c,.int .i64 s,.int .i64 n,.int .i64 me] w (RPost encU B p w (yEnter D rs k n me sd) o S):=by
 generalize hR:RPost encU B p w (yEnter D rs k n me sd) o S=R
 have hO:ROwes R encU B p w (yEnter D rs k n me sd) o S:=hR▸rowes _ _ _ _ _ _ _
 clear hR
 have hK:=Keep.refl [3,4,5] B p w
 have hP:=h
 clear h
 have heh:=Lib.hid he
 have hwm:=IntWalk.i64_in ((me:Int)+1) (by omega)
 have hw3:=IntWalk.i64_in (3+(me:Int)) (by omega)
 have hb:=bit_r s w
 have hbs:bitM s=(sd:Int):=by
  rw [<- hsd]
  unfold bitM
  split <;> rfl
 rw [hbs] at hb
 have hsd2:sd<2:=by rw [<- hsd];split <;> omega
 clear he hsd hbs
 have hi0:(0:Int)<=(sd:Int):=by omega
 have hi1:(sd:Int)<(n:Int)+3:=by omega
 have hj0:(0:Int)<=3+(me:Int):=by omega
 have hj1:(3:Int)+(me:Int)<(n:Int)+3:=by omega
 have hjt:(3+(me:Int)).toNat=3+me:=by omega
 have hw1s:IntKind.i64.wrap (1-(sd:Int))=((1-sd:Nat):Int):=by rw [IntWalk.i64_in _ (by omega)];omega
 have hm0:(0:Int)<=((1-sd:Nat):Int):=by omega
 have hm1:((1-sd:Nat):Int)<(n:Int)+3:=by omega
 have h20:(2:Int)<(n:Int)+3:=by omega
 have hOh:=Lib.hid hO
 clear hO
 go_enter Tryz.func26,Tryz.ntmps26
 go_wp2_with fail
 refine hb.mono ?_
 rintro e w' ⟨rfl,rfl⟩
 clear hb
 have hO:=hOh.out
 clear hOh
 unfold yEnter at hO
 obtain⟨r,q1,q2,q3,q4,q5⟩:=heh.out sd (by omega)
 obtain⟨a0,a1,a2,a3,a4,a5,a6⟩:=hl.nth q1
 rw [show (k+sd)*7=k*7+sd*7 from by omega] at a0 a1 a2 a3 a4 a5 a6
 have hOh:=Lib.hid hO
 have hq1h:=Lib.hid q1
 have hq3h:=Lib.hid q3
 clear hO q1 q3 q5
 go_wp2_with fail
 have q3:=hq3h.out
 refine rstepL (T:=regW (yReg rs k (sd:Int)) me ((me:Int)+1)) hOh.out hK (by rw [yReg_of (show (sd:Int)=((sd:Nat):Int) from by rfl) hq1h.out];exact yset_r B p o S r me ((me:Int)+1) _ hP q2 ⟨by omega,by omega⟩) ?_
 clear hOh hK hP a0 a1 a2 a3 a4 a5 a6
 intro _ o2 S2 wn hleS2 hltS2 hP hk hK hO
 replace hl:=hl.keep hk
 clear hk q2 q4 hq1h hq3h q3
 obtain⟨r,q1,q2,q3,q4,q5⟩:=heh.out 2 (by omega)
 obtain⟨a0,a1,a2,a3,a4,a5,a6⟩:=hl.nth q1
 rw [show (k+2)*7=k*7+2*7 from by omega] at a0 a1 a2 a3 a4 a5 a6
 have hOh:=Lib.hid hO
 have hq1h:=Lib.hid q1
 have hq3h:=Lib.hid q3
 clear hO q1 q3 q5
 go_wp2_with fail
 have q3:=hq3h.out
 refine rstepL (T:=regW (yReg rs k 2) me ((me:Int)+1)) hOh.out hK (by rw [yReg_of (show 2=((2:Nat):Int) from by rfl) hq1h.out];exact yset_r B p o2 S2 r me ((me:Int)+1) _ hP q2 ⟨by omega,by omega⟩) ?_
 clear hOh hK hP a0 a1 a2 a3 a4 a5 a6
 intro _ o3 S3 wn hleS3 hltS3 hP hk hK hO
 replace hl:=hl.keep hk
 clear hk q2 q4 hq1h hq3h q3
 obtain⟨r,q1,q2,q3,q4,q5⟩:=heh.out (3+me) (by omega)
 obtain⟨a0,a1,a2,a3,a4,a5,a6⟩:=hl.nth q1
 rw [show (k+(3+me))*7=k*7+(3+me)*7 from by omega] at a0 a1 a2 a3 a4 a5 a6
 have hOh:=Lib.hid hO
 have hq1h:=Lib.hid q1
 have hq3h:=Lib.hid q3
 clear hO q1 q3 q5
 go_wp2_with fail
 have q3:=hq3h.out
 refine rstepL (T:=regW (yReg rs k (3+(me:Int))) me 0) hOh.out hK (by rw [yReg_of (show (3+(me:Int))=(((3+me):Nat):Int) from by omega) hq1h.out];exact yset_r B p o3 S3 r me 0 _ hP q2 ⟨by omega,by omega⟩) ?_
 clear hOh hK hP a0 a1 a2 a3 a4 a5 a6
 intro _ o4 S4 wn hleS4 hltS4 hP hk hK hO
 replace hl:=hl.keep hk
 clear hk q2 q4 hq1h hq3h q3
 obtain⟨r,q1,q2,q3,q4,q5⟩:=heh.out (1-sd) (by omega)
 obtain⟨a0,a1,a2,a3,a4,a5,a6⟩:=hl.nth q1
 rw [show (k+(1-sd))*7=k*7+(1-sd)*7 from by omega] at a0 a1 a2 a3 a4 a5 a6
 have hOh:=Lib.hid hO
 have hq1h:=Lib.hid q1
 have hq3h:=Lib.hid q3
 clear hO q1 q3 q5
 go_wp2_with fail
 have q3:=hq3h.out
 refine rstepL (T:=regR (yReg rs k ((1-sd:Nat):Int)) me) hOh.out hK (by rw [yReg_of (show ((1-sd:Nat):Int)=(((1-sd):Nat):Int) from by rfl) hq1h.out];exact yget_r B p o4 S4 r me _ hP q2 ⟨by omega,by omega⟩) ?_
 clear hOh hK hP a0 a1 a2 a3 a4 a5 a6
 intro v o5 S5 wn hleS5 hltS5 hP hk hK hO
 replace hl:=hl.keep hk
 clear hk q2 q4 hq1h hq3h q3
 have hD5:o5=false->S5.left<D:=fun ho=>by
  have h4:=(hltS5 ho).1
  have h3:=(hltS4 h4).1
  have h2:=(hltS3 h3).1
  have h1:=(hltS2 h2).1
  have:=hD h1
  omega
 clear hltS2 hltS3 hltS4 hltS5 hleS2 hleS3 hleS4 hleS5
 obtain⟨_,_,_,_,_,hcc⟩:=hP.cell
 by_cases hv:v=0
 · have dv:(v==0)=true:=by simpa using hv
   rw [if_pos hv] at hO
   clear hv
   have hf:=hO.ret hP hK
   clear hO hP hK hl
   go_wp2_with fail
   first | exact hf | (refine bodyPost_end (results_none rfl _ _ _) rfl ?_;exact hf) | (refine bodyPost_ret (results_none rfl _ _ _) rfl ?_;exact hf) | (go_ret;exact hf) | (go_end0;exact hf)
 have dv:(v==0)=false:=by simpa using hv
 rw [if_neg hv] at hO
 clear hv
 cases o5 with
 | true =>
   have hf:R (.returned (encU ())) wn:=hO.over () hP hK
   clear hO hP hK hl
   go_wp2_with fail
   first | exact hf | (refine bodyPost_end (results_none rfl _ _ _) rfl ?_;exact hf) | (refine bodyPost_ret (results_none rfl _ _ _) rfl ?_;exact hf) | (go_ret;exact hf) | (go_end0;exact hf)
 | false =>
   obtain⟨r,q1,q2,q3,q4,q5⟩:=heh.out 2 (by omega)
   obtain⟨a0,a1,a2,a3,a4,a5,a6⟩:=hl.nth q1
   rw [show (k+2)*7=k*7+2*7 from by omega] at a0 a1 a2 a3 a4 a5 a6
   have hOh:=Lib.hid hO
   have hq1h:=Lib.hid q1
   have hq3h:=Lib.hid q3
   clear hO q1 q3 q5
   go_wp2_with fail
   have q3:=hq3h.out
   refine rstepL (T:=regR (yReg rs k 2) me) hOh.out hK (by rw [yReg_of (show 2=((2:Nat):Int) from by rfl) hq1h.out];exact yget_r B p false S5 r me _ hP q2 ⟨by omega,by omega⟩) ?_
   clear hOh hK hP a0 a1 a2 a3 a4 a5 a6
   intro u oa Sa wn hleSa hltSa hP hk hK hO
   replace hl:=hl.keep hk
   clear hcc hk q2 q4 hq1h hq3h q3
   by_cases hu:u=(me:Int)+1
   rotate_left
   · have du:(u != (me:Int)+1)=true:=by simpa using hu
     rw [if_neg fun q=>hu q.1] at hO
     clear hu
     have hf:=hO.ret hP hK
     clear hO hP hK hl
     go_wp2_with fail
     first | exact hf | (refine bodyPost_end (results_none rfl _ _ _) rfl ?_;exact hf) | (refine bodyPost_ret (results_none rfl _ _ _) rfl ?_;exact hf) | (go_ret;exact hf) | (go_end0;exact hf)
   have du:(u != (me:Int)+1)=false:=by simpa using hu
   by_cases hv1:1<=v
   rotate_left
   · have dv1:decide (v<1)=true:=by rw [decide_eq_true_eq];omega
     rw [if_neg fun q=>hv1 q.2.1] at hO
     clear hu hv1
     have hf:=hO.ret hP hK
     clear hO hP hK hl
     go_wp2_with fail
     first | exact hf | (refine bodyPost_end (results_none rfl _ _ _) rfl ?_;exact hf) | (refine bodyPost_ret (results_none rfl _ _ _) rfl ?_;exact hf) | (go_ret;exact hf) | (go_end0;exact hf)
   have dv1:decide (v<1)=false:=by rw [decide_eq_false_iff_not];omega
   by_cases hvn:v<=n
   rotate_left
   · have dv2:decide ((n:Int)<v)=true:=by rw [decide_eq_true_eq];omega
     rw [if_neg fun q=>hvn q.2.2] at hO
     clear hu hv1 hvn
     have hf:=hO.ret hP hK
     clear hO hP hK hl
     go_wp2_with fail
     first | exact hf | (refine bodyPost_end (results_none rfl _ _ _) rfl ?_;exact hf) | (refine bodyPost_ret (results_none rfl _ _ _) rfl ?_;exact hf) | (go_ret;exact hf) | (go_end0;exact hf)
   have dv2:decide ((n:Int)<v)=false:=by rw [decide_eq_false_iff_not];omega
   rw [if_pos ⟨hu,hv1,hvn⟩] at hO
   have hwv:=IntWalk.i64_in (2+v) (by omega)
   have hv0:(0:Int)<=2+v:=by omega
   have hv2:2+v<(n:Int)+3:=by omega
   obtain⟨q,hq⟩:∃ q:Nat,v=(q:Int):=⟨v.toNat,by omega⟩
   have hqn:q<=n:=by omega
   have hvt:(2+v).toNat=2+q:=by omega
   have hqh:=Lib.hid hq
   clear hq hu
   obtain⟨r,q1,q2,q3,q4,q5⟩:=heh.out (2+q) (by omega)
   obtain⟨a0,a1,a2,a3,a4,a5,a6⟩:=hl.nth q1
   rw [show (k+(2+q))*7=k*7+(2+q)*7 from by omega] at a0 a1 a2 a3 a4 a5 a6
   have hOh:=Lib.hid hO
   have hq1h:=Lib.hid q1
   have hq3h:=Lib.hid q3
   clear hO q1 q3 q5
   go_wp2_with fail
   have q3:=hq3h.out
   refine rstepL (T:=regR (yReg rs k (2+v)) me) hOh.out hK (by rw [yReg_of (show (2+v)=(((2+q):Nat):Int) from by have:=hqh.out;omega) hq1h.out];exact yget_r B p oa Sa r me _ hP q2 ⟨by omega,by omega⟩) ?_
   clear hOh hK hP a0 a1 a2 a3 a4 a5 a6
   intro x ob Sb wn hleSb hltSb hP hk hK hO
   replace hl:=hl.keep hk
   clear hk q2 q4 hq1h hq3h q3
   have hDb:ob=false->Sb.left<D:=fun ho=>by
    have h1:=(hltSb ho).1
    have:=hD5 (by first | trivial | rfl)
    omega
   by_cases hx0:x=0
   · have dx0:(x==0)=true:=by simpa using hx0
     rw [if_pos hx0] at hO
     clear hx0
     obtain⟨r,q1,q2,q3,q4,q5⟩:=heh.out (2+q) (by omega)
     obtain⟨a0,a1,a2,a3,a4,a5,a6⟩:=hl.nth q1
     rw [show (k+(2+q))*7=k*7+(2+q)*7 from by omega] at a0 a1 a2 a3 a4 a5 a6
     have hOh:=Lib.hid hO
     have hq1h:=Lib.hid q1
     have hq3h:=Lib.hid q3
     clear hO q1 q3 q5
     go_wp2_with fail
     have q3:=hq3h.out
     refine rstepL (T:=regW (yReg rs k (2+v)) me 1) hOh.out hK (by rw [yReg_of (show (2+v)=(((2+q):Nat):Int) from by have:=hqh.out;omega) hq1h.out];exact yset_r B p ob Sb r me 1 _ hP q2 ⟨by omega,by omega⟩) ?_
     clear hOh hK hP a0 a1 a2 a3 a4 a5 a6
     intro _ oc Sc wn hleSc hltSc hP hk hK hO
     replace hl:=hl.keep hk
     clear hk q2 q4 hq1h hq3h q3
     unfold yEnd at hO
     have hDc:oc=false->Sc.left<D:=fun ho=>by
      have h1:=(hltSc ho).1
      have:=hDb h1
      omega
     clear dv hwv hv0 hv2 hvt du hvn hv1 hqh dv1 dv2 hltSc hltSb hltSa hleSa hleSb hleSc
     have hOh:=Lib.hid hO
     clear hO
     go_wp2_with fail
     go_loopw [] (fun wr=>∃ (j:Nat) (o3:Bool) (S3:TS),RAt B wr p o3 S3/\KeepR B p w wr/\RegsAt [3,4,5] wr p b rs/\Hid (ROwes R encU B p w ((ySpin (fun x=>x==0) (yReg rs k (3+me)) me j).bind fun _=>yEnd2 D rs k me) o3 S3)/\(o3=false->S3.left<j/\S3.left<D)) (fun wr=>leftR wr p)
     case atStart=>exact⟨D,oc,Sc,hP,hK,hl,hOh,fun ho=>⟨hDc ho,hDc ho⟩⟩
     case round =>
      clear hP hK hl hOh
      obtain⟨j,o6,S6,hP,hK,hl,hOh,hD6⟩:=hrel
      have hO:=hOh.out
      clear hOh
      have hlw:=Lib.hid hP.leftR
      obtain⟨_,_,_,_,_,hcc⟩:=hP.cell
      cases o6 with
      | true =>
        replace hO:=hO.any (yEnd2 D rs k me)
        unfold yEnd2 at hO
        obtain⟨r,q1,q2,q3,q4,q5⟩:=heh.out 2 (by omega)
        obtain⟨a0,a1,a2,a3,a4,a5,a6⟩:=hl.nth q1
        rw [show (k+2)*7=k*7+2*7 from by omega] at a0 a1 a2 a3 a4 a5 a6
        have hOh:=Lib.hid hO
        have hq1h:=Lib.hid q1
        have hq3h:=Lib.hid q3
        clear hO q1 q3 q5
        go_wp2_with fail
        have q3:=hq3h.out
        refine rstepL (T:=regR (yReg rs k 2) me) hOh.out hK (by rw [yReg_of (show 2=((2:Nat):Int) from by rfl) hq1h.out];exact yget_r B p true S6 r me _ hP q2 ⟨by omega,by omega⟩) ?_
        clear hOh hK hP a0 a1 a2 a3 a4 a5 a6
        intro u o8 S8 wn hleS8 hltS8 hP hk hK hO
        replace hl:=hl.keep hk
        clear hk q2 q4 hq1h hq3h q3
        by_cases hu:u=(me:Int)+1
        · have du:(u != (me:Int)+1)=false:=by simpa using hu
          rw [if_pos hu] at hO
          clear hu
          have hOh:=Lib.hid hO
          clear hO
          go_wp2_with fail
          go_loopw [] (fun wr=>∃ (j:Nat) (o3:Bool) (S3:TS),RAt B wr p o3 S3/\KeepR B p w wr/\RegsAt [3,4,5] wr p b rs/\Hid (ROwes R encU B p w (ySpin (fun x=>decide (x<=1)) (yReg rs k (3+me)) me j) o3 S3)/\(o3=false->S3.left<j/\S3.left<D)) (fun wr=>leftR wr p)
          case atStart=>exact⟨D,o8,S8,hP,hK,hl,hOh,fun ho=>by have:=(hltS8 ho).1;cases this⟩
          case round =>
           clear hP hK hl hOh
           obtain⟨j,o9,S9,hP,hK,hl,hOh,hD9⟩:=hrel
           have hO:=hOh.out
           clear hOh
           have hlw:=Lib.hid hP.leftR
           obtain⟨_,_,_,_,_,hcc⟩:=hP.cell
           cases o9 with
           | true =>
             have hf:R (.returned (encU ())) wr:=hO.over () hP hK
             clear hO hP hK hl
             go_wp2_with fail
             first | exact hf | (refine bodyPost_end (results_none rfl _ _ _) rfl ?_;exact hf) | (refine bodyPost_ret (results_none rfl _ _ _) rfl ?_;exact hf) | (go_ret;exact hf) | (go_end0;exact hf)
           | false =>
             obtain⟨hDj,hDD⟩:=hD9 rfl
             obtain⟨j,rfl⟩:∃ j',j=j'+1:=⟨j-1,by omega⟩
             rw [ySpin_one] at hO
             obtain⟨r,q1,q2,q3,q4,q5⟩:=heh.out (3+me) (by omega)
             obtain⟨a0,a1,a2,a3,a4,a5,a6⟩:=hl.nth q1
             rw [show (k+(3+me))*7=k*7+(3+me)*7 from by omega] at a0 a1 a2 a3 a4 a5 a6
             have hOh:=Lib.hid hO
             have hq1h:=Lib.hid q1
             have hq3h:=Lib.hid q3
             clear hO q1 q3 q5
             go_wp2_with fail
             have q3:=hq3h.out
             refine rstepL (T:=regR (yReg rs k (3+(me:Int))) me) hOh.out hK (by rw [yReg_of (show (3+(me:Int))=(((3+me):Nat):Int) from by omega) hq1h.out];exact yget_r B p false S9 r me _ hP q2 ⟨by omega,by omega⟩) ?_
             clear hOh hK hP a0 a1 a2 a3 a4 a5 a6
             intro y o10 S10 wn hleS10 hltS10 hP hk hK hO
             replace hl:=hl.keep hk
             have hll:=fun ho=>(hltS10 ho).2 (asks_regR _ _ (heh.out.told (i:=3+me) (by omega) (by omega) _))
             clear hk q2 q4 hq1h hq3h q3 hcc
             by_cases hx:y<=1
             · have dy:decide (y<=1)=true:=by simpa using hx
               have dy2:decide (1<y)=false:=by rw [decide_eq_false_iff_not];omega
               rw [if_pos dy] at hO
               have hOh:=Lib.hid hO
               clear hO hx
               have hlv:=Lib.hid hP.leftR
               go_wp2_with fail
               refine⟨⟨j,o10,S10,hP,hK,hl,hOh,fun ho=>⟨by have:=hll ho;omega,by have:=hll ho;omega⟩⟩,?_⟩
               rw [hlw.out,hlv.out]
               cases o10 with
               | true=>first | omega | (simp;done) | (simp;omega)
               | false =>
                 have:=hll rfl
                 first | omega | (simp;omega)
             · have dy:decide (y<=1)=false:=by simpa using hx
               have dy2:decide (1<y)=true:=by rw [decide_eq_true_eq];omega
               rw [if_neg (by rw [dy];decide)] at hO
               clear hx
               have hf:=hO.ret hP hK
               clear hO hP hK hl
               go_wp2_with fail
               first | exact hf | (refine bodyPost_end (results_none rfl _ _ _) rfl ?_;exact hf) | (refine bodyPost_ret (results_none rfl _ _ _) rfl ?_;exact hf) | (go_ret;exact hf) | (go_end0;exact hf)
        · have du:(u != (me:Int)+1)=true:=by simpa using hu
          rw [if_neg hu] at hO
          clear hu
          have hf:=hO.ret hP hK
          clear hO hP hK hl
          go_wp2_with fail
          first | exact hf | (refine bodyPost_end (results_none rfl _ _ _) rfl ?_;exact hf) | (refine bodyPost_ret (results_none rfl _ _ _) rfl ?_;exact hf) | (go_ret;exact hf) | (go_end0;exact hf)
      | false =>
        obtain⟨hDj,hDD⟩:=hD6 rfl
        obtain⟨j,rfl⟩:∃ j',j=j'+1:=⟨j-1,by omega⟩
        rw [ySpin_bind] at hO
        obtain⟨r,q1,q2,q3,q4,q5⟩:=heh.out (3+me) (by omega)
        obtain⟨a0,a1,a2,a3,a4,a5,a6⟩:=hl.nth q1
        rw [show (k+(3+me))*7=k*7+(3+me)*7 from by omega] at a0 a1 a2 a3 a4 a5 a6
        have hOh:=Lib.hid hO
        have hq1h:=Lib.hid q1
        have hq3h:=Lib.hid q3
        clear hO q1 q3 q5
        go_wp2_with fail
        have q3:=hq3h.out
        refine rstepL (T:=regR (yReg rs k (3+(me:Int))) me) hOh.out hK (by rw [yReg_of (show (3+(me:Int))=(((3+me):Nat):Int) from by omega) hq1h.out];exact yget_r B p false S6 r me _ hP q2 ⟨by omega,by omega⟩) ?_
        clear hOh hK hP a0 a1 a2 a3 a4 a5 a6
        intro x o7 S7 wn hleS7 hltS7 hP hk hK hO
        replace hl:=hl.keep hk
        have hll:=fun ho=>(hltS7 ho).2 (asks_regR _ _ (heh.out.told (i:=3+me) (by omega) (by omega) _))
        clear hk q2 q4 hq1h hq3h q3 hcc
        by_cases hx:x=0
        · have dx:(x==0)=true:=by simpa using hx
          have dx2:(x != 0)=false:=by simpa using hx
          rw [if_pos dx] at hO
          have hOh:=Lib.hid hO
          clear hO hx
          have hlv:=Lib.hid hP.leftR
          go_wp2_with fail
          refine⟨⟨j,o7,S7,hP,hK,hl,hOh,fun ho=>⟨by have:=hll ho;omega,by have:=hll ho;omega⟩⟩,?_⟩
          rw [hlw.out,hlv.out]
          cases o7 with
          | true=>first | omega | (simp;done) | (simp;omega)
          | false =>
            have:=hll rfl
            first | omega | (simp;omega)
        · have dx:(x==0)=false:=by simpa using hx
          have dx2:(x != 0)=true:=by simpa using hx
          rw [if_neg (by rw [dx];decide)] at hO
          have hD7:o7=false->S7.left<D:=fun ho=>by have:=hll ho;omega
          clear hx hll hlw
          unfold yEnd2 at hO
          obtain⟨r,q1,q2,q3,q4,q5⟩:=heh.out 2 (by omega)
          obtain⟨a0,a1,a2,a3,a4,a5,a6⟩:=hl.nth q1
          rw [show (k+2)*7=k*7+2*7 from by omega] at a0 a1 a2 a3 a4 a5 a6
          have hOh:=Lib.hid hO
          have hq1h:=Lib.hid q1
          have hq3h:=Lib.hid q3
          clear hO q1 q3 q5
          go_wp2_with fail
          have q3:=hq3h.out
          refine rstepL (T:=regR (yReg rs k 2) me) hOh.out hK (by rw [yReg_of (show 2=((2:Nat):Int) from by rfl) hq1h.out];exact yget_r B p o7 S7 r me _ hP q2 ⟨by omega,by omega⟩) ?_
          clear hOh hK hP a0 a1 a2 a3 a4 a5 a6
          intro u o8 S8 wn hleS8 hltS8 hP hk hK hO
          replace hl:=hl.keep hk
          clear hk q2 q4 hq1h hq3h q3
          by_cases hu:u=(me:Int)+1
          · have du:(u != (me:Int)+1)=false:=by simpa using hu
            rw [if_pos hu] at hO
            clear hu
            have hOh:=Lib.hid hO
            clear hO
            go_wp2_with fail
            go_loopw [] (fun wr=>∃ (j:Nat) (o3:Bool) (S3:TS),RAt B wr p o3 S3/\KeepR B p w wr/\RegsAt [3,4,5] wr p b rs/\Hid (ROwes R encU B p w (ySpin (fun x=>decide (x<=1)) (yReg rs k (3+me)) me j) o3 S3)/\(o3=false->S3.left<j/\S3.left<D)) (fun wr=>leftR wr p)
            case atStart=>exact⟨D,o8,S8,hP,hK,hl,hOh,fun ho=>⟨by have h1:=(hltS8 ho).1;have h2:=hD7 h1;omega,by have h1:=(hltS8 ho).1;have h2:=hD7 h1;omega⟩⟩
            case round =>
             clear hP hK hl hOh
             obtain⟨j,o9,S9,hP,hK,hl,hOh,hD9⟩:=hrel
             have hO:=hOh.out
             clear hOh
             have hlw:=Lib.hid hP.leftR
             obtain⟨_,_,_,_,_,hcc⟩:=hP.cell
             cases o9 with
             | true =>
               have hf:R (.returned (encU ())) wr:=hO.over () hP hK
               clear hO hP hK hl
               go_wp2_with fail
               first | exact hf | (refine bodyPost_end (results_none rfl _ _ _) rfl ?_;exact hf) | (refine bodyPost_ret (results_none rfl _ _ _) rfl ?_;exact hf) | (go_ret;exact hf) | (go_end0;exact hf)
             | false =>
               obtain⟨hDj,hDD⟩:=hD9 rfl
               obtain⟨j,rfl⟩:∃ j',j=j'+1:=⟨j-1,by omega⟩
               rw [ySpin_one] at hO
               obtain⟨r,q1,q2,q3,q4,q5⟩:=heh.out (3+me) (by omega)
               obtain⟨a0,a1,a2,a3,a4,a5,a6⟩:=hl.nth q1
               rw [show (k+(3+me))*7=k*7+(3+me)*7 from by omega] at a0 a1 a2 a3 a4 a5 a6
               have hOh:=Lib.hid hO
               have hq1h:=Lib.hid q1
               have hq3h:=Lib.hid q3
               clear hO q1 q3 q5
               go_wp2_with fail
               have q3:=hq3h.out
               refine rstepL (T:=regR (yReg rs k (3+(me:Int))) me) hOh.out hK (by rw [yReg_of (show (3+(me:Int))=(((3+me):Nat):Int) from by omega) hq1h.out];exact yget_r B p false S9 r me _ hP q2 ⟨by omega,by omega⟩) ?_
               clear hOh hK hP a0 a1 a2 a3 a4 a5 a6
               intro y o10 S10 wn hleS10 hltS10 hP hk hK hO
               replace hl:=hl.keep hk
               have hll:=fun ho=>(hltS10 ho).2 (asks_regR _ _ (heh.out.told (i:=3+me) (by omega) (by omega) _))
               clear hk q2 q4 hq1h hq3h q3 hcc
               by_cases hx:y<=1
               · have dy:decide (y<=1)=true:=by simpa using hx
                 have dy2:decide (1<y)=false:=by rw [decide_eq_false_iff_not];omega
                 rw [if_pos dy] at hO
                 have hOh:=Lib.hid hO
                 clear hO hx
                 have hlv:=Lib.hid hP.leftR
                 go_wp2_with fail
                 refine⟨⟨j,o10,S10,hP,hK,hl,hOh,fun ho=>⟨by have:=hll ho;omega,by have:=hll ho;omega⟩⟩,?_⟩
                 rw [hlw.out,hlv.out]
                 cases o10 with
                 | true=>first | omega | (simp;done) | (simp;omega)
                 | false =>
                   have:=hll rfl
                   first | omega | (simp;omega)
               · have dy:decide (y<=1)=false:=by simpa using hx
                 have dy2:decide (1<y)=true:=by rw [decide_eq_true_eq];omega
                 rw [if_neg (by rw [dy];decide)] at hO
                 clear hx
                 have hf:=hO.ret hP hK
                 clear hO hP hK hl
                 go_wp2_with fail
                 first | exact hf | (refine bodyPost_end (results_none rfl _ _ _) rfl ?_;exact hf) | (refine bodyPost_ret (results_none rfl _ _ _) rfl ?_;exact hf) | (go_ret;exact hf) | (go_end0;exact hf)
          · have du:(u != (me:Int)+1)=true:=by simpa using hu
            rw [if_neg hu] at hO
            clear hu
            have hf:=hO.ret hP hK
            clear hO hP hK hl
            go_wp2_with fail
            first | exact hf | (refine bodyPost_end (results_none rfl _ _ _) rfl ?_;exact hf) | (refine bodyPost_ret (results_none rfl _ _ _) rfl ?_;exact hf) | (go_ret;exact hf) | (go_end0;exact hf)
   · have dx0:(x==0)=false:=by simpa using hx0
     rw [if_neg hx0] at hO
     unfold yEnd at hO
     clear hx0 dv hwv hv0 hv2 hvt du hvn hv1 hqh dv1 dv2 hltSb hltSa hleSa hleSb
     have hOh:=Lib.hid hO
     clear hO
     go_wp2_with fail
     go_loopw [] (fun wr=>∃ (j:Nat) (o3:Bool) (S3:TS),RAt B wr p o3 S3/\KeepR B p w wr/\RegsAt [3,4,5] wr p b rs/\Hid (ROwes R encU B p w ((ySpin (fun x=>x==0) (yReg rs k (3+me)) me j).bind fun _=>yEnd2 D rs k me) o3 S3)/\(o3=false->S3.left<j/\S3.left<D)) (fun wr=>leftR wr p)
     case atStart=>exact⟨D,ob,Sb,hP,hK,hl,hOh,fun ho=>⟨hDb ho,hDb ho⟩⟩
     case round =>
      clear hP hK hl hOh
      obtain⟨j,o6,S6,hP,hK,hl,hOh,hD6⟩:=hrel
      have hO:=hOh.out
      clear hOh
      have hlw:=Lib.hid hP.leftR
      obtain⟨_,_,_,_,_,hcc⟩:=hP.cell
      cases o6 with
      | true =>
        replace hO:=hO.any (yEnd2 D rs k me)
        unfold yEnd2 at hO
        obtain⟨r,q1,q2,q3,q4,q5⟩:=heh.out 2 (by omega)
        obtain⟨a0,a1,a2,a3,a4,a5,a6⟩:=hl.nth q1
        rw [show (k+2)*7=k*7+2*7 from by omega] at a0 a1 a2 a3 a4 a5 a6
        have hOh:=Lib.hid hO
        have hq1h:=Lib.hid q1
        have hq3h:=Lib.hid q3
        clear hO q1 q3 q5
        go_wp2_with fail
        have q3:=hq3h.out
        refine rstepL (T:=regR (yReg rs k 2) me) hOh.out hK (by rw [yReg_of (show 2=((2:Nat):Int) from by rfl) hq1h.out];exact yget_r B p true S6 r me _ hP q2 ⟨by omega,by omega⟩) ?_
        clear hOh hK hP a0 a1 a2 a3 a4 a5 a6
        intro u o8 S8 wn hleS8 hltS8 hP hk hK hO
        replace hl:=hl.keep hk
        clear hk q2 q4 hq1h hq3h q3
        by_cases hu:u=(me:Int)+1
        · have du:(u != (me:Int)+1)=false:=by simpa using hu
          rw [if_pos hu] at hO
          clear hu
          have hOh:=Lib.hid hO
          clear hO
          go_wp2_with fail
          go_loopw [] (fun wr=>∃ (j:Nat) (o3:Bool) (S3:TS),RAt B wr p o3 S3/\KeepR B p w wr/\RegsAt [3,4,5] wr p b rs/\Hid (ROwes R encU B p w (ySpin (fun x=>decide (x<=1)) (yReg rs k (3+me)) me j) o3 S3)/\(o3=false->S3.left<j/\S3.left<D)) (fun wr=>leftR wr p)
          case atStart=>exact⟨D,o8,S8,hP,hK,hl,hOh,fun ho=>by have:=(hltS8 ho).1;cases this⟩
          case round =>
           clear hP hK hl hOh
           obtain⟨j,o9,S9,hP,hK,hl,hOh,hD9⟩:=hrel
           have hO:=hOh.out
           clear hOh
           have hlw:=Lib.hid hP.leftR
           obtain⟨_,_,_,_,_,hcc⟩:=hP.cell
           cases o9 with
           | true =>
             have hf:R (.returned (encU ())) wr:=hO.over () hP hK
             clear hO hP hK hl
             go_wp2_with fail
             first | exact hf | (refine bodyPost_end (results_none rfl _ _ _) rfl ?_;exact hf) | (refine bodyPost_ret (results_none rfl _ _ _) rfl ?_;exact hf) | (go_ret;exact hf) | (go_end0;exact hf)
           | false =>
             obtain⟨hDj,hDD⟩:=hD9 rfl
             obtain⟨j,rfl⟩:∃ j',j=j'+1:=⟨j-1,by omega⟩
             rw [ySpin_one] at hO
             obtain⟨r,q1,q2,q3,q4,q5⟩:=heh.out (3+me) (by omega)
             obtain⟨a0,a1,a2,a3,a4,a5,a6⟩:=hl.nth q1
             rw [show (k+(3+me))*7=k*7+(3+me)*7 from by omega] at a0 a1 a2 a3 a4 a5 a6
             have hOh:=Lib.hid hO
             have hq1h:=Lib.hid q1
             have hq3h:=Lib.hid q3
             clear hO q1 q3 q5
             go_wp2_with fail
             have q3:=hq3h.out
             refine rstepL (T:=regR (yReg rs k (3+(me:Int))) me) hOh.out hK (by rw [yReg_of (show (3+(me:Int))=(((3+me):Nat):Int) from by omega) hq1h.out];exact yget_r B p false S9 r me _ hP q2 ⟨by omega,by omega⟩) ?_
             clear hOh hK hP a0 a1 a2 a3 a4 a5 a6
             intro y o10 S10 wn hleS10 hltS10 hP hk hK hO
             replace hl:=hl.keep hk
             have hll:=fun ho=>(hltS10 ho).2 (asks_regR _ _ (heh.out.told (i:=3+me) (by omega) (by omega) _))
             clear hk q2 q4 hq1h hq3h q3 hcc
             by_cases hx:y<=1
             · have dy:decide (y<=1)=true:=by simpa using hx
               have dy2:decide (1<y)=false:=by rw [decide_eq_false_iff_not];omega
               rw [if_pos dy] at hO
               have hOh:=Lib.hid hO
               clear hO hx
               have hlv:=Lib.hid hP.leftR
               go_wp2_with fail
               refine⟨⟨j,o10,S10,hP,hK,hl,hOh,fun ho=>⟨by have:=hll ho;omega,by have:=hll ho;omega⟩⟩,?_⟩
               rw [hlw.out,hlv.out]
               cases o10 with
               | true=>first | omega | (simp;done) | (simp;omega)
               | false =>
                 have:=hll rfl
                 first | omega | (simp;omega)
             · have dy:decide (y<=1)=false:=by simpa using hx
               have dy2:decide (1<y)=true:=by rw [decide_eq_true_eq];omega
               rw [if_neg (by rw [dy];decide)] at hO
               clear hx
               have hf:=hO.ret hP hK
               clear hO hP hK hl
               go_wp2_with fail
               first | exact hf | (refine bodyPost_end (results_none rfl _ _ _) rfl ?_;exact hf) | (refine bodyPost_ret (results_none rfl _ _ _) rfl ?_;exact hf) | (go_ret;exact hf) | (go_end0;exact hf)
        · have du:(u != (me:Int)+1)=true:=by simpa using hu
          rw [if_neg hu] at hO
          clear hu
          have hf:=hO.ret hP hK
          clear hO hP hK hl
          go_wp2_with fail
          first | exact hf | (refine bodyPost_end (results_none rfl _ _ _) rfl ?_;exact hf) | (refine bodyPost_ret (results_none rfl _ _ _) rfl ?_;exact hf) | (go_ret;exact hf) | (go_end0;exact hf)
      | false =>
        obtain⟨hDj,hDD⟩:=hD6 rfl
        obtain⟨j,rfl⟩:∃ j',j=j'+1:=⟨j-1,by omega⟩
        rw [ySpin_bind] at hO
        obtain⟨r,q1,q2,q3,q4,q5⟩:=heh.out (3+me) (by omega)
        obtain⟨a0,a1,a2,a3,a4,a5,a6⟩:=hl.nth q1
        rw [show (k+(3+me))*7=k*7+(3+me)*7 from by omega] at a0 a1 a2 a3 a4 a5 a6
        have hOh:=Lib.hid hO
        have hq1h:=Lib.hid q1
        have hq3h:=Lib.hid q3
        clear hO q1 q3 q5
        go_wp2_with fail
        have q3:=hq3h.out
        refine rstepL (T:=regR (yReg rs k (3+(me:Int))) me) hOh.out hK (by rw [yReg_of (show (3+(me:Int))=(((3+me):Nat):Int) from by omega) hq1h.out];exact yget_r B p false S6 r me _ hP q2 ⟨by omega,by omega⟩) ?_
        clear hOh hK hP a0 a1 a2 a3 a4 a5 a6
        intro x o7 S7 wn hleS7 hltS7 hP hk hK hO
        replace hl:=hl.keep hk
        have hll:=fun ho=>(hltS7 ho).2 (asks_regR _ _ (heh.out.told (i:=3+me) (by omega) (by omega) _))
        clear hk q2 q4 hq1h hq3h q3 hcc
        by_cases hx:x=0
        · have dx:(x==0)=true:=by simpa using hx
          have dx2:(x != 0)=false:=by simpa using hx
          rw [if_pos dx] at hO
          have hOh:=Lib.hid hO
          clear hO hx
          have hlv:=Lib.hid hP.leftR
          go_wp2_with fail
          refine⟨⟨j,o7,S7,hP,hK,hl,hOh,fun ho=>⟨by have:=hll ho;omega,by have:=hll ho;omega⟩⟩,?_⟩
          rw [hlw.out,hlv.out]
          cases o7 with
          | true=>first | omega | (simp;done) | (simp;omega)
          | false =>
            have:=hll rfl
            first | omega | (simp;omega)
        · have dx:(x==0)=false:=by simpa using hx
          have dx2:(x != 0)=true:=by simpa using hx
          rw [if_neg (by rw [dx];decide)] at hO
          have hD7:o7=false->S7.left<D:=fun ho=>by have:=hll ho;omega
          clear hx hll hlw
          unfold yEnd2 at hO
          obtain⟨r,q1,q2,q3,q4,q5⟩:=heh.out 2 (by omega)
          obtain⟨a0,a1,a2,a3,a4,a5,a6⟩:=hl.nth q1
          rw [show (k+2)*7=k*7+2*7 from by omega] at a0 a1 a2 a3 a4 a5 a6
          have hOh:=Lib.hid hO
          have hq1h:=Lib.hid q1
          have hq3h:=Lib.hid q3
          clear hO q1 q3 q5
          go_wp2_with fail
          have q3:=hq3h.out
          refine rstepL (T:=regR (yReg rs k 2) me) hOh.out hK (by rw [yReg_of (show 2=((2:Nat):Int) from by rfl) hq1h.out];exact yget_r B p o7 S7 r me _ hP q2 ⟨by omega,by omega⟩) ?_
          clear hOh hK hP a0 a1 a2 a3 a4 a5 a6
          intro u o8 S8 wn hleS8 hltS8 hP hk hK hO
          replace hl:=hl.keep hk
          clear hk q2 q4 hq1h hq3h q3
          by_cases hu:u=(me:Int)+1
          · have du:(u != (me:Int)+1)=false:=by simpa using hu
            rw [if_pos hu] at hO
            clear hu
            have hOh:=Lib.hid hO
            clear hO
            go_wp2_with fail
            go_loopw [] (fun wr=>∃ (j:Nat) (o3:Bool) (S3:TS),RAt B wr p o3 S3/\KeepR B p w wr/\RegsAt [3,4,5] wr p b rs/\Hid (ROwes R encU B p w (ySpin (fun x=>decide (x<=1)) (yReg rs k (3+me)) me j) o3 S3)/\(o3=false->S3.left<j/\S3.left<D)) (fun wr=>leftR wr p)
            case atStart=>exact⟨D,o8,S8,hP,hK,hl,hOh,fun ho=>⟨by have h1:=(hltS8 ho).1;have h2:=hD7 h1;omega,by have h1:=(hltS8 ho).1;have h2:=hD7 h1;omega⟩⟩
            case round =>
             clear hP hK hl hOh
             obtain⟨j,o9,S9,hP,hK,hl,hOh,hD9⟩:=hrel
             have hO:=hOh.out
             clear hOh
             have hlw:=Lib.hid hP.leftR
             obtain⟨_,_,_,_,_,hcc⟩:=hP.cell
             cases o9 with
             | true =>
               have hf:R (.returned (encU ())) wr:=hO.over () hP hK
               clear hO hP hK hl
               go_wp2_with fail
               first | exact hf | (refine bodyPost_end (results_none rfl _ _ _) rfl ?_;exact hf) | (refine bodyPost_ret (results_none rfl _ _ _) rfl ?_;exact hf) | (go_ret;exact hf) | (go_end0;exact hf)
             | false =>
               obtain⟨hDj,hDD⟩:=hD9 rfl
               obtain⟨j,rfl⟩:∃ j',j=j'+1:=⟨j-1,by omega⟩
               rw [ySpin_one] at hO
               obtain⟨r,q1,q2,q3,q4,q5⟩:=heh.out (3+me) (by omega)
               obtain⟨a0,a1,a2,a3,a4,a5,a6⟩:=hl.nth q1
               rw [show (k+(3+me))*7=k*7+(3+me)*7 from by omega] at a0 a1 a2 a3 a4 a5 a6
               have hOh:=Lib.hid hO
               have hq1h:=Lib.hid q1
               have hq3h:=Lib.hid q3
               clear hO q1 q3 q5
               go_wp2_with fail
               have q3:=hq3h.out
               refine rstepL (T:=regR (yReg rs k (3+(me:Int))) me) hOh.out hK (by rw [yReg_of (show (3+(me:Int))=(((3+me):Nat):Int) from by omega) hq1h.out];exact yget_r B p false S9 r me _ hP q2 ⟨by omega,by omega⟩) ?_
               clear hOh hK hP a0 a1 a2 a3 a4 a5 a6
               intro y o10 S10 wn hleS10 hltS10 hP hk hK hO
               replace hl:=hl.keep hk
               have hll:=fun ho=>(hltS10 ho).2 (asks_regR _ _ (heh.out.told (i:=3+me) (by omega) (by omega) _))
               clear hk q2 q4 hq1h hq3h q3 hcc
               by_cases hx:y<=1
               · have dy:decide (y<=1)=true:=by simpa using hx
                 have dy2:decide (1<y)=false:=by rw [decide_eq_false_iff_not];omega
                 rw [if_pos dy] at hO
                 have hOh:=Lib.hid hO
                 clear hO hx
                 have hlv:=Lib.hid hP.leftR
                 go_wp2_with fail
                 refine⟨⟨j,o10,S10,hP,hK,hl,hOh,fun ho=>⟨by have:=hll ho;omega,by have:=hll ho;omega⟩⟩,?_⟩
                 rw [hlw.out,hlv.out]
                 cases o10 with
                 | true=>first | omega | (simp;done) | (simp;omega)
                 | false =>
                   have:=hll rfl
                   first | omega | (simp;omega)
               · have dy:decide (y<=1)=false:=by simpa using hx
                 have dy2:decide (1<y)=true:=by rw [decide_eq_true_eq];omega
                 rw [if_neg (by rw [dy];decide)] at hO
                 clear hx
                 have hf:=hO.ret hP hK
                 clear hO hP hK hl
                 go_wp2_with fail
                 first | exact hf | (refine bodyPost_end (results_none rfl _ _ _) rfl ?_;exact hf) | (refine bodyPost_ret (results_none rfl _ _ _) rfl ?_;exact hf) | (go_ret;exact hf) | (go_end0;exact hf)
          · have du:(u != (me:Int)+1)=true:=by simpa using hu
            rw [if_neg hu] at hO
            clear hu
            have hf:=hO.ret hP hK
            clear hO hP hK hl
            go_wp2_with fail
            first | exact hf | (refine bodyPost_end (results_none rfl _ _ _) rfl ?_;exact hf) | (refine bodyPost_ret (results_none rfl _ _ _) rfl ?_;exact hf) | (go_ret;exact hf) | (go_end0;exact hf)
set_option maxRecDepth 100000 in
set_option maxHeartbeats 4000000 in
theorem yleave_r (B p n me sd k:Nat)(o:Bool)(s:Int)(S:TS)(rs:List Reg)(b c:Nat)(w:World)(h:RAt B w p o S)(hl:RegsAt [3,4,5] w p b rs)(he:YRegs rs k n)(h1:1<=n)(hn:n<=8)(hme:me<n)(hsd:(if s=0 then 0 else 1)=sd) :
  Calls Tryz.prog 27 #[.pointer (some ⟨p,0,none⟩),.slice (some ⟨b,k*7,none⟩) (n+3) c,.int .i64 s,.int .i64 n,.int .i64 me] w (RPost encU B p w (yLeave rs k n me sd) o S):=by
 generalize hR:RPost encU B p w (yLeave rs k n me sd) o S=R
 have hO:ROwes R encU B p w (yLeave rs k n me sd) o S:=hR▸rowes _ _ _ _ _ _ _
 clear hR
 have hK:=Keep.refl [3,4,5] B p w
 have hP:=h
 clear h
 have heh:=Lib.hid he
 have hwm:=IntWalk.i64_in ((me:Int)+1) (by omega)
 have hw3:=IntWalk.i64_in (3+(me:Int)) (by omega)
 have hb:=bit_r s w
 have hbs:bitM s=(sd:Int):=by
  rw [<- hsd]
  unfold bitM
  split <;> rfl
 rw [hbs] at hb
 have hsd2:sd<2:=by rw [<- hsd];split <;> omega
 clear he hsd hbs
 have hi0:(0:Int)<=(sd:Int):=by omega
 have hi1:(sd:Int)<(n:Int)+3:=by omega
 have hj0:(0:Int)<=3+(me:Int):=by omega
 have hj1:(3:Int)+(me:Int)<(n:Int)+3:=by omega
 have hjt:(3+(me:Int)).toNat=3+me:=by omega
 have hw1s:IntKind.i64.wrap (1-(sd:Int))=((1-sd:Nat):Int):=by rw [IntWalk.i64_in _ (by omega)];omega
 have hm0:(0:Int)<=((1-sd:Nat):Int):=by omega
 have hm1:((1-sd:Nat):Int)<(n:Int)+3:=by omega
 have h20:(2:Int)<(n:Int)+3:=by omega
 have hOh:=Lib.hid hO
 clear hO
 go_enter Tryz.func27,Tryz.ntmps27
 go_wp2_with fail
 refine hb.mono ?_
 rintro e w' ⟨rfl,rfl⟩
 clear hb
 have hO:=hOh.out
 clear hOh
 unfold yLeave at hO
 obtain⟨r,q1,q2,q3,q4,q5⟩:=heh.out sd (by omega)
 obtain⟨a0,a1,a2,a3,a4,a5,a6⟩:=hl.nth q1
 rw [show (k+sd)*7=k*7+sd*7 from by omega] at a0 a1 a2 a3 a4 a5 a6
 have hOh:=Lib.hid hO
 have hq1h:=Lib.hid q1
 have hq3h:=Lib.hid q3
 clear hO q1 q3 q5
 go_wp2_with fail
 have q3:=hq3h.out
 refine rstepL (T:=regW (yReg rs k (sd:Int)) me 0) hOh.out hK (by rw [yReg_of (show (sd:Int)=((sd:Nat):Int) from by rfl) hq1h.out];exact yset_r B p o S r me 0 _ hP q2 ⟨by omega,by omega⟩) ?_
 clear hOh hK hP a0 a1 a2 a3 a4 a5 a6
 intro _ o2 S2 wn hleS2 hltS2 hP hk hK hO
 replace hl:=hl.keep hk
 clear hk q2 q4 hq1h hq3h q3
 obtain⟨r,q1,q2,q3,q4,q5⟩:=heh.out 2 (by omega)
 obtain⟨a0,a1,a2,a3,a4,a5,a6⟩:=hl.nth q1
 rw [show (k+2)*7=k*7+2*7 from by omega] at a0 a1 a2 a3 a4 a5 a6
 have hOh:=Lib.hid hO
 have hq1h:=Lib.hid q1
 have hq3h:=Lib.hid q3
 clear hO q1 q3 q5
 go_wp2_with fail
 have q3:=hq3h.out
 refine rstepL (T:=regR (yReg rs k 2) me) hOh.out hK (by rw [yReg_of (show 2=((2:Nat):Int) from by rfl) hq1h.out];exact yget_r B p o2 S2 r me _ hP q2 ⟨by omega,by omega⟩) ?_
 clear hOh hK hP a0 a1 a2 a3 a4 a5 a6
 intro u o3 S3 wn hleS3 hltS3 hP hk hK hO
 replace hl:=hl.keep hk
 clear hk q2 q4 hq1h hq3h q3
 by_cases hu:u=(me:Int)+1
 · have du:(u != (me:Int)+1)=false:=by simpa using hu
   rw [if_neg fun q=>q.1 hu] at hO
   clear hu
   have hf:=hO.ret hP hK
   clear hO hP hK hl
   go_wp2_with fail
   first | exact hf | (refine bodyPost_end (results_none rfl _ _ _) rfl ?_;exact hf) | (refine bodyPost_ret (results_none rfl _ _ _) rfl ?_;exact hf) | (go_ret;exact hf) | (go_end0;exact hf)
 have du:(u != (me:Int)+1)=true:=by simpa using hu
 by_cases hv1:1<=u
 rotate_left
 · have dv1:decide (0<u)=false:=by rw [decide_eq_false_iff_not];omega
   rw [if_neg fun q=>hv1 q.2.1] at hO
   clear hu hv1
   have hf:=hO.ret hP hK
   clear hO hP hK hl
   go_wp2_with fail
   first | exact hf | (refine bodyPost_end (results_none rfl _ _ _) rfl ?_;exact hf) | (refine bodyPost_ret (results_none rfl _ _ _) rfl ?_;exact hf) | (go_ret;exact hf) | (go_end0;exact hf)
 have dv1:decide (0<u)=true:=by rw [decide_eq_true_eq];omega
 by_cases hvn:u<=n
 rotate_left
 · have dv2:decide (u<=(n:Int))=false:=by rw [decide_eq_false_iff_not];omega
   rw [if_neg fun q=>hvn q.2.2] at hO
   clear hu hv1 hvn
   have hf:=hO.ret hP hK
   clear hO hP hK hl
   go_wp2_with fail
   first | exact hf | (refine bodyPost_end (results_none rfl _ _ _) rfl ?_;exact hf) | (refine bodyPost_ret (results_none rfl _ _ _) rfl ?_;exact hf) | (go_ret;exact hf) | (go_end0;exact hf)
 have dv2:decide (u<=(n:Int))=true:=by rw [decide_eq_true_eq];omega
 rw [if_pos ⟨hu,hv1,hvn⟩] at hO
 have hwv:=IntWalk.i64_in (2+u) (by omega)
 have hv0:(0:Int)<=2+u:=by omega
 have hv2:2+u<(n:Int)+3:=by omega
 obtain⟨q,hq⟩:∃ q:Nat,u=(q:Int):=⟨u.toNat,by omega⟩
 have hqn:q<=n:=by omega
 have hvt:(2+u).toNat=2+q:=by omega
 have hqh:=Lib.hid hq
 clear hq hu
 obtain⟨r,q1,q2,q3,q4,q5⟩:=heh.out (2+q) (by omega)
 obtain⟨a0,a1,a2,a3,a4,a5,a6⟩:=hl.nth q1
 rw [show (k+(2+q))*7=k*7+(2+q)*7 from by omega] at a0 a1 a2 a3 a4 a5 a6
 have hOh:=Lib.hid hO
 have hq1h:=Lib.hid q1
 have hq3h:=Lib.hid q3
 clear hO q1 q3 q5
 go_wp2_with fail
 have q3:=hq3h.out
 refine rlast (T:=regW (yReg rs k (2+u)) me 2) hOh.out hK (by rw [yReg_of (show (2+u)=(((2+q):Nat):Int) from by have:=hqh.out;omega) hq1h.out];exact yset_r B p o3 S3 r me 2 _ hP q2 ⟨by omega,by omega⟩) ?_
 clear hOh hK hP a0 a1 a2 a3 a4 a5 a6
 intro _ o4 S4 wn hP hk hK hO
 replace hl:=hl.keep hk
 clear hk q2 q4 hq1h hq3h q3
 have hf:=hO.ret hP hK
 clear hO hP hK hl
 go_wp2_with fail
 first | exact hf | (refine bodyPost_end (results_none rfl _ _ _) rfl ?_;exact hf) | (refine bodyPost_ret (results_none rfl _ _ _) rfl ?_;exact hf) | (go_ret;exact hf) | (go_end0;exact hf)
end Go.Proofs.YtbphlkaihfbgeaaGreat
