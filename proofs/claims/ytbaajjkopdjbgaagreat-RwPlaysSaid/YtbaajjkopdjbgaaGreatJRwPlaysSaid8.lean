/-
  RwPlaysSaid: part 8 of its proof.
-/
import Derived.Test.YtbaajjkopdjbgaaGreatJRwPlaysSaid7
import Derived.Deep.Upon
import Derived.Deep.DeepCutAuto
open Go.Value renaming int -> V
open Go.IntKind renaming i64 -> Z
namespace Kv
def sumC (l:List Reg):Int:=(l.map cellsM).sum
def sumL (l:List Reg):Int:=(l.map localsM).sum
theorem sumC_next {l:List Reg}{j:Nat}{r:Reg}(h:l[j]?=some r):sumC (l.take (j+1))=sumC (l.take j)+cellsM r:=by
 unfold sumC
 rw [List.take_add_one,h]
 simp [List.sum_append]
theorem sumL_next {l:List Reg}{j:Nat}{r:Reg}(h:l[j]?=some r):sumL (l.take (j+1))=sumL (l.take j)+localsM r:=by
 unfold sumL
 rw [List.take_add_one,h]
 simp [List.sum_append]
theorem sum_bd {l:List Reg}(h:∀ r∈l,r.ok):∀ j:Nat,j<=l.length->(0<=sumC (l.take j)/\sumC (l.take j)<=6272*j)/\(0<=sumL (l.take j)/\sumL (l.take j)<=7072*j)
 | 0,_=>by simp [sumC,sumL]
 | j+1,hj=>by
   obtain⟨r,hr⟩:∃ r,l[j]?=some r:=⟨_,List.getElem?_eq_getElem (by omega)⟩
   have h1:=sum_bd h j (by omega)
   have h2:=cells_nat r (h r (List.mem_of_getElem? hr)).n
   rw [sumC_next hr,sumL_next hr]
   omega
end Kv
namespace Go.Proofs.YtbaajjkopdjbgaaGreat
open Go.RowKit Kv
set_option maxRecDepth 100000 in
set_option maxHeartbeats 1000000 in
theorem size_p (b c:Nat)(rs:List Reg)(w:World)(hb:b<w.heap.size)(hc:∀ (i:Nat) u,(rs.flatMap regVals)[i]?=some u->w.cell? ⟨b,i,none⟩=some u)(hok:∀ r∈rs,r.ok)(hl:rs.length<=300) :
  Calls Tryz.prog 164 #[.slice (some ⟨b,0,none⟩) rs.length c] w fun e w'=>e=.returned (.tuple #[V Z (sumC rs),V Z (sumL rs)])/\Ext w w':=by
 have hokh:=Hd hok
 have hbd:=Hd (sum_bd hok)
 have hch:=Hd hc
 clear hok hc
 go_enter Tryz.func164,Tryz.ntmps164
 go_wp2_with fail
 go_loopw [4,5,10] (fun u v i wr=>∃ j:Nat,i=V Z j/\j<=rs.length/\u=V Z (sumC (rs.take j))/\v=V Z (sumL (rs.take j))/\Ext w wr) (fun _ _ i _=>rs.length-(intOf i).toNat)
 case atStart=>exact⟨0,rfl,by omega,rfl,rfl,Ext.refl w⟩
 case round =>
  obtain⟨j,rfl,hj,rfl,rfl,hX⟩:=hrel
  by_cases hlt:j<rs.length
  · have dl:decide ((j:Int)<(rs.length:Int))=true:=by rw [decide_eq_true_eq];omega
    obtain⟨r,hr⟩:∃ r,rs[j]?=some r:=⟨_,List.getElem?_eq_getElem hlt⟩
    have hrk:=hokh.out r (List.mem_of_getElem? hr)
    have h1:=hbd.out j (by omega)
    have h2:=cells_nat r hrk.n
    have n1:=sumC_next hr
    have n2:=sumL_next hr
    obtain⟨a0,a1,a2,a3,a4,a5,a6⟩:=reg_cells (w:=wr) (b:=b) (fun i u hu=>(hX.cell (p:=⟨b,i,none⟩) hb).trans (hch.out i u hu)) hr
    have hC:=fun w=>cells_all r w hrk.kind hrk.n
    have hL:=fun w=>locals_p r w hrk.kind hrk.n
    unfold encR at hC hL
    have w1:IntKind.i64.wrap (sumC (rs.take j)+cellsM r)=sumC (rs.take (j+1)):=by rw [IntWalk.i64_in _ (by omega),n1]
    have w2:IntKind.i64.wrap (sumL (rs.take j)+localsM r)=sumL (rs.take (j+1)):=by rw [IntWalk.i64_in _ (by omega),n2]
    have c_n:=fun i=>cell_of_heap (heap_alloc_new wr (.cells #[V Z r.kind,V Z r.base,V Z r.loc,V Z r.n,V Z r.wr,V Z r.rd,V Z r.top] 67)) i
    have hX1:=hX.alloc (.cells #[V Z r.kind,V Z r.base,V Z r.loc,V Z r.n,V Z r.wr,V Z r.rd,V Z r.top] 67)
    have g1:=Blk.new wr (.cells #[V Z r.kind,V Z r.base,V Z r.loc,V Z r.n,V Z r.wr,V Z r.rd,V Z r.top] 67)
    clear hr h1 h2 n1 n2;go_wp2_with fail
    refine (hC _).mono ?_
    rintro e w2 ⟨rfl,hx2⟩
    clear c_n
    have g2:=g1.ext hx2
    have c_g:=g2.cells;replace hX1:=hX1.trans hx2;clear hx2 a0 a1 a2 a3 a4 a5 a6 g1;go_wp2_with fail
    refine (hL _).mono ?_
    rintro e w3 ⟨rfl,hx3⟩
    replace hX1:=hX1.trans hx3;clear hx3 c_g g2;go_wp2_with fail
    refine⟨⟨j+1,by go_num,by omega,rfl,rfl,hX1⟩,?_⟩
    simp [intOf];omega
  · obtain rfl:j=rs.length:=by omega
    have dl:decide ((rs.length:Int)<(rs.length:Int))=false:=by rw [decide_eq_false_iff_not];omega
    rw [List.take_length]
    go_wp2_with fail
    first | go_ret2 | go_ret
    exact⟨rfl,hX⟩
set_option maxRecDepth 100000 in
set_option maxHeartbeats 1000000 in
theorem size_r (b c:Nat)(rs:List Reg)(w:World)(hb:b<w.heap.size)(hc:∀ (i:Nat) u,(rs.flatMap regVals)[i]?=some u->w.cell? ⟨b,i,none⟩=some u)(hok:∀ r∈rs,r.ok)(hl:rs.length<=300) :
  Calls Tryz.prog 182 #[.slice (some ⟨b,0,none⟩) rs.length c] w fun e w'=>e=.returned (.tuple #[V Z (sumC rs),V Z (sumL rs)])/\Ext w w':=by
 have hokh:=Hd hok
 have hbd:=Hd (sum_bd hok)
 have hch:=Hd hc
 clear hok hc
 go_enter Tryz.func182,Tryz.ntmps182
 go_wp2_with fail
 go_loopw [4,5,6] (fun u v i wr=>∃ j:Nat,i=V Z j/\j<=rs.length/\u=V Z (sumC (rs.take j))/\v=V Z (sumL (rs.take j))/\Ext w wr) (fun _ _ i _=>rs.length-(intOf i).toNat)
 case atStart=>exact⟨0,rfl,by omega,rfl,rfl,Ext.refl w⟩
 case round =>
  obtain⟨j,rfl,hj,rfl,rfl,hX⟩:=hrel
  by_cases hlt:j<rs.length
  · have dl:decide ((j:Int)<(rs.length:Int))=true:=by rw [decide_eq_true_eq];omega
    obtain⟨r,hr⟩:∃ r,rs[j]?=some r:=⟨_,List.getElem?_eq_getElem hlt⟩
    have hrk:=hokh.out r (List.mem_of_getElem? hr)
    have h1:=hbd.out j (by omega)
    have h2:=cells_nat r hrk.n
    have n1:=sumC_next hr
    have n2:=sumL_next hr
    obtain⟨a0,a1,a2,a3,a4,a5,a6⟩:=reg_cells (w:=wr) (b:=b) (fun i u hu=>(hX.cell (p:=⟨b,i,none⟩) hb).trans (hch.out i u hu)) hr
    have hC:=fun w=>cells_r r w hrk.kind hrk.n
    have hL:=fun w=>locals_r r w hrk.kind hrk.n
    unfold encR at hC hL
    have w1:IntKind.i64.wrap (sumC (rs.take j)+cellsM r)=sumC (rs.take (j+1)):=by rw [IntWalk.i64_in _ (by omega),n1]
    have w2:IntKind.i64.wrap (sumL (rs.take j)+localsM r)=sumL (rs.take (j+1)):=by rw [IntWalk.i64_in _ (by omega),n2]
    have hX1:=hX;clear h1 h2 n1 n2;go_wp2_with fail
    refine (hC _).mono ?_
    rintro e w2 ⟨rfl,hx2⟩
    replace hX1:=hX1.trans hx2;clear hx2 a0 a1 a2 a3 a4 a5 a6
    obtain⟨a0,a1,a2,a3,a4,a5,a6⟩:=reg_cells (w:=w2) (b:=b) (fun i u hu=>(hX1.cell (p:=⟨b,i,none⟩) hb).trans (hch.out i u hu)) hr
    go_wp2_with fail
    refine (hL _).mono ?_
    rintro e w3 ⟨rfl,hx3⟩
    replace hX1:=hX1.trans hx3;clear hx3 a0 a1 a2 a3 a4 a5 a6;go_wp2_with fail
    refine⟨⟨j+1,by go_num,by omega,rfl,rfl,hX1⟩,?_⟩
    simp [intOf];omega
  · obtain rfl:j=rs.length:=by omega
    have dl:decide ((rs.length:Int)<(rs.length:Int))=false:=by rw [decide_eq_false_iff_not];omega
    rw [List.take_length]
    go_wp2_with fail
    first | go_ret2 | go_ret
    exact⟨rfl,hX⟩
set_option maxRecDepth 100000 in
theorem bwregs_r (alg mode base loc room:Int)(N:Nat)(rs:List Reg)(w:World)(h1:1<=N)(h2:N<=8)(hl:layM (bwWants N) N mode base loc=some rs)(hlc:0<=loc/\loc<=32768) :
  Calls Tryz.prog 201 #[.agg #[V Z alg,V Z N,V Z mode,V Z base,V Z loc,V Z room]] w fun e w'=>∃ b c,e=.returned (.tuple #[.slice (some ⟨b,0,none⟩) rs.length c,V Z (loc+sumL rs)])/\w.heap.size<=b/\b<w'.heap.size/\(∀ (i:Nat) u,(rs.flatMap regVals)[i]?=some u->w'.cell? ⟨b,i,none⟩=some u)/\rs.length<=c/\c<=9223372036854775807/\Ext w w':=by
 have hlen:=layM_len hl
 rw [bwWants_len] at hlen
 have hok:∀ r∈rs,r.ok:=fun r hr=>(laid_all hl r hr).1
 have hbd:=sum_bd hok rs.length (Nat.le_refl _)
 rw [List.take_length] at hbd
 have hw:=IntWalk.i64_in (loc+sumL rs) (by omega)
 replace hl:=Hd hl
 have hlenh:=Hd hlen
 have hokh:=Hd hok
 clear hlen hok hbd
 have hX:=Ext.refl w
 have b1:=Blk.new w (.cells #[V Z alg,V Z N,V Z mode,V Z base,V Z loc,V Z room] 23)
 replace hX:=hX.alloc (.cells #[V Z alg,V Z N,V Z mode,V Z base,V Z loc,V Z room] 23)
 have c_b1:=b1.cells
 go_enter Tryz.func201,Tryz.ntmps201
 go_wp2_with fail
 generalize w.alloc _=W at *
 have hXW:=hX;clear hX c_b1
 have hX:=(Ext.refl W).drew
 have hS:∀ w',Ext W w'->(∀ i,w'.cell? ⟨w.heap.size,i,none⟩=(#[V Z alg,V Z N,V Z mode,V Z base,V Z loc,V Z room]:Array Value)[i]?):=fun w' hx=>(b1.ext hx).cells
 go_region_held2 (fun w'=>∀ i,w'.cell? ⟨w.heap.size,i,none⟩=(#[V Z alg,V Z N,V Z mode,V Z base,V Z loc,V Z room]:Array Value)[i]?) (exact hS _ hX)
  (first
    | (go_at_call 177
       refine (bwwants_r N _ h1 h2).mono ?_
       rintro e w2 ⟨v2,rfl,hw2,hx⟩
       replace hX:=hX.trans hx;have hz2:=hX.size
       clear hx)
    | (go_at_call 176
       refine (layr_some hl.out _ (hw2.ext (Ext.refl _)) (by rw [bwWants_len];omega)).mono ?_
       rintro e w3 ⟨v3,rfl,hr3,hx⟩
       replace hX:=hX.trans hx
       clear hx))
 rename_i hh
 clear hh
 obtain⟨⟨A,c,rfl,q1,q2,hV⟩,hown⟩:=hr3
 obtain⟨b,rfl,hb,hcells⟩:=hV (by cases rs with | nil=>have:=hlenh.out;simp only [List.length_nil] at this;omega | cons r l=>simp [regVals])
 have hge:w.heap.size<=b:=Nat.le_trans (Nat.le_trans hXW.size hz2) (hown b rfl)
 have hch:=Hd hcells
 clear hcells hV hown hz2;go_wp2_with fail
 refine (size_r b c rs w3 hb hch.out hokh.out (by have:=hlenh.out;omega)).mono ?_
 rintro e w4 ⟨rfl,hx4⟩
 have hcells4:∀ (i:Nat) u,(rs.flatMap regVals)[i]?=some u->w4.cell? ⟨b,i,none⟩=some u:=fun i u hu=>(hx4.cell (p:=⟨b,i,none⟩) hb).trans (hch.out i u hu)
 have hfh:=Hd (And.intro (Nat.lt_of_lt_of_le hb hx4.size) (And.intro hcells4 (hXW.trans (hX.trans hx4))))
 have hS4:=fun (w':World) (hx:Ext w4 w')=>((b1.ext (hX.trans hx4)).ext hx).cells
 clear hcells4 hch hb hx4 hX;go_wp2_with fail
 have hE:=(Ext.refl w4).drew
 go_region_held2 (fun w'=>∀ i,w'.cell? ⟨w.heap.size,i,none⟩=(#[V Z alg,V Z N,V Z mode,V Z base,V Z loc,V Z room]:Array Value)[i]?) (exact hS4 _ hE) (fail)
 rename_i hh
 clear hh
 have hff:=Hd (And.intro (Nat.lt_of_lt_of_le hfh.out.1 hE.size) (And.intro (fun (i:Nat) u hu=>(hE.cell (p:=⟨b,i,none⟩) hfh.out.1).trans (hfh.out.2.1 i u hu)) (hfh.out.2.2.trans hE)))
 clear hS4 hE;go_wp2_with fail
 first | go_ret2 | go_ret
 exact⟨_,_,rfl,hge,hff.out.1,hff.out.2.1,q1,q2,hff.out.2.2⟩
theorem bw_told {N:Nat}{mode b c:Int}{rs:List Reg}{m:Nat}(h:layM (bwWants N) N mode b c=some rs):∀ (i:Nat) r,rs[i]?=some r->i≠1+m->i≠1+N+m->2<=N->r.told m:=by
 intro i r hi hm hm2 hN
 obtain⟨⟨h1,h2,_⟩,_⟩:=layM_args h
 have hw:(bwWant N i).wr=if i=0 then -1 else if i<=N then (i:Int)-1 else (i:Int)-1-N:=by
  unfold bwWant
  split
  · rfl
  · split <;> rfl
 refine laid_told (laid_want h hi) ⟨h1,h2⟩ (by omega) ?_ ?_
 · rw [hw]
   split
   · omega
   · split <;> omega
 · rw [hw]
   split
   · omega
   · split <;> omega
theorem tameL_bd (L:List Int):∀ v∈tameL L 1048576,0<=v/\v<=1048576:=by
 intro v hv;unfold tameL at hv
 obtain⟨x,_,rfl⟩:=List.mem_map.1 hv
 have h1:=wrapI_bd x 1048576
 have h2:clamp 1048576 1099511627776=1048576:=by decide
 omega
end Go.Proofs.YtbaajjkopdjbgaaGreat
namespace Kv
theorem lev_least {m:Nat}(h:m<=64){j:Nat}(hj:j<levels m):2 ^ j<m:=by
 have:∀ m:Nat,m<65->∀ j:Nat,j<levels m->2 ^ j<m:=by decide +kernel
 exact this m (by omega) j hj
end Kv
namespace Go.Proofs.YtbaajjkopdjbgaaGreat
open Go.RowKit Kv
theorem leaves_r (m:Nat)(w:World)(h2:m<=64):Calls Tryz.prog 243 #[V Z m] w fun e w'=>e=.returned (V Z ((2 ^ levels m:Nat):Int))/\w=w':=by
 have hlt:=fun j (hj:j<levels m)=>lev_least h2 hj
 have hge:=lev_ge h2
 have hle:=lev_le h2
 generalize levels (m:Int)=L at *
 have hp2:=(pow_le hle).2
 obtain⟨P,hP⟩:∃ P,2 ^ L=P:=⟨_,rfl⟩
 rw [hP] at hge hp2 ⊢
 have hlth:=Hd hlt
 have hgeh:=Hd hge
 have hPh:=Hd hP
 clear hlt hge hP
 go_enter Tryz.func243,Tryz.ntmps243
 go_wp2_with fail
 go_loop [3] (fun p=>∃ j q:Nat,p=V Z q/\1<=q/\q<=128/\Hid (q=2 ^ j/\j<=L)) (fun p=>256-(intOf p).toNat)
 case atStart=>exact⟨0,1,rfl,by omega,by omega,Hd ⟨rfl,by omega⟩⟩
 case round =>
  obtain⟨j,q,rfl,q1,q2,hq⟩:=hrel
  by_cases hm:q<m
  · have d1:decide ((q:Int)<(m:Int))=true:=by rw [decide_eq_true_eq];omega
    have hj:j<L:=by
     have h1:=hq.out.2;have h3:=hgeh.out
     by_cases e:j=L
     · have h4:=hq.out.1
       rw [e,hPh.out] at h4;omega
     · omega
    have hq2:Hid (2*q=2 ^ (j+1)/\j+1<=L):=Hd ⟨by rw [hq.out.1,Nat.pow_succ];omega,by omega⟩
    clear hq;go_wp2_with fail
    go_round
    case rel=>exact⟨j+1,2*q,by go_num,by omega,by omega,hq2⟩
    case measure=>simp [intOf];omega
  · have d1:decide ((q:Int)<(m:Int))=false:=by rw [decide_eq_false_iff_not];omega
    have hj:j=L:=by
     by_cases e:j=L
     · exact e
     · have:=hlth.out j (by have:=hq.out.2;omega)
       rw [<- hq.out.1] at this
       omega
    have hf:=hq.out.1;rw [hj,hPh.out] at hf;subst hf;clear hq hPh hlth hgeh;go_wp2_with fail
    go_ret
    exact⟨rfl,rfl⟩
theorem each_r (kind:Int)(w:World):Calls Tryz.prog 242 #[V Z kind] w fun e w'=>e=.returned (V Z ((eachK kind:Nat):Int))/\w=w':=by
 unfold eachK
 by_cases h:kind=7
 · have d:(kind==7)=true:=by simpa using h
   rw [if_pos h]
   clear h
   go_enter Tryz.func242,Tryz.ntmps242
   go_wp2_with fail
   go_ret
   exact⟨rfl,rfl⟩
 · have d:(kind==7)=false:=by simpa using h
   rw [if_neg h]
   clear h
   go_enter Tryz.func242,Tryz.ntmps242
   go_wp2_with fail
   go_ret
   exact⟨rfl,rfl⟩
theorem rtwants_r (kind:Int)(m:Nat)(w:World)(h2:m<=64) :
  Calls Tryz.prog 180 #[V Z kind,V Z m] w fun e w'=>∃ v,e=.returned v/\WantsAt w' v (treeWants (eachK kind) m)/\Ext w w':=by
 have hL:=fun w=>leaves_r m w h2
 have hE:=fun w=>each_r kind w
 obtain⟨p1,p2⟩:=pow_le (lev_le h2)
 obtain⟨e1,e2⟩:=each_le kind
 have hW:=fun w=>wants28_r (eachK kind*(2 ^ levels m-1)) w (by
  have:=Nat.mul_le_mul e2 (show 2 ^ levels (m:Int)-1<=63 by omega)
  omega)
 unfold treeWants
 generalize eachK kind=E at *
 generalize 2 ^ levels (m:Int)=P at *
 have hmul:(E:Int)*((P:Int)-1)=((E*(P-1):Nat):Int):=by
  obtain⟨M,rfl⟩:∃ M,P=M+1:=⟨P-1,by omega⟩
  rw [Int.natCast_mul]
  congr 1
  omega
 have hb:E*(P-1)<=4*63:=Nat.mul_le_mul e2 (by omega)
 have w1:IntKind.i64.wrap ((P:Int)-1)=(P:Int)-1:=IntWalk.i64_in _ (by omega)
 have w2:IntKind.i64.wrap ((E:Int)*((P:Int)-1))=((E*(P-1):Nat):Int):=by rw [hmul];exact IntWalk.i64_in _ (by omega)
 generalize E*(P-1)=M at *
 clear hmul
 go_enter Tryz.func180,Tryz.ntmps180
 go_wp2_with fail
 refine (hE _).mono ?_
 rintro e w' ⟨rfl,rfl⟩;go_wp2_with fail
 refine (hL _).mono ?_
 rintro e w' ⟨rfl,rfl⟩;go_wp2_with fail
 refine (hW _).mono ?_
 rintro e w3 ⟨v,rfl,hv,hx⟩
 have hf:=Hd hv
 clear hv;go_wp2_with fail
 go_ret
 exact⟨_,rfl,hf.out,hx⟩
set_option maxRecDepth 100000 in
set_option maxHeartbeats 1000000 in
theorem rpath_r (m place:Nat)(w:World)(h1:1<=m)(h2:m<=64)(h3:place<m) :
  Calls Tryz.prog 264 #[V Z m,V Z place] w fun e w'=>∃ v,e=.returned v/\IntRow w' w.heap.size v (pathL m place)/\Ext w w':=by
 have hlv:=fun w=>leaves_r m w h2
 have hle:=lev_le h2
 unfold pathL
 generalize levels m=L at *
 obtain⟨p1,p2⟩:=pow_le hle
 generalize 2 ^ L=P at *
 clear hle
 obtain⟨X,hX⟩:∃ X:Nat,P+place=X:=⟨_,rfl⟩
 rw [hX]
 have hw:IntKind.i64.wrap ((P:Int)+(place:Int))=(X:Int):=by rw [IntWalk.i64_in _ (by omega)];omega
 go_enter Tryz.func264,Tryz.ntmps264
 go_wp2_with fail
 refine (hlv _).mono ?_
 rintro e w' ⟨rfl,rfl⟩;go_wp2_with fail
 go_loopw [5,6] (fun v i wr=>∃ (x:Nat) (l:List Int),i=V Z x/\x<=128/\l.length+x<=X/\IntRow wr w.heap.size v l/\Hid (l++pathN x x=pathN X X)/\Ext w wr) (fun _ i _=>(intOf i).toNat)
 case atStart=>exact⟨X,[],rfl,by omega,by simp,IntRow.nil _ _,Hd rfl,Ext.refl w⟩
 case round =>
  obtain⟨x,l,rfl,hx,hln,hown,hpath,hE⟩:=hrel
  by_cases hx1:1<x
  · have e1:decide ((1:Int)<(x:Int))=true:=by rw [decide_eq_true_eq];omega
    go_wp2_with (at_builtin;refine append_int rfl _ _ rfl w.heap.size _ l x hown rfl rfl (by omega) hE.size ?_)
    intro v' w' ho hg
    have hx':=hE.appended hown hg
    have hoh:=Hd ho
    have hp2:Hid ((l++[(x:Int)])++pathN (x / 2) (x / 2)=pathN X X):=Hd (by rw [<- hpath.out,pathN_cons hx1,List.append_assoc];rfl)
    clear hown ho hg hpath hE;go_wp2_with fail
    refine⟨⟨x / 2,l++[(x:Int)],by go_num,by omega,by simp;omega,hoh.out,hp2,hx'⟩,?_⟩
    simp [intOf];omega
  · have e1:decide ((1:Int)<(x:Int))=false:=by rw [decide_eq_false_iff_not];omega
    have hp:=hpath.out
    rw [pathN_nil (by omega),List.append_nil] at hp
    have hf:=Hd hown
    subst hp;clear hown hpath;go_wp2_with fail
    go_ret
    exact⟨_,rfl,hf.out,hE⟩
theorem node_enter_r7 (B p D n:Nat)(o:Bool)(S:TS)(rs:List Reg)(x me:Int)(b c:Nat)(w:World)(h:RAt B w p o S)(hl:RegsAt [3,4,5] w p b rs)(hall:∀ r∈rs,r.ok/\me<r.n/\r.told me)(hm0:0<=me)(hn:x / 2=n)(hn1:1<=n)(hn2:n*4<=rs.length)(hD:S.left<D) :
  Calls Tryz.prog 265 #[.pointer (some ⟨p,0,none⟩),.slice (some ⟨b,4*(n-1)*7,none⟩) 4 c,V Z (x % 2),V Z me] w (RPost encU B p w (nodeE 4 D rs me x) o S):=by
 unfold nodeE
 rw [if_pos rfl,hn,Int.toNat_natCast]
 obtain⟨k0,l0,t0⟩:=hall _ (List.mem_of_getElem? (nthR_of (rs:=rs) (i:=4*(n-1)) (by omega)))
 obtain⟨k1,l1,t1⟩:=hall _ (List.mem_of_getElem? (nthR_of (rs:=rs) (i:=4*(n-1)+1) (by omega)))
 obtain⟨k2,l2,t2⟩:=hall _ (List.mem_of_getElem? (nthR_of (rs:=rs) (i:=4*(n-1)+2) (by omega)))
 obtain⟨k3,l3,t3⟩:=hall _ (List.mem_of_getElem? (nthR_of (rs:=rs) (i:=4*(n-1)+3) (by omega)))
 exact kesn_enter_r B p D o S _ _ _ _ (x % 2) me b c (4*(n-1)) rs w h hl ⟨nthR_of (i:=4*(n-1)) (by omega),nthR_of (i:=4*(n-1)+1) (by omega),nthR_of (i:=4*(n-1)+2) (by omega),nthR_of (i:=4*(n-1)+3) (by omega)⟩ k0 k1 k2 k3 hm0 l0 l1 l2 l3 t0 t1 t2 t3 hD
theorem node_leave_r7 (B p n:Nat)(o:Bool)(S:TS)(rs:List Reg)(x me:Int)(b c:Nat)(w:World)(h:RAt B w p o S)(hl:RegsAt [3,4,5] w p b rs)(hall:∀ r∈rs,r.ok/\me<r.n/\r.told me)(hm0:0<=me)(hn:x / 2=n)(hn1:1<=n)(hn2:n*4<=rs.length) :
  Calls Tryz.prog 271 #[.pointer (some ⟨p,0,none⟩),.slice (some ⟨b,4*(n-1)*7,none⟩) 4 c,V Z (x % 2),V Z me] w (RPost encU B p w (nodeL 4 rs me x) o S):=by
 unfold nodeL
 rw [hn,Int.toNat_natCast]
 obtain⟨k0,l0,t0⟩:=hall _ (List.mem_of_getElem? (nthR_of (rs:=rs) (i:=4*(n-1)) (by omega)))
 obtain⟨k1,l1,t1⟩:=hall _ (List.mem_of_getElem? (nthR_of (rs:=rs) (i:=4*(n-1)+1) (by omega)))
 obtain⟨k2,l2,t2⟩:=hall _ (List.mem_of_getElem? (nthR_of (rs:=rs) (i:=4*(n-1)+2) (by omega)))
 obtain⟨k3,l3,t3⟩:=hall _ (List.mem_of_getElem? (nthR_of (rs:=rs) (i:=4*(n-1)+3) (by omega)))
 exact kesn_leave_r B p o S _ _ (nthR rs (4*(n-1)+2)) (nthR rs (4*(n-1)+3)) (x % 2) me b c (4*(n-1)) rs w h hl ⟨nthR_of (i:=4*(n-1)) (by omega),nthR_of (i:=4*(n-1)+1) (by omega),nthR_of (i:=4*(n-1)+2) (by omega),nthR_of (i:=4*(n-1)+3) (by omega)⟩ k0 k1 hm0 l0 l1
set_option maxRecDepth 100000 in
set_option maxHeartbeats 2000000 in
theorem rclimb_r7 (B p D:Nat)(o:Bool)(S:TS)(kind:Int)(m place:Nat)(me:Int)(rs:List Reg)(A:Option Addr)(c:Nat)(w:World)(h:RAt B w p o S)(hk:kind=7)(h1:1<=m)(h2:m<=64)(h3:place<m)(hlen:rs.length=4*(2 ^ levels m-1))(hc1:rs.length<=c)(hc2:c<=9223372036854775807)
  (hreg:rs≠[]->∃ b,A=some ⟨b,0,none⟩/\RegsAt [3,4,5] w p b rs)(hall:∀ r∈rs,r.ok/\me<r.n/\r.told me)(hm0:0<=me)(hD:S.left<D) :
  Calls Tryz.prog 210 #[.pointer (some ⟨p,0,none⟩),.slice A rs.length c,V Z kind,V Z m,V Z place,V Z me] w (RPost encU B p w (forP (fun x _=>nodeE 4 D rs me x) (pathL m place) ()) o S):=by
 generalize hR:RPost encU B p w (forP (fun x _=>nodeE 4 D rs me x) (pathL m place) ()) o S=R
 have hO:ROwes R encU B p w (forP (fun x _=>nodeE 4 D rs me x) (pathL m place) ()) o S:=hR▸rowes _ _ _ _ _ _ _
 clear hR
 have hmem:=fun y (hy:y∈pathL m place)=>pathL_mem h2 h3 hy
 have hPth:=fun w=>rpath_r m place w h1 h2 h3
 have hEa:=fun w=>each_r kind w
 unfold eachK at hEa;rw [if_pos hk] at hEa
 have hlv:=lev_le h2
 obtain⟨p1,p2⟩:=pow_le hlv
 have e:(2:Int) ^ levels m=((2 ^ levels m:Nat):Int):=by rw [Int.natCast_pow];rfl
 rw [e] at hmem
 have hll:(pathL m place).length<=128:=by
  have:=pathN_len (2 ^ levels m+place) (2 ^ levels m+place)
  unfold pathL
  omega
 clear e hlv
 generalize 2 ^ levels m=P at *
 generalize pathL m place=l at *
 have hk7:(kind==7)=true:=by simp [hk]
 have hmemh:=Hd hmem
 have hallh:=Hd hall
 have hlenh:=Hd hlen
 have hOh:=Hd hO;clear hk hmem hall hlen hO
 go_enter Tryz.func210,Tryz.ntmps210
 go_wp2_with fail
 refine (hPth _).mono ?_
 rintro e w2 ⟨v3,rfl,hrow,hx2⟩
 obtain⟨A3,c3,rfl,hR⟩:=RowH.of_row (p:=p) (ix:=[3,4,5]) hrow (fun b hb=>h.fresh hx2 hb)
 have hK:=Keep.of_ext (ix:=[3,4,5]) (B:=B) hx2 h.lt h.le
 have hP:=h.ext hx2
 have hreg2:rs≠[]->∃ b,A=some ⟨b,0,none⟩/\RegsAt [3,4,5] w2 p b rs:=fun hne=>by
  obtain⟨b,e1,e2⟩:=hreg hne
  exact⟨b,e1,e2.extL hx2 h.lt⟩
 clear hx2 h hreg hrow hPth;go_wp2_with fail
 refine (hEa _).mono ?_
 rintro e w' ⟨rfl,rfl⟩;clear hEa
 by_cases hl0:l=[]
 · subst hl0
   have hf:R (.returned (encU ())) w2:=hOh.out.ret hP hK
   clear hOh hmemh hR hreg2 hallh hlenh;go_wp2_with fail
   go_loopw [14] (fun i wr=>i=V Z 0/\w2=wr) (fun _ _=>0)
   case atStart=>exact⟨rfl,rfl⟩
   case round =>
    obtain⟨rfl,rfl⟩:=hrel
    go_wp2_with fail
    first | exact hf | (refine bodyPost_ret (results_none rfl _ _ _) rfl ?_;exact hf)
 obtain⟨g,cur,rfl,hg,hcur⟩:=hR hl0
 obtain⟨b,rfl,hl⟩:=hreg2 (by
  obtain⟨y,l',rfl⟩:∃ y l',l=y :: l':=by cases l with | nil=>exact absurd rfl hl0 | cons y l'=>exact⟨y,l',rfl⟩
  have h1:=hmemh.out y (List.mem_cons_self ..)
  have h2:=hlenh.out;intro hne;rw [hne,List.length_nil] at h2
  omega)
 have hch:=Hd hcur
 clear hreg2 hR hl0 hcur;go_wp2_with fail
 go_loopw [14] (fun i wr=>∃ (j:Nat) (o2:Bool) (S2:TS),i=V Z j/\j<=l.length/\RAt B wr p o2 S2/\KeepR B p w wr/\HeldR wr p g (.cells cur 3)/\RegsAt [3,4,5] wr p b rs/\S2.left<D/\Hid (ROwes R encU B p w (forP (fun x _=>nodeE 4 D rs me x) (l.drop j) ()) o2 S2)) (fun i _=>l.length-(intOf i).toNat)
 case atStart=>exact⟨0,o,S,rfl,by omega,hP,hK,hg,hl,hD,hOh⟩
 case round =>
  clear hP hK hg hl hD hOh
  obtain⟨j,o2,S2,rfl,hj,hP,hK,hg,hl,hD,hOh⟩:=hrel
  obtain⟨_,_,_,_,_,hcc⟩:=hP.cell
  by_cases hjl:j<l.length
  · have dl:decide ((j:Int)<(l.length:Int))=true:=by rw [decide_eq_true_eq];omega
    cases o2 with
    | true =>
      have hf:R (.returned (encU ())) wr:=hOh.out.over () hP hK
      clear hOh hP hK hl hg;go_wp2_with fail
      first | exact hf | (refine bodyPost_ret (results_none rfl _ _ _) rfl ?_;exact hf)
    | false =>
      obtain⟨y,hy⟩:∃ y,l[j]?=some y:=⟨_,List.getElem?_eq_getElem hjl⟩
      have hym:=hmemh.out y (List.mem_of_getElem? hy)
      obtain⟨Y,rfl⟩:∃ Y:Nat,y=(Y:Int):=⟨y.toNat,by omega⟩
      have c_g:=hg.at_ hch.out hy
      have hO:=hOh.out
      rw [List.drop_eq_getElem_cons hjl,show l[j]=(Y:Int) from by rw [List.getElem?_eq_getElem hjl] at hy;exact Option.some.inj hy] at hO
      have hOk:Hid (ROwes R encU B p w ((nodeE 4 D rs me (Y:Int)).bind fun _=>forP (fun x _=>nodeE 4 D rs me x) (l.drop (j+1)) ()) false S2):=Hd hO
      clear hO hOh hy
      obtain⟨k,hk⟩:∃ k,Y / 2=k+1:=⟨Y / 2-1,by omega⟩
      have hn2:(k+1)*4<=rs.length:=by have:=hlenh.out;omega
      have hlen9:rs.length<=1000000:=by have:=hlenh.out;omega
      have hq1:IntKind.i64.wrap ((Y:Int) / 2)=(k:Int)+1:=by rw [IntWalk.i64_in _ (by omega)];omega
      have hq2:(Y:Int).tmod 2=(Y:Int) % 2:=Int.tmod_eq_emod_of_nonneg (by omega)
      have hq3:=IntWalk.i64_in (4*(k:Int)) (by omega)
      have hq4:=IntWalk.i64_in (4*((k:Int)+1)) (by omega)
      have hq5:(Y:Int) / 2=(k:Int)+1:=by omega
      obtain⟨c2,rfl⟩:∃ c2,c=4*(k+1)+c2:=⟨c-4*(k+1),by omega⟩
      go_wp2_with fail
      rw [show 4*(k+1)-4*k=4 from by omega]
      have hc:=node_enter_r7 B p D (k+1) false S2 rs Y me b (4*(k+1)+c2-4*k) wr hP hl hallh.out hm0 (by omega) (by omega) hn2 hD
      rw [Nat.add_sub_cancel] at hc;clear hcc c_g
      refine rstepL hOk.out hK hc ?_
      clear hK hP hOk hc;intro u o3 S3 w5 hlf _ hP hk1 hK hO;replace hD:=Nat.lt_of_le_of_lt hlf hD;replace hg:=hg.keep hk1;replace hl:=hl.keep hk1;clear hk1 hlf
      have hf:=Hd hO
      clear hO;go_wp2_with fail
      refine⟨⟨j+1,o3,S3,by go_num,by omega,hP,hK,hg,hl,hD,hf⟩,?_⟩
      simp [intOf];omega
  · obtain rfl:j=l.length:=by omega
    have dl:decide ((l.length:Int)<(l.length:Int))=false:=by rw [decide_eq_false_iff_not];omega
    have hO:=hOh.out;rw [List.drop_length] at hO
    have hf:R (.returned (encU ())) wr:=hO.ret hP hK
    clear hO hOh hP hK hl hg;go_wp2_with fail
    first | exact hf | (refine bodyPost_ret (results_none rfl _ _ _) rfl ?_;exact hf)
set_option maxRecDepth 100000 in
set_option maxHeartbeats 2000000 in
theorem rdown_r7 (B p:Nat)(o:Bool)(S:TS)(kind:Int)(m place:Nat)(me:Int)(rs:List Reg)(A:Option Addr)(c:Nat)(w:World)(h:RAt B w p o S)(hk:kind=7)(h1:1<=m)(h2:m<=64)(h3:place<m)(hlen:rs.length=4*(2 ^ levels m-1))(hc1:rs.length<=c)(hc2:c<=9223372036854775807)
  (hreg:rs≠[]->∃ b,A=some ⟨b,0,none⟩/\RegsAt [3,4,5] w p b rs)(hall:∀ r∈rs,r.ok/\me<r.n/\r.told me)(hm0:0<=me) :
  Calls Tryz.prog 217 #[.pointer (some ⟨p,0,none⟩),.slice A rs.length c,V Z kind,V Z m,V Z place,V Z me] w (RPost encU B p w (forP (fun x _=>nodeL 4 rs me x) (pathL m place).reverse ()) o S):=by
 generalize hR:RPost encU B p w (forP (fun x _=>nodeL 4 rs me x) (pathL m place).reverse ()) o S=R
 have hO:ROwes R encU B p w (forP (fun x _=>nodeL 4 rs me x) (pathL m place).reverse ()) o S:=hR▸rowes _ _ _ _ _ _ _
 clear hR
 have hmem:=fun y (hy:y∈pathL m place)=>pathL_mem h2 h3 hy
 have hPth:=fun w=>rpath_r m place w h1 h2 h3
 have hEa:=fun w=>each_r kind w
 unfold eachK at hEa;rw [if_pos hk] at hEa
 have hlv:=lev_le h2
 obtain⟨p1,p2⟩:=pow_le hlv
 have e:(2:Int) ^ levels m=((2 ^ levels m:Nat):Int):=by rw [Int.natCast_pow];rfl
 rw [e] at hmem
 have hll:(pathL m place).length<=128:=by
  have:=pathN_len (2 ^ levels m+place) (2 ^ levels m+place)
  unfold pathL
  omega
 clear e hlv
 generalize 2 ^ levels m=P at *
 generalize pathL m place=l at *
 have hk7:(kind==7)=true:=by simp [hk]
 have hmemh:=Hd hmem
 have hallh:=Hd hall
 have hlenh:=Hd hlen
 have hOh:=Hd hO;clear hk hmem hall hlen hO
 go_enter Tryz.func217,Tryz.ntmps217
 go_wp2_with fail
 refine (hPth _).mono ?_
 rintro e w2 ⟨v3,rfl,hrow,hx2⟩
 obtain⟨A3,c3,rfl,hR⟩:=RowH.of_row (p:=p) (ix:=[3,4,5]) hrow (fun b hb=>h.fresh hx2 hb)
 have hK:=Keep.of_ext (ix:=[3,4,5]) (B:=B) hx2 h.lt h.le
 have hP:=h.ext hx2
 have hreg2:rs≠[]->∃ b,A=some ⟨b,0,none⟩/\RegsAt [3,4,5] w2 p b rs:=fun hne=>by
  obtain⟨b,e1,e2⟩:=hreg hne
  exact⟨b,e1,e2.extL hx2 h.lt⟩
 clear hx2 h hreg hrow hPth;go_wp2_with fail
 refine (hEa _).mono ?_
 rintro e w' ⟨rfl,rfl⟩;clear hEa
 by_cases hl0:l=[]
 · subst hl0
   have hf:R (.returned (encU ())) w2:=hOh.out.ret hP hK
   clear hOh hmemh hR hreg2 hallh hlenh;go_wp2_with fail
   go_loopw [14] (fun i wr=>i=V Z (-1)/\w2=wr) (fun _ _=>0)
   case atStart=>exact⟨rfl,rfl⟩
   case round =>
    obtain⟨rfl,rfl⟩:=hrel
    go_wp2_with fail
    first | exact hf | (refine bodyPost_ret (results_none rfl _ _ _) rfl ?_;exact hf)
 obtain⟨g,cur,rfl,hg,hcur⟩:=hR hl0
 obtain⟨b,rfl,hl⟩:=hreg2 (by
  obtain⟨y,l',rfl⟩:∃ y l',l=y :: l':=by cases l with | nil=>exact absurd rfl hl0 | cons y l'=>exact⟨y,l',rfl⟩
  have h1:=hmemh.out y (List.mem_cons_self ..)
  have h2:=hlenh.out;intro hne;rw [hne,List.length_nil] at h2
  omega)
 have hch:=Hd hcur
 clear hreg2 hR hl0 hcur
 have hq0:=IntWalk.i64_in ((l.length:Int)-1) (by omega)
 go_wp2_with fail
 go_loopw [14] (fun i wr=>∃ (j:Nat) (o2:Bool) (S2:TS),i=V Z ((j:Int)-1)/\j<=l.length/\RAt B wr p o2 S2/\KeepR B p w wr/\HeldR wr p g (.cells cur 3)/\RegsAt [3,4,5] wr p b rs/\Hid (ROwes R encU B p w (forP (fun x _=>nodeL 4 rs me x) (l.take j).reverse ()) o2 S2)) (fun i _=>(intOf i+1).toNat)
 case atStart=>exact⟨l.length,o,S,rfl,by omega,hP,hK,hg,hl,by rw [List.take_length];exact hOh⟩
 case round =>
  clear hP hK hg hl hOh hq0
  obtain⟨j,o2,S2,rfl,hj,hP,hK,hg,hl,hOh⟩:=hrel
  obtain⟨_,_,_,_,_,hcc⟩:=hP.cell
  cases j with
  | succ j =>
    have hjl:j<l.length:=by omega
    rw [show (((j+1:Nat):Int)-1)=(j:Int) from by omega]
    have dl:decide ((0:Int)<=(j:Int))=true:=by rw [decide_eq_true_eq];omega
    cases o2 with
    | true =>
      have hf:R (.returned (encU ())) wr:=hOh.out.over () hP hK
      clear hOh hP hK hl hg;go_wp2_with fail
      first | exact hf | (refine bodyPost_ret (results_none rfl _ _ _) rfl ?_;exact hf)
    | false =>
      obtain⟨y,hy⟩:∃ y,l[j]?=some y:=⟨_,List.getElem?_eq_getElem hjl⟩
      have hym:=hmemh.out y (List.mem_of_getElem? hy)
      obtain⟨Y,rfl⟩:∃ Y:Nat,y=(Y:Int):=⟨y.toNat,by omega⟩
      have c_g:=hg.at_ hch.out hy
      have hO:=hOh.out;rw [List.take_add_one,hy,Option.toList_some,List.reverse_append] at hO
      have hOk:Hid (ROwes R encU B p w ((nodeL 4 rs me (Y:Int)).bind fun _=>forP (fun x _=>nodeL 4 rs me x) (l.take j).reverse ()) false S2):=Hd hO
      clear hO hOh hy
      obtain⟨k,hk⟩:∃ k,Y / 2=k+1:=⟨Y / 2-1,by omega⟩
      have hn2:(k+1)*4<=rs.length:=by have:=hlenh.out;omega
      have hlen9:rs.length<=1000000:=by have:=hlenh.out;omega
      have hq1:IntKind.i64.wrap ((Y:Int) / 2)=(k:Int)+1:=by rw [IntWalk.i64_in _ (by omega)];omega
      have hq2:(Y:Int).tmod 2=(Y:Int) % 2:=Int.tmod_eq_emod_of_nonneg (by omega)
      have hq3:=IntWalk.i64_in (4*(k:Int)) (by omega)
      have hq4:=IntWalk.i64_in (4*((k:Int)+1)) (by omega)
      have hq5:(Y:Int) / 2=(k:Int)+1:=by omega
      have hq6:=IntWalk.i64_in ((j:Int)-1) (by omega)
      have hq7:=IntWalk.i64_in ((k:Int)+1) (by omega)
      have hq8:=IntWalk.i64_in (k:Int) (by omega)
      obtain⟨c2,rfl⟩:∃ c2,c=4*(k+1)+c2:=⟨c-4*(k+1),by omega⟩
      have f8:(k:Int)<=(k:Int)+1:=by omega
      have f1:(0:Int)<=4*((k:Int)+1):=by omega
      have f2:(4:Int)*((k:Int)+1)<=4*((k:Int)+1)+(c2:Int):=by omega
      have f3:(0:Int)<=4*(k:Int):=by omega
      have f4:(4:Int)*(k:Int)<=max (4*((k:Int)+1)) 0:=by omega
      have f5:((4:Int)*((k:Int)+1)).toNat=4*(k+1):=by omega
      have f6:((4:Int)*(k:Int)).toNat=4*k:=by omega
      have f7:¬ (4*(k+1)+c2=4*k):=by omega
      go_wp2_with fail
      have hS:∀ w',HeldR w' p g (.cells cur 3)->w'.cell? ⟨g,j,none⟩=some (V Z (Y:Int)):=fun w' x=>by
       rw [<- c_g,x.cells,hg.cells]
      have hgw:=hg
      refine wp_region_held_drew (S:=fun w'=>w'.cell? ⟨g,j,none⟩=some (V Z (Y:Int))) rfl (hS _ hg) (fun hHeld=>?_)
      replace hl:=hl.extL (Ext.refl wr).drew hP.lt
      replace hP:=hP.drew;replace hK:=hK.drew;replace hg:=hg.drew
      refine tkb 0 ?_
      iterate 16
       refine tkn (v:=?_) rfl (by kernel_rfl) (fun _ _ _ h=>h) (by assumption) ?_ ?_
       rotate_left
       · (intro w hSw;(try dsimp only at hSw);go_simp;try with_reducible rfl)
       try simp only [put_pack]
      refine tke ?_
      refine wpAnyH_ready (rs:=[16]) (by kernel_rfl) (by simp) ?_
      refine AllReadyH.cons rfl (fun K hKK=>?_) (AllReadyH.nil)
      go_simp
      rw [show 4*(k+1)-4*k=4 from by omega]
      have hc:=node_leave_r7 B p (k+1) false S2 rs Y me b (4*(k+1)+c2-4*k) wr.drew hP hl hallh.out hm0 (by omega) (by omega) hn2
      rw [Nat.add_sub_cancel] at hc;clear hcc
      refine rstepL hOk.out hK hc ?_
      clear hK hP hOk hc;intro u o3 S3 w5 hlf _ hP hk1 hK hO;replace hg:=hg.keep hk1;replace hl:=hl.keep hk1;clear hk1 hlf
      refine hKK.out _ _ (by rw [hg.cells,<- c_g];exact (hgw.cells j).symm) (fun hHeld=>?_)
      clear hKK K
      try dsimp only
      refine wpAnyH_done (by kernel_rfl) ?_ _
      go_simp
      have hf:=Hd hO
      clear hO hS c_g;go_wp2_with fail
      refine⟨⟨j,o3,S3,by go_num,by omega,hP,hK,hg,hl,hf⟩,?_⟩
      simp [intOf]
  | zero =>
    have dl:decide ((0:Int)<=-1)=false:=rfl
    have hO:=hOh.out
    have hf:R (.returned (encU ())) wr:=hO.ret hP hK
    clear hO hOh hP hK hl hg;go_wp2_with fail
    first | exact hf | (refine bodyPost_ret (results_none rfl _ _ _) rfl ?_;exact hf)
theorem node_enter_q3 (B p D n:Nat)(o:Bool)(S:TS)(rs T:List Reg)(q:Nat)(hT:T=rs.drop q)(x me:Int)(b c:Nat)(w:World)(h:RAt B w p o S)(hl:RegsAt [3,4,5] w p b rs)(hall:∀ r∈T,r.ok/\me<r.n/\r.told me)(hm0:0<=me)(hn:x / 2=n)(hn1:1<=n)(hn2:n*3<=T.length)(hD:S.left<D) :
  Calls Tryz.prog 266 #[.pointer (some ⟨p,0,none⟩),.slice (some ⟨b,(q+3*(n-1))*7,none⟩) 3 c,V Z (x % 2),V Z me] w (RPost encU B p w (nodeE 3 D T me x) o S):=by
 have hsh:∀ i,i<T.length->rs[q+i]?=some (nthR T i):=fun i hi=>by
  have:=nthR_of (rs:=T) (i:=i) hi
  rw [hT,List.getElem?_drop] at this
  rw [hT]
  exact this
 unfold nodeE
 rw [if_neg (by decide),hn,Int.toNat_natCast]
 obtain⟨k0,l0,t0⟩:=hall _ (List.mem_of_getElem? (nthR_of (rs:=T) (i:=3*(n-1)) (by omega)))
 obtain⟨k1,l1,t1⟩:=hall _ (List.mem_of_getElem? (nthR_of (rs:=T) (i:=3*(n-1)+1) (by omega)))
 obtain⟨k2,l2,t2⟩:=hall _ (List.mem_of_getElem? (nthR_of (rs:=T) (i:=3*(n-1)+2) (by omega)))
 exact darbn_enter_r B p D o S _ _ _ (x % 2) me b c (q+3*(n-1)) rs w h hl ⟨hsh (3*(n-1)) (by omega),hsh (3*(n-1)+1) (by omega),hsh (3*(n-1)+2) (by omega)⟩ k0 k1 k2 hm0 l0 l1 l2 t0 t1 hD
theorem node_leave_q3 (B p n:Nat)(o:Bool)(S:TS)(rs T:List Reg)(q:Nat)(hT:T=rs.drop q)(x me:Int)(b c:Nat)(w:World)(h:RAt B w p o S)(hl:RegsAt [3,4,5] w p b rs)(hall:∀ r∈T,r.ok/\me<r.n/\r.told me)(hm0:0<=me)(hn:x / 2=n)(hn1:1<=n)(hn2:n*3<=T.length) :
  Calls Tryz.prog 271 #[.pointer (some ⟨p,0,none⟩),.slice (some ⟨b,(q+3*(n-1))*7,none⟩) 3 c,V Z (x % 2),V Z me] w (RPost encU B p w (nodeL 3 T me x) o S):=by
 have hsh:∀ i,i<T.length->rs[q+i]?=some (nthR T i):=fun i hi=>by
  have:=nthR_of (rs:=T) (i:=i) hi
  rw [hT,List.getElem?_drop] at this
  rw [hT]
  exact this
 unfold nodeL
 rw [hn,Int.toNat_natCast]
 obtain⟨k0,l0,t0⟩:=hall _ (List.mem_of_getElem? (nthR_of (rs:=T) (i:=3*(n-1)) (by omega)))
 obtain⟨k1,l1,t1⟩:=hall _ (List.mem_of_getElem? (nthR_of (rs:=T) (i:=3*(n-1)+1) (by omega)))
 obtain⟨k2,l2,t2⟩:=hall _ (List.mem_of_getElem? (nthR_of (rs:=T) (i:=3*(n-1)+2) (by omega)))
 exact darbn_leave_r B p o S _ _ (nthR T (3*(n-1)+2)) (x % 2) me b c (q+3*(n-1)) rs w h hl ⟨hsh (3*(n-1)) (by omega),hsh (3*(n-1)+1) (by omega),hsh (3*(n-1)+2) (by omega)⟩ k0 k1 hm0 l0 l1
set_option maxRecDepth 100000 in
set_option maxHeartbeats 2000000 in
theorem rclimb_q3 (B p D:Nat)(o:Bool)(S:TS)(kind:Int)(m place:Nat)(me:Int)(rs T:List Reg)(q:Nat)(hT:T=rs.drop q)(A:Option Addr)(c:Nat)(w:World)(h:RAt B w p o S)(hk:kind≠7)(h1:1<=m)(h2:m<=64)(h3:place<m)(hlen:T.length=3*(2 ^ levels m-1))(hc1:T.length<=c)(hc2:c<=9223372036854775807)
  (hreg:T≠[]->∃ b,A=some ⟨b,q*7,none⟩/\RegsAt [3,4,5] w p b rs)(hall:∀ r∈T,r.ok/\me<r.n/\r.told me)(hm0:0<=me)(hD:S.left<D) :
  Calls Tryz.prog 210 #[.pointer (some ⟨p,0,none⟩),.slice A T.length c,V Z kind,V Z m,V Z place,V Z me] w (RPost encU B p w (forP (fun x _=>nodeE 3 D T me x) (pathL m place) ()) o S):=by
 generalize hR:RPost encU B p w (forP (fun x _=>nodeE 3 D T me x) (pathL m place) ()) o S=R
 have hO:ROwes R encU B p w (forP (fun x _=>nodeE 3 D T me x) (pathL m place) ()) o S:=hR▸rowes _ _ _ _ _ _ _
 clear hR
 have hTh:=Hd hT
 clear hT
 have hmem:=fun y (hy:y∈pathL m place)=>pathL_mem h2 h3 hy
 have hPth:=fun w=>rpath_r m place w h1 h2 h3
 have hEa:=fun w=>each_r kind w
 unfold eachK at hEa;rw [if_neg hk] at hEa
 have hlv:=lev_le h2
 obtain⟨p1,p2⟩:=pow_le hlv
 have e:(2:Int) ^ levels m=((2 ^ levels m:Nat):Int):=by rw [Int.natCast_pow];rfl
 rw [e] at hmem
 have hll:(pathL m place).length<=128:=by
  have:=pathN_len (2 ^ levels m+place) (2 ^ levels m+place)
  unfold pathL
  omega
 clear e hlv
 generalize 2 ^ levels m=P at *
 generalize pathL m place=l at *
 have hk7:(kind==7)=false:=by simp [hk]
 have hmemh:=Hd hmem
 have hallh:=Hd hall
 have hlenh:=Hd hlen
 have hOh:=Hd hO;clear hk hmem hall hlen hO
 go_enter Tryz.func210,Tryz.ntmps210
 go_wp2_with fail
 refine (hPth _).mono ?_
 rintro e w2 ⟨v3,rfl,hrow,hx2⟩
 obtain⟨A3,c3,rfl,hR⟩:=RowH.of_row (p:=p) (ix:=[3,4,5]) hrow (fun b hb=>h.fresh hx2 hb)
 have hK:=Keep.of_ext (ix:=[3,4,5]) (B:=B) hx2 h.lt h.le
 have hP:=h.ext hx2
 have hreg2:T≠[]->∃ b,A=some ⟨b,q*7,none⟩/\RegsAt [3,4,5] w2 p b rs:=fun hne=>by
  obtain⟨b,e1,e2⟩:=hreg hne
  exact⟨b,e1,e2.extL hx2 h.lt⟩
 clear hx2 h hreg hrow hPth;go_wp2_with fail
 refine (hEa _).mono ?_
 rintro e w' ⟨rfl,rfl⟩;clear hEa
 by_cases hl0:l=[]
 · subst hl0
   have hf:R (.returned (encU ())) w2:=hOh.out.ret hP hK
   clear hOh hmemh hR hreg2 hallh hlenh;go_wp2_with fail
   go_loopw [14] (fun i wr=>i=V Z 0/\w2=wr) (fun _ _=>0)
   case atStart=>exact⟨rfl,rfl⟩
   case round =>
    obtain⟨rfl,rfl⟩:=hrel
    go_wp2_with fail
    first | exact hf | (refine bodyPost_ret (results_none rfl _ _ _) rfl ?_;exact hf)
 obtain⟨g,cur,rfl,hg,hcur⟩:=hR hl0
 obtain⟨b,rfl,hl⟩:=hreg2 (by
  obtain⟨y,l',rfl⟩:∃ y l',l=y :: l':=by cases l with | nil=>exact absurd rfl hl0 | cons y l'=>exact⟨y,l',rfl⟩
  have h1:=hmemh.out y (List.mem_cons_self ..)
  have h2:=hlenh.out;intro hne;rw [hne,List.length_nil] at h2
  omega)
 have hch:=Hd hcur
 clear hreg2 hR hl0 hcur;go_wp2_with fail
 go_loopw [14] (fun i wr=>∃ (j:Nat) (o2:Bool) (S2:TS),i=V Z j/\j<=l.length/\RAt B wr p o2 S2/\KeepR B p w wr/\HeldR wr p g (.cells cur 3)/\RegsAt [3,4,5] wr p b rs/\S2.left<D/\Hid (ROwes R encU B p w (forP (fun x _=>nodeE 3 D T me x) (l.drop j) ()) o2 S2)) (fun i _=>l.length-(intOf i).toNat)
 case atStart=>exact⟨0,o,S,rfl,by omega,hP,hK,hg,hl,hD,hOh⟩
 case round =>
  clear hP hK hg hl hD hOh
  obtain⟨j,o2,S2,rfl,hj,hP,hK,hg,hl,hD,hOh⟩:=hrel
  obtain⟨_,_,_,_,_,hcc⟩:=hP.cell
  by_cases hjl:j<l.length
  · have dl:decide ((j:Int)<(l.length:Int))=true:=by rw [decide_eq_true_eq];omega
    cases o2 with
    | true =>
      have hf:R (.returned (encU ())) wr:=hOh.out.over () hP hK
      clear hOh hP hK hl hg;go_wp2_with fail
      first | exact hf | (refine bodyPost_ret (results_none rfl _ _ _) rfl ?_;exact hf)
    | false =>
      obtain⟨y,hy⟩:∃ y,l[j]?=some y:=⟨_,List.getElem?_eq_getElem hjl⟩
      have hym:=hmemh.out y (List.mem_of_getElem? hy)
      obtain⟨Y,rfl⟩:∃ Y:Nat,y=(Y:Int):=⟨y.toNat,by omega⟩
      have c_g:=hg.at_ hch.out hy
      have hO:=hOh.out
      rw [List.drop_eq_getElem_cons hjl,show l[j]=(Y:Int) from by rw [List.getElem?_eq_getElem hjl] at hy;exact Option.some.inj hy] at hO
      have hOk:Hid (ROwes R encU B p w ((nodeE 3 D T me (Y:Int)).bind fun _=>forP (fun x _=>nodeE 3 D T me x) (l.drop (j+1)) ()) false S2):=Hd hO
      clear hO hOh hy
      obtain⟨k,hk⟩:∃ k,Y / 2=k+1:=⟨Y / 2-1,by omega⟩
      have hn2:(k+1)*3<=T.length:=by have:=hlenh.out;omega
      have hlen9:T.length<=1000000:=by have:=hlenh.out;omega
      have hq1:IntKind.i64.wrap ((Y:Int) / 2)=(k:Int)+1:=by rw [IntWalk.i64_in _ (by omega)];omega
      have hq2:(Y:Int).tmod 2=(Y:Int) % 2:=Int.tmod_eq_emod_of_nonneg (by omega)
      have hq3:=IntWalk.i64_in (3*(k:Int)) (by omega)
      have hq4:=IntWalk.i64_in (3*((k:Int)+1)) (by omega)
      have hq5:(Y:Int) / 2=(k:Int)+1:=by omega
      obtain⟨c2,rfl⟩:∃ c2,c=3*(k+1)+c2:=⟨c-3*(k+1),by omega⟩
      go_wp2_with fail
      rw [show 3*(k+1)-3*k=3 from by omega,show q*7+3*k*7=(q+3*k)*7 from by omega]
      have hc:=node_enter_q3 B p D (k+1) false S2 rs T q hTh.out Y me b (3*(k+1)+c2-3*k) wr hP hl hallh.out hm0 (by omega) (by omega) hn2 hD
      rw [Nat.add_sub_cancel] at hc;clear hcc c_g
      refine rstepL hOk.out hK hc ?_
      clear hK hP hOk hc;intro u o3 S3 w5 hlf _ hP hk1 hK hO;replace hD:=Nat.lt_of_le_of_lt hlf hD;replace hg:=hg.keep hk1;replace hl:=hl.keep hk1;clear hk1 hlf
      have hf:=Hd hO
      clear hO;go_wp2_with fail
      refine⟨⟨j+1,o3,S3,by go_num,by omega,hP,hK,hg,hl,hD,hf⟩,?_⟩
      simp [intOf];omega
  · obtain rfl:j=l.length:=by omega
    have dl:decide ((l.length:Int)<(l.length:Int))=false:=by rw [decide_eq_false_iff_not];omega
    have hO:=hOh.out;rw [List.drop_length] at hO
    have hf:R (.returned (encU ())) wr:=hO.ret hP hK
    clear hO hOh hP hK hl hg;go_wp2_with fail
    first | exact hf | (refine bodyPost_ret (results_none rfl _ _ _) rfl ?_;exact hf)
set_option maxRecDepth 100000 in
set_option maxHeartbeats 2000000 in
theorem rdown_q3 (B p:Nat)(o:Bool)(S:TS)(kind:Int)(m place:Nat)(me:Int)(rs T:List Reg)(q:Nat)(hT:T=rs.drop q)(A:Option Addr)(c:Nat)(w:World)(h:RAt B w p o S)(hk:kind≠7)(h1:1<=m)(h2:m<=64)(h3:place<m)(hlen:T.length=3*(2 ^ levels m-1))(hc1:T.length<=c)(hc2:c<=9223372036854775807)
  (hreg:T≠[]->∃ b,A=some ⟨b,q*7,none⟩/\RegsAt [3,4,5] w p b rs)(hall:∀ r∈T,r.ok/\me<r.n/\r.told me)(hm0:0<=me) :
  Calls Tryz.prog 217 #[.pointer (some ⟨p,0,none⟩),.slice A T.length c,V Z kind,V Z m,V Z place,V Z me] w (RPost encU B p w (forP (fun x _=>nodeL 3 T me x) (pathL m place).reverse ()) o S):=by
 generalize hR:RPost encU B p w (forP (fun x _=>nodeL 3 T me x) (pathL m place).reverse ()) o S=R
 have hO:ROwes R encU B p w (forP (fun x _=>nodeL 3 T me x) (pathL m place).reverse ()) o S:=hR▸rowes _ _ _ _ _ _ _
 clear hR
 have hTh:=Hd hT
 clear hT
 have hmem:=fun y (hy:y∈pathL m place)=>pathL_mem h2 h3 hy
 have hPth:=fun w=>rpath_r m place w h1 h2 h3
 have hEa:=fun w=>each_r kind w
 unfold eachK at hEa;rw [if_neg hk] at hEa
 have hlv:=lev_le h2
 obtain⟨p1,p2⟩:=pow_le hlv
 have e:(2:Int) ^ levels m=((2 ^ levels m:Nat):Int):=by rw [Int.natCast_pow];rfl
 rw [e] at hmem
 have hll:(pathL m place).length<=128:=by
  have:=pathN_len (2 ^ levels m+place) (2 ^ levels m+place)
  unfold pathL
  omega
 clear e hlv
 generalize 2 ^ levels m=P at *
 generalize pathL m place=l at *
 have hk7:(kind==7)=false:=by simp [hk]
 have hmemh:=Hd hmem
 have hallh:=Hd hall
 have hlenh:=Hd hlen
 have hOh:=Hd hO;clear hk hmem hall hlen hO
 go_enter Tryz.func217,Tryz.ntmps217
 go_wp2_with fail
 refine (hPth _).mono ?_
 rintro e w2 ⟨v3,rfl,hrow,hx2⟩
 obtain⟨A3,c3,rfl,hR⟩:=RowH.of_row (p:=p) (ix:=[3,4,5]) hrow (fun b hb=>h.fresh hx2 hb)
 have hK:=Keep.of_ext (ix:=[3,4,5]) (B:=B) hx2 h.lt h.le
 have hP:=h.ext hx2
 have hreg2:T≠[]->∃ b,A=some ⟨b,q*7,none⟩/\RegsAt [3,4,5] w2 p b rs:=fun hne=>by
  obtain⟨b,e1,e2⟩:=hreg hne
  exact⟨b,e1,e2.extL hx2 h.lt⟩
 clear hx2 h hreg hrow hPth;go_wp2_with fail
 refine (hEa _).mono ?_
 rintro e w' ⟨rfl,rfl⟩;clear hEa
 by_cases hl0:l=[]
 · subst hl0
   have hf:R (.returned (encU ())) w2:=hOh.out.ret hP hK
   clear hOh hmemh hR hreg2 hallh hlenh;go_wp2_with fail
   go_loopw [14] (fun i wr=>i=V Z (-1)/\w2=wr) (fun _ _=>0)
   case atStart=>exact⟨rfl,rfl⟩
   case round =>
    obtain⟨rfl,rfl⟩:=hrel
    go_wp2_with fail
    first | exact hf | (refine bodyPost_ret (results_none rfl _ _ _) rfl ?_;exact hf)
 obtain⟨g,cur,rfl,hg,hcur⟩:=hR hl0
 obtain⟨b,rfl,hl⟩:=hreg2 (by
  obtain⟨y,l',rfl⟩:∃ y l',l=y :: l':=by cases l with | nil=>exact absurd rfl hl0 | cons y l'=>exact⟨y,l',rfl⟩
  have h1:=hmemh.out y (List.mem_cons_self ..)
  have h2:=hlenh.out;intro hne;rw [hne,List.length_nil] at h2
  omega)
 have hch:=Hd hcur
 clear hreg2 hR hl0 hcur
 have hq0:=IntWalk.i64_in ((l.length:Int)-1) (by omega)
 go_wp2_with fail
 go_loopw [14] (fun i wr=>∃ (j:Nat) (o2:Bool) (S2:TS),i=V Z ((j:Int)-1)/\j<=l.length/\RAt B wr p o2 S2/\KeepR B p w wr/\HeldR wr p g (.cells cur 3)/\RegsAt [3,4,5] wr p b rs/\Hid (ROwes R encU B p w (forP (fun x _=>nodeL 3 T me x) (l.take j).reverse ()) o2 S2)) (fun i _=>(intOf i+1).toNat)
 case atStart=>exact⟨l.length,o,S,rfl,by omega,hP,hK,hg,hl,by rw [List.take_length];exact hOh⟩
 case round =>
  clear hP hK hg hl hOh hq0
  obtain⟨j,o2,S2,rfl,hj,hP,hK,hg,hl,hOh⟩:=hrel
  obtain⟨_,_,_,_,_,hcc⟩:=hP.cell
  cases j with
  | succ j =>
    have hjl:j<l.length:=by omega
    rw [show (((j+1:Nat):Int)-1)=(j:Int) from by omega]
    have dl:decide ((0:Int)<=(j:Int))=true:=by rw [decide_eq_true_eq];omega
    cases o2 with
    | true =>
      have hf:R (.returned (encU ())) wr:=hOh.out.over () hP hK
      clear hOh hP hK hl hg;go_wp2_with fail
      first | exact hf | (refine bodyPost_ret (results_none rfl _ _ _) rfl ?_;exact hf)
    | false =>
      obtain⟨y,hy⟩:∃ y,l[j]?=some y:=⟨_,List.getElem?_eq_getElem hjl⟩
      have hym:=hmemh.out y (List.mem_of_getElem? hy)
      obtain⟨Y,rfl⟩:∃ Y:Nat,y=(Y:Int):=⟨y.toNat,by omega⟩
      have c_g:=hg.at_ hch.out hy
      have hO:=hOh.out;rw [List.take_add_one,hy,Option.toList_some,List.reverse_append] at hO
      have hOk:Hid (ROwes R encU B p w ((nodeL 3 T me (Y:Int)).bind fun _=>forP (fun x _=>nodeL 3 T me x) (l.take j).reverse ()) false S2):=Hd hO
      clear hO hOh hy
      obtain⟨k,hk⟩:∃ k,Y / 2=k+1:=⟨Y / 2-1,by omega⟩
      have hn2:(k+1)*3<=T.length:=by have:=hlenh.out;omega
      have hlen9:T.length<=1000000:=by have:=hlenh.out;omega
      have hq1:IntKind.i64.wrap ((Y:Int) / 2)=(k:Int)+1:=by rw [IntWalk.i64_in _ (by omega)];omega
      have hq2:(Y:Int).tmod 2=(Y:Int) % 2:=Int.tmod_eq_emod_of_nonneg (by omega)
      have hq3:=IntWalk.i64_in (3*(k:Int)) (by omega)
      have hq4:=IntWalk.i64_in (3*((k:Int)+1)) (by omega)
      have hq5:(Y:Int) / 2=(k:Int)+1:=by omega
      have hq6:=IntWalk.i64_in ((j:Int)-1) (by omega)
      have hq7:=IntWalk.i64_in ((k:Int)+1) (by omega)
      have hq8:=IntWalk.i64_in (k:Int) (by omega)
      obtain⟨c2,rfl⟩:∃ c2,c=3*(k+1)+c2:=⟨c-3*(k+1),by omega⟩
      have f8:(k:Int)<=(k:Int)+1:=by omega
      have f1:(0:Int)<=3*((k:Int)+1):=by omega
      have f2:(3:Int)*((k:Int)+1)<=3*((k:Int)+1)+(c2:Int):=by omega
      have f3:(0:Int)<=3*(k:Int):=by omega
      have f4:(3:Int)*(k:Int)<=max (3*((k:Int)+1)) 0:=by omega
      have f5:((3:Int)*((k:Int)+1)).toNat=3*(k+1):=by omega
      have f6:((3:Int)*(k:Int)).toNat=3*k:=by omega
      have f7:¬ (3*(k+1)+c2=3*k):=by omega
      go_wp2_with fail
      have hS:∀ w',HeldR w' p g (.cells cur 3)->w'.cell? ⟨g,j,none⟩=some (V Z (Y:Int)):=fun w' x=>by
       rw [<- c_g,x.cells,hg.cells]
      have hgw:=hg
      refine wp_region_held_drew (S:=fun w'=>w'.cell? ⟨g,j,none⟩=some (V Z (Y:Int))) rfl (hS _ hg) (fun hHeld=>?_)
      replace hl:=hl.extL (Ext.refl wr).drew hP.lt
      replace hP:=hP.drew;replace hK:=hK.drew;replace hg:=hg.drew
      refine tkb 0 ?_
      iterate 16
       refine tkn (v:=?_) rfl (by kernel_rfl) (fun _ _ _ h=>h) (by assumption) ?_ ?_
       rotate_left
       · (intro w hSw;(try dsimp only at hSw);go_simp;try with_reducible rfl)
       try simp only [put_pack]
      refine tke ?_
      refine wpAnyH_ready (rs:=[16]) (by kernel_rfl) (by simp) ?_
      refine AllReadyH.cons rfl (fun K hKK=>?_) (AllReadyH.nil)
      go_simp
      rw [show 3*(k+1)-3*k=3 from by omega,show q*7+3*k*7=(q+3*k)*7 from by omega]
      have hc:=node_leave_q3 B p (k+1) false S2 rs T q hTh.out Y me b (3*(k+1)+c2-3*k) wr.drew hP hl hallh.out hm0 (by omega) (by omega) hn2
      rw [Nat.add_sub_cancel] at hc;clear hcc
      refine rstepL hOk.out hK hc ?_
      clear hK hP hOk hc;intro u o3 S3 w5 hlf _ hP hk1 hK hO;replace hg:=hg.keep hk1;replace hl:=hl.keep hk1;clear hk1 hlf
      refine hKK.out _ _ (by rw [hg.cells,<- c_g];exact (hgw.cells j).symm) (fun hHeld=>?_)
      clear hKK K
      try dsimp only
      refine wpAnyH_done (by kernel_rfl) ?_ _
      go_simp
      have hf:=Hd hO
      clear hO hS c_g;go_wp2_with fail
      refine⟨⟨j,o3,S3,by go_num,by omega,hP,hK,hg,hl,hf⟩,?_⟩
      simp [intOf]
  | zero =>
    have dl:decide ((0:Int)<=-1)=false:=rfl
    have hO:=hOh.out
    have hf:R (.returned (encU ())) wr:=hO.ret hP hK
    clear hO hOh hP hK hl hg;go_wp2_with fail
    first | exact hf | (refine bodyPost_ret (results_none rfl _ _ _) rfl ?_;exact hf)
theorem rclimb_r (B p D:Nat)(o:Bool)(S:TS)(kind:Int)(m place:Nat)(me:Int)(rs:List Reg)(A:Option Addr)(c:Nat)(w:World)(h:RAt B w p o S)(h1:1<=m)(h2:m<=64)(h3:place<m)(hlen:rs.length=eachK kind*(2 ^ levels m-1))(hc1:rs.length<=c)(hc2:c<=9223372036854775807)
  (hreg:rs≠[]->∃ b,A=some ⟨b,0,none⟩/\RegsAt [3,4,5] w p b rs)(hall:∀ r∈rs,r.ok/\me<r.n/\r.told me)(hm0:0<=me)(hD:S.left<D) :
  Calls Tryz.prog 210 #[.pointer (some ⟨p,0,none⟩),.slice A rs.length c,V Z kind,V Z m,V Z place,V Z me] w (RPost encU B p w (forP (fun x _=>nodeE (eachK kind) D rs me x) (pathL m place) ()) o S):=by
 unfold eachK at *
 by_cases hk:kind=7
 · rw [if_pos hk] at *
   exact rclimb_r7 B p D o S kind m place me rs A c w h hk h1 h2 h3 hlen hc1 hc2 hreg hall hm0 hD
 · rw [if_neg hk] at *
   exact rclimb_q3 B p D o S kind m place me rs rs 0 rfl A c w h hk h1 h2 h3 hlen hc1 hc2 hreg hall hm0 hD
theorem rdown_r (B p:Nat)(o:Bool)(S:TS)(kind:Int)(m place:Nat)(me:Int)(rs:List Reg)(A:Option Addr)(c:Nat)(w:World)(h:RAt B w p o S)(h1:1<=m)(h2:m<=64)(h3:place<m)(hlen:rs.length=eachK kind*(2 ^ levels m-1))(hc1:rs.length<=c)(hc2:c<=9223372036854775807)
  (hreg:rs≠[]->∃ b,A=some ⟨b,0,none⟩/\RegsAt [3,4,5] w p b rs)(hall:∀ r∈rs,r.ok/\me<r.n/\r.told me)(hm0:0<=me) :
  Calls Tryz.prog 217 #[.pointer (some ⟨p,0,none⟩),.slice A rs.length c,V Z kind,V Z m,V Z place,V Z me] w (RPost encU B p w (forP (fun x _=>nodeL (eachK kind) rs me x) (pathL m place).reverse ()) o S):=by
 unfold eachK at *
 by_cases hk:kind=7
 · rw [if_pos hk] at *
   exact rdown_r7 B p o S kind m place me rs A c w h hk h1 h2 h3 hlen hc1 hc2 hreg hall hm0
 · rw [if_neg hk] at *
   exact rdown_q3 B p o S kind m place me rs rs 0 rfl A c w h hk h1 h2 h3 hlen hc1 hc2 hreg hall hm0
set_option maxRecDepth 100000 in
theorem treeregs_r (alg mode base loc room:Int)(N:Nat)(rs:List Reg)(w:World)(_h1:1<=N)(h2:N<=64)(hl:layM (treeWants (eachK alg) N) N mode base loc=some rs) :
  Calls Tryz.prog 211 #[.agg #[V Z alg,V Z N,V Z mode,V Z base,V Z loc,V Z room]] w fun e w'=>∃ A c,e=.returned (.slice A rs.length c)/\(rs≠[]->∃ b,A=some ⟨b,0,none⟩/\w.heap.size<=b/\b<w'.heap.size/\(∀ (i:Nat) u,(rs.flatMap regVals)[i]?=some u->w'.cell? ⟨b,i,none⟩=some u))/\rs.length<=c/\c<=9223372036854775807/\Ext w w':=by
 have hW:=fun w=>rtwants_r alg N w h2
 have hle:=(pow_le (lev_le h2)).2
 have hE:=each_le alg
 have hwl:(treeWants (eachK alg) N).length<=1000:=by
  unfold treeWants
  rw [List.length_replicate]
  have:=Nat.mul_le_mul hE.2 (show 2 ^ levels (N:Int)-1<=63 by omega)
  omega
 generalize treeWants (eachK alg) N=lw at *
 replace hl:=Hd hl;clear hle hE
 have hX:=Ext.refl w
 have b1:=Blk.new w (.cells #[V Z alg,V Z N,V Z mode,V Z base,V Z loc,V Z room] 23)
 replace hX:=hX.alloc (.cells #[V Z alg,V Z N,V Z mode,V Z base,V Z loc,V Z room] 23)
 have c_b1:=b1.cells
 go_enter Tryz.func211,Tryz.ntmps211
 go_wp2_with fail
 generalize w.alloc _=W at *
 have hXW:=hX;clear hX c_b1
 have hX:=(Ext.refl W).drew
 have hS:∀ w',Ext W w'->(∀ i,w'.cell? ⟨w.heap.size,i,none⟩=(#[V Z alg,V Z N,V Z mode,V Z base,V Z loc,V Z room]:Array Value)[i]?):=fun w' hx=>(b1.ext hx).cells
 go_region_held2 (fun w'=>∀ i,w'.cell? ⟨w.heap.size,i,none⟩=(#[V Z alg,V Z N,V Z mode,V Z base,V Z loc,V Z room]:Array Value)[i]?) (exact hS _ hX)
  (first
    | (go_at_call 180
       refine (hW _).mono ?_
       rintro e w2 ⟨v2,rfl,hw2,hx⟩
       replace hX:=hX.trans hx;have hz2:=hX.size
       clear hx)
    | (go_at_call 176
       refine (layr_some hl.out _ (hw2.ext (Ext.refl _)) hwl).mono ?_
       rintro e w3 ⟨v3,rfl,hr3,hx⟩
       replace hX:=hX.trans hx
       clear hx))
 rename_i hh
 clear hh
 obtain⟨⟨A,c,rfl,q1,q2,hV⟩,hown⟩:=hr3
 have hR:Hid (rs≠[]->∃ b,A=some ⟨b,0,none⟩/\w.heap.size<=b/\b<w3.heap.size/\(∀ (i:Nat) u,(rs.flatMap regVals)[i]?=some u->w3.cell? ⟨b,i,none⟩=some u)):=Hd fun hne=>by
  obtain⟨b,rfl,hb,hcells⟩:=hV (by cases rs with | nil=>exact absurd rfl hne | cons r l=>simp [regVals])
  exact⟨b,rfl,Nat.le_trans (Nat.le_trans hXW.size hz2) (hown b rfl),hb,hcells⟩
 have hfh:=Hd (hXW.trans hX)
 clear hV hown hz2;go_wp2_with fail
 go_ret
 exact⟨_,_,rfl,hR.out,q1,q2,hfh.out⟩
set_option maxRecDepth 100000 in
set_option maxHeartbeats 1000000 in
theorem treeacq_r (B p N D:Nat)(o:Bool)(S:TS)(alg mode base loc room:Int)(m:Nat)(rs:List Reg)(w:World)(h:RAt B w p o S)(h1:1<=N)(h2:N<=64)(hm1:m<N)(hl:layM (treeWants (eachK alg) N) N mode base loc=some rs)
  (hall:∀ r∈rs,r.ok/\(m:Int)<r.n/\r.told m)(hD:S.left<D)(hn0:S.nts.length<=100000) :
  Calls Tryz.prog 113 #[.pointer (some ⟨p,0,none⟩),.agg #[V Z alg,V Z N,V Z mode,V Z base,V Z loc,V Z room],V Z m] w (RPost encI B p w (treeA (eachK alg) D rs N m) o S):=by
 have hlen:=layM_len hl
 unfold treeWants at hlen;rw [List.length_replicate] at hlen
 generalize hR:RPost encI B p w (treeA (eachK alg) D rs N m) o S=R
 have hO:ROwes R encI B p w (treeA (eachK alg) D rs N m) o S:=hR▸rowes _ _ _ _ _ _ _
 clear hR
 obtain⟨b1,hK,hP⟩:=h.entry (.cells #[V Z alg,V Z N,V Z mode,V Z base,V Z loc,V Z room] 23)
 have c_b1:=b1.cells;clear h;unfold treeA at hO
 have hlh:=Hd hl
 have hlenh:=Hd hlen
 have hallh:=Hd hall
 clear hl hlen hall
 go_enter Tryz.func113,Tryz.ntmps113
 go_wp2_with fail
 generalize w.heap.size=z at *
 refine rstepN (notes_nt 1) hO hK (note_r B p o S 1 _ hP (by unfold maxAns;omega)) ?_
 clear hO hK hP c_b1;intro u o1 S1 w2 hlf _ hnn hP hk hK hO;replace hD:=Nat.lt_of_le_of_lt hlf hD
 replace hn0:S1.nts.length<=100001:=by omega
 replace b1:=b1.keep hk;clear hk hlf;have hOh:=Hd hO;clear hO;go_wp2_with fail
 have hX:=(Ext.refl w2).drew
 have hS:∀ w',HeldR w' p z (.cells #[V Z alg,V Z N,V Z mode,V Z base,V Z loc,V Z room] 23)->(∀ i,w'.cell? ⟨z,i,none⟩=(#[V Z alg,V Z N,V Z mode,V Z base,V Z loc,V Z room]:Array Value)[i]?):=fun w' x=>x.cells
 refine wp_region_held_drew (S:=fun w'=>∀ i,w'.cell? ⟨z,i,none⟩=(#[V Z alg,V Z N,V Z mode,V Z base,V Z loc,V Z room]:Array Value)[i]?) rfl (hS _ b1) (fun hHeld=>?_)
 replace hP:=hP.drew;replace hK:=hK.drew;replace b1:=b1.drew
 refine tk 0 (v:=?_) rfl (by kernel_rfl) (fun _ _ _ h=>h) (by assumption) ?_ ?_
 rotate_left
 · (intro w hSw;(try dsimp only at hSw);go_simp;try with_reducible rfl)
 try simp only [put_pack]
 refine tk 1 (v:=?_) rfl (by kernel_rfl) (fun _ _ _ h=>h) (by assumption) ?_ ?_
 rotate_left
 · (intro w hSw;(try dsimp only at hSw);go_simp;try with_reducible rfl)
 try simp only [put_pack]
 refine tkb 3 ?_
 iterate 6
  refine tkn (v:=?_) rfl (by kernel_rfl) (fun _ _ _ h=>h) (by assumption) ?_ ?_
  rotate_left
  · (intro w hSw;(try dsimp only at hSw);go_simp;try with_reducible rfl)
  try simp only [put_pack]
 refine tke ?_
 refine wpAnyH_ready (rs:=[2]) (by kernel_rfl) (by simp) ?_
 refine AllReadyH.cons rfl (fun K hKK=>?_) (AllReadyH.nil)
 go_simp
 refine (treeregs_r alg mode base loc room N rs _ h1 h2 hlh.out).mono ?_
 rintro e w3 ⟨A,c,rfl,hR,q1,q2,hx⟩
 have hreg:rs≠[]->∃ b,A=some ⟨b,0,none⟩/\RegsAt [3,4,5] w3 p b rs:=fun hne=>by
  obtain⟨b,e1,hge,hb,hcells⟩:=hR hne
  exact⟨b,e1,hb,hP.fresh hx hge,hcells⟩
 replace hK:=hK.trans (Keep.of_ext hx hP.lt hP.le);replace b1:=b1.ext hx hP.lt;replace hP:=hP.ext hx;clear hx hR hX
 refine hKK.out _ _ (hS _ b1) (fun hHeld=>?_)
 clear hKK K
 try dsimp only
 refine wpAnyH_ready (rs:=[9]) (by kernel_rfl) (by simp) ?_
 refine AllReadyH.cons rfl (fun K hKK=>?_) (AllReadyH.nil)
 go_simp
 refine rstepN (notes_forP (fun _ _=>notes_nodeE _ _ _ _ _) _ _) hOh.out hK (rclimb_r B p D o1 S1 alg N m m rs A c _ hP h1 h2 hm1 hlenh.out q1 q2 hreg hallh.out (by omega) hD) ?_
 clear hOh hK hP;intro u o2 S2 w4 _ _ hnn hP hk hK hO
 replace hn0:S2.nts.length<=100001:=by omega
 replace b1:=b1.keep hk;clear hk hreg
 refine hKK.out _ _ (hS _ b1) (fun hHeld=>?_)
 clear hKK K
 try dsimp only
 refine wpAnyH_done (by kernel_rfl) ?_ _
 go_simp
 have hOh:=Hd hO;clear hO hS;go_wp2_with fail
 refine rstepN (notes_nt 3) hOh.out hK (note_r B p o2 S2 3 _ hP (by unfold maxAns;omega)) ?_
 clear hOh hK hP;intro u o3 S3 w5 _ _ _ hP _ hK hO
 have hf:R (.returned (encI 0)) w5:=hO.ret hP hK
 clear hO hP hK;go_wp2_with fail
 first | exact hf | (go_ret;exact hf)
set_option maxRecDepth 100000 in
set_option maxHeartbeats 1000000 in
theorem treerel_r (B p N:Nat)(o:Bool)(S:TS)(alg mode base loc room:Int)(m:Nat)(rs:List Reg)(w:World)(h:RAt B w p o S)(h1:1<=N)(h2:N<=64)(hm1:m<N)(hl:layM (treeWants (eachK alg) N) N mode base loc=some rs)
  (hall:∀ r∈rs,r.ok/\(m:Int)<r.n/\r.told m)(hn0:S.nts.length<=100000) :
  Calls Tryz.prog 120 #[.pointer (some ⟨p,0,none⟩),.agg #[V Z alg,V Z N,V Z mode,V Z base,V Z loc,V Z room],V Z m] w (RPost encU B p w (treeR (eachK alg) rs N m) o S):=by
 have hlen:=layM_len hl
 unfold treeWants at hlen;rw [List.length_replicate] at hlen
 generalize hR:RPost encU B p w (treeR (eachK alg) rs N m) o S=R
 have hO:ROwes R encU B p w (treeR (eachK alg) rs N m) o S:=hR▸rowes _ _ _ _ _ _ _
 clear hR
 obtain⟨b1,hK,hP⟩:=h.entry (.cells #[V Z alg,V Z N,V Z mode,V Z base,V Z loc,V Z room] 23)
 have c_b1:=b1.cells;clear h;unfold treeR at hO
 have hlh:=Hd hl
 have hlenh:=Hd hlen
 have hallh:=Hd hall
 clear hl hlen hall
 go_enter Tryz.func120,Tryz.ntmps120
 go_wp2_with fail
 generalize w.heap.size=z at *
 refine rstepN (notes_nt 5) hO hK (note_r B p o S 5 _ hP (by unfold maxAns;omega)) ?_
 clear hO hK hP c_b1;intro u o1 S1 w2 _ _ _ hP hk hK hO;replace b1:=b1.keep hk;clear hk;have hOh:=Hd hO;clear hO;go_wp2_with fail
 have hS:∀ w',HeldR w' p z (.cells #[V Z alg,V Z N,V Z mode,V Z base,V Z loc,V Z room] 23)->(∀ i,w'.cell? ⟨z,i,none⟩=(#[V Z alg,V Z N,V Z mode,V Z base,V Z loc,V Z room]:Array Value)[i]?):=fun w' x=>x.cells
 refine wp_region_held_drew (S:=fun w'=>∀ i,w'.cell? ⟨z,i,none⟩=(#[V Z alg,V Z N,V Z mode,V Z base,V Z loc,V Z room]:Array Value)[i]?) rfl (hS _ b1) (fun hHeld=>?_)
 replace hP:=hP.drew;replace hK:=hK.drew;replace b1:=b1.drew
 refine tk 0 (v:=?_) rfl (by kernel_rfl) (fun _ _ _ h=>h) (by assumption) ?_ ?_
 rotate_left
 · (intro w hSw;(try dsimp only at hSw);go_simp;try with_reducible rfl)
 try simp only [put_pack]
 refine tk 1 (v:=?_) rfl (by kernel_rfl) (fun _ _ _ h=>h) (by assumption) ?_ ?_
 rotate_left
 · (intro w hSw;(try dsimp only at hSw);go_simp;try with_reducible rfl)
 try simp only [put_pack]
 refine tkb 3 ?_
 iterate 6
  refine tkn (v:=?_) rfl (by kernel_rfl) (fun _ _ _ h=>h) (by assumption) ?_ ?_
  rotate_left
  · (intro w hSw;(try dsimp only at hSw);go_simp;try with_reducible rfl)
  try simp only [put_pack]
 refine tke ?_
 refine wpAnyH_ready (rs:=[2]) (by kernel_rfl) (by simp) ?_
 refine AllReadyH.cons rfl (fun K hKK=>?_) (AllReadyH.nil)
 go_simp
 refine (treeregs_r alg mode base loc room N rs _ h1 h2 hlh.out).mono ?_
 rintro e w3 ⟨A,c,rfl,hR,q1,q2,hx⟩
 have hreg:rs≠[]->∃ b,A=some ⟨b,0,none⟩/\RegsAt [3,4,5] w3 p b rs:=fun hne=>by
  obtain⟨b,e1,hge,hb,hcells⟩:=hR hne
  exact⟨b,e1,hb,hP.fresh hx hge,hcells⟩
 replace hK:=hK.trans (Keep.of_ext hx hP.lt hP.le);replace b1:=b1.ext hx hP.lt;replace hP:=hP.ext hx;clear hx hR
 refine hKK.out _ _ (hS _ b1) (fun hHeld=>?_)
 clear hKK K
 try dsimp only
 refine wpAnyH_ready (rs:=[9]) (by kernel_rfl) (by simp) ?_
 refine AllReadyH.cons rfl (fun K hKK=>?_) (AllReadyH.nil)
 go_simp
 refine rlast hOh.out hK (rdown_r B p o1 S1 alg N m m rs A c _ hP h1 h2 hm1 hlenh.out q1 q2 hreg hallh.out (by omega)) ?_
 clear hOh hK hP;intro u o2 S2 w4 hP hk hK hO;replace b1:=b1.keep hk;clear hk hreg
 refine hKK.out _ _ (hS _ b1) (fun hHeld=>?_)
 clear hKK K
 try dsimp only
 refine wpAnyH_done (by kernel_rfl) ?_ _
 go_simp
 have hf:R (.returned (encU u)) w4:=hO.ret hP hK
 clear hO hP hK hS;go_wp2_with fail
 first | exact hf | (refine bodyPost_ret (results_none rfl _ _ _) rfl ?_;exact hf)
theorem tree_all {E N:Nat}{mode b c:Int}{rs:List Reg}{m:Nat}(h:layM (treeWants E N) N mode b c=some rs)(hm:m<N):∀ r∈rs,r.ok/\(m:Int)<r.n/\r.told m:=by
 intro r hr
 obtain⟨h1,h2⟩:=laid_all h r hr
 refine⟨h1,by omega,?_⟩
 obtain⟨⟨m1,m2,_⟩,_⟩:=layM_args h
 obtain⟨i,hi⟩:=List.getElem?_of_mem hr
 have hil:=(List.getElem?_eq_some_iff.1 hi).1
 have hlen:=layM_len h
 have hwi:(treeWants E N)[i]?=some ⟨-1,1⟩:=by
  unfold treeWants at *
  rw [List.length_replicate] at hlen
  rw [List.getElem?_replicate,if_pos (by omega)]
 obtain⟨r',hr',hL⟩:=layM_at h hwi
 obtain rfl:r=r':=by rw [hi] at hr';simpa using hr'
 by_cases hN:N=1
 · subst hN
   unfold treeWants at hlen
   rw [List.length_replicate,show levels ((1:Nat):Int)=0 from by decide] at hlen
   omega
 · exact laid_told hL ⟨m1,m2⟩ (by omega) (by decide) (by show (-1:Int)≠m;omega)
theorem path_none_p (m place:Int)(w:World)(h:m<1∨64<m∨place<0∨m<=place):Calls Tryz.prog 172 #[V Z m,V Z place] w fun e w'=>e=.returned (.slice none 0 0)/\w=w':=by
 by_cases h1:m<1
 · have d1:decide (m<1)=true:=by rw [decide_eq_true_eq];exact h1
   clear h h1
   go_enter Tryz.func172,Tryz.ntmps172
   go_wp2_with fail
   go_ret
   exact⟨rfl,rfl⟩
 · have d1:decide (m<1)=false:=by rw [decide_eq_false_iff_not];exact h1
   by_cases h2:64<m
   · have d2:decide (64<m)=true:=by rw [decide_eq_true_eq];exact h2
     clear h h1 h2
     go_enter Tryz.func172,Tryz.ntmps172
     go_wp2_with fail
     go_ret
     exact⟨rfl,rfl⟩
   · have d2:decide (64<m)=false:=by rw [decide_eq_false_iff_not];exact h2
     by_cases h3:place<0
     · have d3:decide (place<0)=true:=by rw [decide_eq_true_eq];exact h3
       clear h h1 h2 h3
       go_enter Tryz.func172,Tryz.ntmps172
       go_wp2_with fail
       go_ret
       exact⟨rfl,rfl⟩
     · have d3:decide (place<0)=false:=by rw [decide_eq_false_iff_not];exact h3
       have d4:decide (m<=place)=true:=by rw [decide_eq_true_eq];omega
       clear h h1 h2 h3
       go_enter Tryz.func172,Tryz.ntmps172
       go_wp2_with fail
       go_ret
       exact⟨rfl,rfl⟩
end Go.Proofs.YtbaajjkopdjbgaaGreat
namespace Go.Proofs.YtbaajjkopdjbgaaGreat
open Kv
def lkWants (alg:Int) (N:Nat):List Want :=
 if alg=3 then bwWants N else if alg=4 then filWants N else if alg=5 then fastWants N else if alg=6∨alg=7 then treeWants (eachK alg) N else adWants N
def lkA (D:Nat) (alg:Int) (N:Nat) (base loc room:Int) (rs:List Reg) (m:Nat):Prog Int :=
 if alg=1 then bakA D base N room loc m else if alg=2 then oneA D base N m else if alg=3 then bwA D rs (loc+sumL rs) N m else if alg=4 then filA D rs N m else if alg=5 then fastA D rs N m
 else if alg=8 then adA D rs (loc+sumL rs) N m else treeA (eachK alg) D rs N m
def lkR (alg:Int) (N:Nat) (base loc:Int) (rs:List Reg) (m:Nat):Prog Unit :=
 if alg=1 then bakR base N loc m else if alg=2 then oneR base m else if alg=3 then bwR rs (loc+sumL rs) N m else if alg=4 then filR rs m else if alg=5 then fastR rs m
 else if alg=8 then adR rs (loc+sumL rs) N m else treeR (eachK alg) rs N m
def lkC (alg:Int) (N:Nat) (rs:List Reg):Int:=if alg=1 then 2*N else if alg=2 then N else sumC rs
def lkL (alg:Int) (rs:List Reg):Int:=if alg=1 then 1 else if alg=2 then 0 else if alg=3∨alg=8 then sumL rs+1 else sumL rs
structure LkOk (alg:Int) (N:Nat) (mode base loc room:Int) (rs:List Reg):Prop where
 halg:1<=alg/\alg<=8
 hn:1<=N/\N<=8
 hmode:1<=mode/\mode<=2
 hbase:0<=base/\base<=32768
 hloc:0<=loc/\loc<=32768
 hroom:1<=room/\room<=1048576
 hlay:3<=alg->layM (lkWants alg N) N mode base loc=some rs
 hcells:base+lkC alg N rs<=32768
 hlocals:loc+lkL alg rs<=32768
theorem notes_fastTry (N:Nat)(l:List Reg)(n me:Int):∀ k:Nat,(fastTry N l n me k).Notes 0
 | 0=>.ret _ _
 | k+1=>by
   have ih:=notes_fastTry N l n me k
   rw [show fastTry N l n me (k+1)=(regW (regAt l (2+me)) me 1).bind fun _=>(regW (regAt l 0) me (me+1)).bind fun _=>(regR (regAt l 1) me).bind fun y =>
    if y=0 then
     (regW (regAt l 1) me (me+1)).bind fun _=>(regR (regAt l 0) me).bind fun x =>
       if x=me+1 then .ret () else
        (regW (regAt l (2+me)) me 0).bind fun _=>(forP (fun j _=>zeroP (regAt l (2+j)) me N) (ranksFrom (-1) n.toNat 0) ()).bind fun _ =>
          (regR (regAt l 1) me).bind fun y=>if y=me+1 then .ret () else (zeroP (regAt l 1) me N).bind fun _=>fastTry N l n me k
    else (regW (regAt l (2+me)) me 0).bind fun _=>(zeroP (regAt l 1) me N).bind fun _=>fastTry N l n me k from rfl]
   refine (notes_regW _ _ _).bind0 fun _=>(notes_regW _ _ _).bind0 fun _=>(notes_regR _ _).bind0 fun y=>?_
   split
   · refine (notes_regW _ _ _).bind0 fun _=>(notes_regR _ _).bind0 fun x=>?_
     split
     · exact .ret _ _
     · refine (notes_regW _ _ _).bind0 fun _=>(notes_forP (fun _ _=>notes_zeroP _ _ _) _ _).bind0 fun _=>(notes_regR _ _).bind0 fun y=>?_
       split
       · exact .ret _ _
       · exact (notes_zeroP _ _ _).bind0 fun _=>ih
   · exact (notes_regW _ _ _).bind0 fun _=>(notes_zeroP _ _ _).bind0 fun _=>ih
theorem notes_filLevel (N:Nat)(l:List Reg)(n me level:Int):(filLevel N l n me level).Notes 0:=by
 unfold filLevel
 exact (notes_regW _ _ _).bind0 fun _=>(notes_regW _ _ _).bind0 fun _=>notes_forP (fun _ _=>notes_filWait _ _ _ _ _) _ _
theorem notes_oneUp (D:Nat)(base:Int)(me:Nat):∀ f j:Nat,(oneUp D base me f j).Notes 0
 | 0,_=>.ret _ _
 | f+1,j=>by
   rw [show oneUp D base me (f+1) j=if j<me then (rd (base+j)).bind fun x=>if x=0 then oneUp D base me f (j+1) else
    (wr (base+me) 0).bind fun _=>(zeroC (base+j) D).bind fun _=>(wr (base+me) 1).bind fun _=>oneUp D base me f 0
   else .ret () from rfl]
   split
   · refine (notes_rd _).bind0 fun x=>?_
     split
     · exact notes_oneUp D base me f (j+1)
     · exact (notes_wr _ _).bind0 fun _=>(notes_zeroC _ _).bind0 fun _=>(notes_wr _ _).bind0 fun _=>notes_oneUp D base me f 0
   · exact .ret _ _
theorem notes_in {α:Type}{p:Prog α}(h:p.Notes 0)(a:Int):((nt 1).bind fun _=>p.bind fun _=>(nt 3).bind fun _=>Prog.ret a).Notes 4 :=
 Prog.Notes.mono ((notes_nt 1).bind fun _=>h.bind0 fun _=>(notes_nt 3).bind fun _=>.ret a 0) (by omega)
theorem notes_lkA (D:Nat)(alg:Int)(N:Nat)(base loc room:Int)(rs:List Reg)(m:Nat):(lkA D alg N base loc room rs m).Notes 4:=by
 unfold lkA
 repeat' split
 · unfold bakA
   refine Prog.Notes.mono ((notes_nt 1).bind fun _=>(notes_wr _ _).bind0 fun _=>(notes_forP (fun j t=>(notes_rd _).bind0 fun x=>.ret _ 0) _ _).bind0 fun t=>(show (bakIn D base N room loc m t).Notes 3 from ?_)) (by omega)
   unfold bakIn
   split
   · exact Prog.Notes.mono ((notes_wr _ _).bind0 fun _=>(notes_nt 4).bind fun _=>.ret _ 0) (by omega)
   · exact Prog.Notes.mono ((notes_wr _ _).bind0 fun _=>(notes_st _ _).bind0 fun _=>(notes_wr _ _).bind0 fun _=>(notes_nt 2).bind fun _=>(notes_forP (fun _ _=>notes_bakFor _ _ _ _ _ _) _ _).bind0 fun _=>(notes_nt 3).bind fun _=>.ret _ 0) (by omega)
 · unfold oneA
   exact Prog.Notes.mono ((notes_nt 1).bind fun _=>(notes_wr _ _).bind0 fun _=>(notes_oneUp _ _ _ _ _).bind0 fun _=>(notes_nt 2).bind fun _=>(notes_forP (fun _ _=>notes_zeroC _ _) _ _).bind0 fun _=>(notes_nt 3).bind fun _=>.ret _ 0) (by omega)
 · unfold bwA bwMost
   exact Prog.Notes.mono ((notes_nt 1).bind fun _=>(notes_regW _ _ _).bind0 fun _=>(notes_regR _ _).bind0 fun y=>(notes_st _ _).bind0 fun _=>(notes_forP (fun j t=>(notes_regR _ _).bind0 fun x=>.ret _ 0) _ _).bind0 fun t =>
    (notes_regW _ _ _).bind0 fun _=>(notes_regW _ _ _).bind0 fun _=>(notes_nt 2).bind fun _=>(notes_forP (fun j _=>notes_bwFor rs D N m j (t+1) (bitM y)) _ _).bind0 fun _=>(notes_nt 3).bind fun _=>.ret _ 0) (by omega)
 · exact notes_in (notes_forP (fun _ _=>notes_filLevel _ _ _ _ _) _ _) 0
 · exact notes_in (notes_fastTry _ _ _ _ _) 0
 · unfold adA
   exact Prog.Notes.mono ((notes_nt 1).bind fun _=>(notes_getM _ _ _ _).bind0 fun name=>(notes_adClimb _ _ _ _ _).bind0 fun _=>(notes_nt 3).bind fun _=>.ret _ 0) (by omega)
 · exact notes_in (notes_forP (fun _ _=>notes_nodeE _ _ _ _ _) _ _) 0
theorem notes_lkR (alg:Int)(N:Nat)(base loc:Int)(rs:List Reg)(m:Nat):(lkR alg N base loc rs m).Notes 1:=by
 unfold lkR
 repeat' split
 · exact (notes_nt 5).bind fun _=>(notes_wr _ _).bind0 fun _=>notes_st _ _
 · exact (notes_nt 5).bind fun _=>notes_wr _ _
 · exact (notes_nt 5).bind fun _=>(notes_gt _).bind0 fun x=>(notes_regW _ _ _).bind0 fun _=>notes_regW _ _ _
 · exact (notes_nt 5).bind fun _=>notes_regW _ _ _
 · exact (notes_nt 5).bind fun _=>(notes_regW _ _ _).bind0 fun _=>notes_regW _ _ _
 · unfold adR
   have hd:∀ name:Int,(adDown (rs.drop (2*triN N)) (triN N) (m:Int) name).Notes 0:=fun name=>by
    unfold adDown
    split
    · exact notes_forP (fun _ _=>notes_nodeL _ _ _ _) _ _
    · exact .ret _ _
   exact (notes_nt 5).bind fun _=>(notes_gt _).bind0 fun had=>hd _
 · exact (notes_nt 5).bind fun _=>notes_forP (fun _ _=>notes_nodeL _ _ _ _) _ _
theorem ad_told {N:Nat}{mode b c:Int}{rs:List Reg}{m:Nat}(h:layM (adWants N) N mode b c=some rs)(hN:1<=N):∀ r∈rs.drop (2*triN N),r.told m:=by
 intro r hr
 obtain⟨i,hi⟩:=List.getElem?_of_mem hr
 rw [List.getElem?_drop] at hi
 have hil:=(List.getElem?_eq_some_iff.1 hi).1
 have hlen:=layM_len h
 rw [adWants_len] at hlen
 obtain⟨⟨m1,m2,_⟩,_⟩:=layM_args h
 have hwi:(adWants N)[2*triN N+i]?=some ⟨-1,1⟩:=by
  unfold adWants treeWants
  rw [List.getElem?_append_right (by rw [renW_len];omega),renW_len,List.getElem?_replicate,if_pos (by omega)]
 obtain⟨r',hr',hL⟩:=layM_at h hwi
 obtain rfl:r=r':=by rw [hi] at hr';simpa using hr'
 by_cases h1:N=1
 · subst h1
   rw [show triN 1=1 from by decide,show levels ((1:Nat):Int)=0 from by decide] at hlen
   rw [show triN 1=1 from by decide] at hil
   omega
 · exact laid_told hL ⟨m1,m2⟩ (by omega) (by decide) (by show (-1:Int)≠m;omega)
end Go.Proofs.YtbaajjkopdjbgaaGreat
namespace Go.Proofs.YtbaajjkopdjbgaaGreat
open Go.RowKit Kv
theorem heap_setCells_all {w:World}{z:Nat}{t:TypeId}{cur:Array Value}(h:w.heap[z]?=some (.cells cur t (0,0)))(vs:List Value)(hl:vs.length=cur.size):(w.setCells z 0 vs).heap[z]?=some (.cells vs.toArray t (0,0)):=by
 obtain⟨cur',h1,h2⟩:=heap_setCells_ex z t vs 0 w cur h
 rw [h1]
 congr 2
 apply Array.ext_getElem?
 intro i
 by_cases hi:i<vs.length
 · have hc:=World.cell?_setCells_in z vs 0 w (fun j hj=>by
    rw [Nat.zero_add,cell_of_heap h]
    have:j<cur.size:=by omega
    simp [this]) i hi
   rw [Nat.zero_add,cell_of_heap h1] at hc
   rw [hc]
   simp [hi]
 · rw [Array.getElem?_eq_none (by omega),Array.getElem?_eq_none (by simpa using hi)]
set_option maxRecDepth 100000 in
set_option maxHeartbeats 1000000 in
theorem bwlay_p (alg mode base loc room me:Int)(N:Nat)(rs:List Reg)(w:World)(h1:1<=N)(h2:N<=8)(hl:layM (bwWants N) N mode base loc=some rs)(hlc:0<=loc/\loc<=32768)(hm0:0<=me)(hm1:me<N)(r0:Reg)(hr0:rs[0]?=some r0) :
  Calls Tryz.prog 244 #[.agg #[V Z alg,V Z N,V Z mode,V Z base,V Z loc,V Z room],V Z me] w fun e w'=>∃ b c1 c2,e=.returned (.tuple #[.agg #[V Z r0.kind,V Z r0.base,V Z r0.loc,V Z r0.n,V Z r0.wr,V Z r0.rd,V Z r0.top,.slice (some ⟨b,7,none⟩) N c1,.slice (some ⟨b,(1+N)*7,none⟩) N c2,V Z (loc+sumL rs)],V Z 0])/\w.heap.size<=b/\b<w'.heap.size/\(∀ (i:Nat) u,(rs.flatMap regVals)[i]?=some u->w'.cell? ⟨b,i,none⟩=some u)/\Ext w w':=by
 have hlen:=layM_len hl
 rw [bwWants_len] at hlen
 have hok:∀ r∈rs,r.ok:=fun r hr=>(laid_all hl r hr).1
 have hbd:=sum_bd hok rs.length (Nat.le_refl _)
 rw [List.take_length] at hbd
 have hw:=IntWalk.i64_in (loc+sumL rs) (by omega)
 have hw2:=IntWalk.i64_in ((1:Int)+(N:Int)) (by omega)
 replace hl:=Hd hl
 have hlenh:=Hd hlen
 have hokh:=Hd hok
 have hr0h:=Hd hr0
 clear hlen hok hbd hr0
 have d1:decide (me<0)=false:=by rw [decide_eq_false_iff_not];omega
 have d2:decide ((N:Int)<=me)=false:=by rw [decide_eq_false_iff_not];omega
 have hX:=Ext.refl w
 have b1:=Blk.new w (.cells #[V Z alg,V Z N,V Z mode,V Z base,V Z loc,V Z room] 23)
 replace hX:=hX.alloc (.cells #[V Z alg,V Z N,V Z mode,V Z base,V Z loc,V Z room] 23)
 have c_b1:=b1.cells
 go_enter Tryz.func244,Tryz.ntmps244
 go_wp2_with fail
 have z1:=Blk.new (w.alloc (.cells #[V Z alg,V Z N,V Z mode,V Z base,V Z loc,V Z room] 23)) (.cells #[V Z 0,V Z 0,V Z 0,V Z 0,V Z 0,V Z 0,V Z 0,.slice none 0 0,.slice none 0 0,V Z 0] 187)
 rw [World.size_alloc] at z1
 replace b1:=b1.alloc (.cells #[V Z 0,V Z 0,V Z 0,V Z 0,V Z 0,V Z 0,V Z 0,.slice none 0 0,.slice none 0 0,V Z 0] 187)
 replace hX:=hX.alloc (.cells #[V Z 0,V Z 0,V Z 0,V Z 0,V Z 0,V Z 0,V Z 0,.slice none 0 0,.slice none 0 0,V Z 0] 187)
 clear c_b1
 generalize World.alloc (World.alloc w _) _=W at *
 have hXW:=hX;clear hX
 have hX:=(Ext.refl W).drew
 have hS:∀ w',Ext W w'->(∀ i,w'.cell? ⟨w.heap.size,i,none⟩=(#[V Z alg,V Z N,V Z mode,V Z base,V Z loc,V Z room]:Array Value)[i]?):=fun w' hx=>(b1.ext hx).cells
 go_region_held2 (fun w'=>∀ i,w'.cell? ⟨w.heap.size,i,none⟩=(#[V Z alg,V Z N,V Z mode,V Z base,V Z loc,V Z room]:Array Value)[i]?) (exact hS _ hX)
  (first
    | (go_at_call 185
       refine (bwwants_p N _ h1 h2).mono ?_
       rintro e w2 ⟨v2,rfl,hw2,hx⟩
       replace hX:=hX.trans hx;have hz2:=hX.size
       clear hx)
    | (go_at_call 163
       refine (layp_some hl.out _ (hw2.ext (Ext.refl _)) (by rw [bwWants_len];omega)).mono ?_
       rintro e w3 ⟨v3,rfl,hr3,hx⟩
       replace hX:=hX.trans hx
       clear hx))
 rename_i hh
 clear hh
 obtain⟨⟨A,c0,rfl,q1,q2,hV⟩,hown⟩:=hr3
 obtain⟨c,rfl⟩:∃ c,c0=c+N+2:=⟨c0-N-2,by have:=hlenh.out;omega⟩
 obtain⟨b,rfl,hb,hcells⟩:=hV (by cases rs with | nil=>have:=hlenh.out;simp only [List.length_nil] at this;omega | cons r l=>simp [regVals])
 have hgeW:W.heap.size<=b:=Nat.le_trans hz2 (hown b rfl)
 have hge:w.heap.size<=b:=Nat.le_trans hXW.size hgeW
 have hch:=Hd hcells
 clear hcells hV hown hz2;go_wp2_with fail
 refine (size_p b (c+N+2) rs w3 hb hch.out hokh.out (by have:=hlenh.out;omega)).mono ?_
 rintro e w4 ⟨rfl,hx4⟩
 have hX4:=hX.trans hx4
 have hcells4:∀ (i:Nat) u,(rs.flatMap regVals)[i]?=some u->w4.cell? ⟨b,i,none⟩=some u:=fun i u hu=>(hx4.cell (p:=⟨b,i,none⟩) hb).trans (hch.out i u hu)
 have hb4:=Nat.lt_of_lt_of_le hb hx4.size
 obtain⟨a0,a1,a2,a3,a4,a5,a6⟩:=reg_cells (w:=w4) (b:=b) hcells4 hr0h.out
 simp only [Nat.zero_mul,Nat.zero_add] at a0 a1 a2 a3 a4 a5 a6
 have c_b4:=(b1.ext hX4).cells
 have z4:=z1.ext hX4
 have hlen9:(rs.length:Int)=2*(N:Int)+1:=by have:=hlenh.out;omega
 have hcells4h:=Hd hcells4
 have c_z4:=z4.cells
 have hfz:∀ i,w4.frozen? ⟨w.heap.size+1,i,none⟩=false:=fun i=>by
  have z5:=z4
  unfold Blk at z5
  simp [World.frozen?,z5]
 have l1:(0:Int)<2*(N:Int)+1:=by omega
 clear hcells4 hx4 hX hch hb;go_wp2_with fail
 go_region
 have hne:w.heap.size+1≠b:=by have:=z1.lt;omega
 have hE4:Ext w w4:=hXW.trans hX4
 have hg9:w.heap.size<=w.heap.size+1:=Nat.le_succ _
 have hWW:((((((((((w4.setCell ⟨w.heap.size+1,0,none⟩ (V Z r0.kind)).setCell ⟨w.heap.size+1,1,none⟩ (V Z r0.base)).setCell ⟨w.heap.size+1,2,none⟩ (V Z r0.loc)).setCell ⟨w.heap.size+1,3,none⟩ (V Z r0.n)).setCell ⟨w.heap.size+1,4,none⟩ (V Z r0.wr)).setCell ⟨w.heap.size+1,5,none⟩ (V Z r0.rd)).setCell ⟨w.heap.size+1,6,none⟩ (V Z r0.top)).setCell ⟨w.heap.size+1,7,none⟩ (.slice (some ⟨b,7,none⟩) N (c+N+1))).setCell ⟨w.heap.size+1,8,none⟩ (.slice (some ⟨b,(1+N)*7,none⟩) (rs.length-(1+N)) (c+N+2-(1+N)))).setCell ⟨w.heap.size+1,9,none⟩ (V Z (loc+sumL rs)))=w4.setCells (w.heap.size+1) 0 [V Z r0.kind,V Z r0.base,V Z r0.loc,V Z r0.n,V Z r0.wr,V Z r0.rd,V Z r0.top,.slice (some ⟨b,7,none⟩) N (c+N+1),.slice (some ⟨b,(1+N)*7,none⟩) (rs.length-(1+N)) (c+N+2-(1+N)),V Z (loc+sumL rs)]:=rfl
 obtain⟨W5,hW5⟩:∃ W5,W5=w4.setCells (w.heap.size+1) 0 [V Z r0.kind,V Z r0.base,V Z r0.loc,V Z r0.n,V Z r0.wr,V Z r0.rd,V Z r0.top,.slice (some ⟨b,7,none⟩) N (c+N+1),.slice (some ⟨b,(1+N)*7,none⟩) (rs.length-(1+N)) (c+N+2-(1+N)),V Z (loc+sumL rs)]:=⟨_,rfl⟩
 have z5:W5.heap[w.heap.size+1]?=some (.cells #[V Z r0.kind,V Z r0.base,V Z r0.loc,V Z r0.n,V Z r0.wr,V Z r0.rd,V Z r0.top,.slice (some ⟨b,7,none⟩) N (c+N+1),.slice (some ⟨b,(1+N)*7,none⟩) (rs.length-(1+N)) (c+N+2-(1+N)),V Z (loc+sumL rs)] 187 (0,0)):=by
  rw [hW5]
  exact heap_setCells_all z4 [V Z r0.kind,V Z r0.base,V Z r0.loc,V Z r0.n,V Z r0.wr,V Z r0.rd,V Z r0.top,.slice (some ⟨b,7,none⟩) N (c+N+1),.slice (some ⟨b,(1+N)*7,none⟩) (rs.length-(1+N)) (c+N+2-(1+N)),V Z (loc+sumL rs)] rfl
 have hE5:Ext w W5:=by
  rw [hW5]
  exact Ext.setCells hE4 hg9 _ _
 have hB:W5.heap[b]?=w4.heap[b]?:=by
  rw [hW5]
  exact World.heap_setCells_other _ _ _ _ hb4 (fun h=>hne h.symm)
 rw [<- hW5] at hWW
 clear hW5
 have hcl:∀ i,W5.cell? ⟨b,i,none⟩=w4.cell? ⟨b,i,none⟩:=fun i=>World.cell?_of_block (w:=w4) (a:=⟨b,i,none⟩) hB
 have hb5:b<W5.heap.size:=by
  have:W5.heap[b]?=some w4.heap[b]:=by rw [hB];exact Array.getElem?_eq_getElem hb4
  exact (Array.getElem?_eq_some_iff.1 this).1
 have hcells5:Hid (∀ (i:Nat) u,(rs.flatMap regVals)[i]?=some u->W5.cell? ⟨b,i,none⟩=some u):=Hd fun i u hu=>(hcl i).trans (hcells4h.out i u hu)
 have c_z5:=fun i=>cell_of_heap z5 i
 try rw [hWW]
 clear a0 a1 a2 a3 a4 a5 a6 c_b4 c_z4 hfz hcl hB hcells4h z4 z1 b1;go_wp2_with fail
 refine bodyPost_ret (v:=.tuple #[.agg #[V Z r0.kind,V Z r0.base,V Z r0.loc,V Z r0.n,V Z r0.wr,V Z r0.rd,V Z r0.top,.slice (some ⟨b,7,none⟩) N (c+N+1),.slice (some ⟨b,(1+N)*7,none⟩) (rs.length-(1+N)) (c+N+2-(1+N)),V Z (loc+sumL rs)],V Z 0]) (by simp [results,Tryz.results244,go_sem,c_z5]) rfl ?_
 rw [show rs.length-(1+N)=N from by have:=hlenh.out;omega]
 exact⟨_,_,_,rfl,hge,hb5,hcells5.out,hE5.drew⟩
end Go.Proofs.YtbaajjkopdjbgaaGreat
namespace Kv
def bwR2 (l:List Reg) (own n me:Int):Prog Unit :=
 (gt own).bind fun x=>(nt 5).bind fun _=>(regW (regAt l 0) me (1-bitM x)).bind fun _=>regW (regAt l (1+n+me)) me (bitM x)
theorem bwR_run (l:List Reg)(own n me:Int)(S:TS):(bwR2 l own n me).run S=(bwR l own n me).run S:=rfl
theorem Ref.congr {α:Type}{T T':Prog α}(h:∀ S,T.run S=T'.run S){o o':Bool}{S S':TS}{a:α}(hr:Ref T o S a o' S'):Ref T' o S a o' S':=by
 cases hr with
 | over=>exact .over _ _
 | done k=>exact .done ((h _).symm.trans k)
 | stop _ k=>exact .stop _ ((h _).symm.trans k)
end Kv
namespace Go.Proofs.YtbaajjkopdjbgaaGreat
open Go.RowKit Kv
set_option maxRecDepth 100000 in
set_option maxHeartbeats 1000000 in
theorem bwrel2_r (B p N:Nat)(o:Bool)(S:TS)(alg mode base loc room:Int)(m:Nat)(rs:List Reg)(w:World)(h:RAt B w p o S)(h1:1<=N)(h2:N<=8)(hm1:m<N)(hl:layM (bwWants N) N mode base loc=some rs)(hlc:0<=loc/\loc<=32768)
  (hok:∀ r∈rs,r.ok/\r.n=N)(hn0:S.nts.length<=100000) :
  Calls Tryz.prog 117 #[.pointer (some ⟨p,0,none⟩),.agg #[V Z alg,V Z N,V Z mode,V Z base,V Z loc,V Z room],V Z m] w (RPost encU B p w (bwR2 rs (loc+sumL rs) N m) o S):=by
 have hlen:=layM_len hl
 rw [bwWants_len] at hlen
 generalize hR:RPost encU B p w (bwR2 rs (loc+sumL rs) N m) o S=R
 have hO:ROwes R encU B p w (bwR2 rs (loc+sumL rs) N m) o S:=hR▸rowes _ _ _ _ _ _ _
 clear hR
 obtain⟨b1,hK,hP⟩:=h.entry (.cells #[V Z alg,V Z N,V Z mode,V Z base,V Z loc,V Z room] 23)
 have c_b1:=b1.cells;clear h;unfold bwR2 at hO
 obtain⟨r0,hr0⟩:∃ r,rs[0]?=some r:=⟨_,List.getElem?_eq_getElem (by omega)⟩
 obtain⟨rm,hrm⟩:∃ r,rs[1+N+m]?=some r:=⟨_,List.getElem?_eq_getElem (by omega)⟩
 have hok0:=(hok _ (List.mem_of_getElem? hr0)).1
 have hm0':(m:Int)<r0.n:=by rw [(hok _ (List.mem_of_getElem? hr0)).2];omega
 have hokm:=(hok _ (List.mem_of_getElem? hrm)).1
 have hmm:(m:Int)<rm.n:=by rw [(hok _ (List.mem_of_getElem? hrm)).2];omega
 rw [regAt_of (show (0:Int)=((0:Nat):Int) from rfl) hr0,regAt_of (show (1:Int)+(N:Int)+(m:Int)=((1+N+m:Nat):Int) from by omega) hrm] at hO
 have hw1:=IntWalk.i64_in ((1:Int)+(N:Int)) (by omega)
 have hw2:=IntWalk.i64_in ((1:Int)+(N:Int)+(m:Int)) (by omega)
 have hi2:(1:Int)+(N:Int)+(m:Int)<(rs.length:Int):=by omega
 have hi0:0<=(1:Int)+(N:Int)+(m:Int):=by omega
 have hi1:((1:Int)+(N:Int)+(m:Int)).toNat=1+N+m:=by omega
 have hj2:(0:Nat)<rs.length:=by omega
 have hj3:(0:Int)<(rs.length:Int):=by omega
 have hrh:=Hd (And.intro hr0 hrm)
 have hlM:=Hd hl
 clear hlen hr0 hrm hok hl
 go_enter Tryz.func117,Tryz.ntmps117
 go_wp2_with fail
 refine (bwregs_r alg mode base loc room N rs _ h1 h2 hlM.out hlc).mono ?_
 rintro e w1 ⟨b,c,rfl,hge,hb,hcells,q1,q2,hx⟩
 have hreg:RegsAt [3,4,5] w1 p b rs:=⟨hb,hP.fresh hx hge,hcells⟩
 replace hK:=hK.trans (Keep.of_ext hx hP.lt hP.le);replace b1:=b1.ext hx hP.lt;replace hP:=hP.ext hx;clear hx hcells hge hb c_b1
 generalize w.heap.size=z at *
 go_wp2_with fail
 refine (get_r B p o S (loc+sumL rs) _ hP).mono ?_
 rintro e w' ⟨rfl,rfl⟩;replace hO:=hO.get
 generalize S.got (loc+sumL rs)=x at hO ⊢
 go_wp2_with fail
 refine (bit_r x _).mono ?_
 rintro e w' ⟨rfl,rfl⟩
 have hbx:0<=bitM x/\bitM x<=1:=bitM_bd x
 generalize bitM x=bx at *
 have hw3:=IntWalk.i64_in (1-bx) (by omega)
 go_wp2_with fail
 refine rstepN (notes_nt 5) hO hK (note_r B p o S 5 _ hP (by unfold maxAns;omega)) ?_
 clear hO hK hP;intro u o1 S1 w2 _ _ _ hP hk hK hO;replace hreg:=hreg.keep hk;replace b1:=b1.keep hk;clear hk
 obtain⟨a0,a1,a2,a3,a4,a5,a6⟩:=hreg.nth hrh.out.1
 simp only [Nat.zero_mul,Nat.zero_add] at a0 a1 a2 a3 a4 a5 a6
 go_wp2_with fail
 clear a0 a1 a2 a3 a4 a5 a6
 refine rstepL hO hK (reg_write_r B p o1 S1 r0 m (1-bx) _ hP hok0 ⟨by omega,hm0'⟩) ?_
 clear hO hK hP;intro u o2 S2 w3 _ _ hP hk hK hO;replace hreg:=hreg.keep hk;replace b1:=b1.keep hk;clear hk
 obtain⟨_,_,_,_,_,hcc⟩:=hP.cell
 cases o2 with
 | true =>
   have hf:R (.returned (encU ())) w3:=hO.over () hP hK
   clear hO hP hK;go_wp2_with fail
   first | exact hf | (refine bodyPost_ret (results_none rfl _ _ _) rfl ?_;exact hf)
 | false =>
   have c_b1:=b1.cells
   obtain⟨a0,a1,a2,a3,a4,a5,a6⟩:=hreg.nth hrh.out.2
   have hOh:=Hd hO;clear hO;go_wp2_with fail
   replace hO:=hOh.out;clear a0 a1 a2 a3 a4 a5 a6 hrh hreg c_b1 hOh hcc
   refine rlast hO hK (reg_write_r B p false S2 rm m bx _ hP hokm ⟨by omega,hmm⟩) ?_
   clear hO hK hP;intro u o3 S3 w4 hP hk hK hO
   have hf:R (.returned (encU u)) w4:=hO.ret hP hK
   clear hO hP hK hk;go_wp2_with fail
   first | exact hf | (refine bodyPost_ret (results_none rfl _ _ _) rfl ?_;exact hf)
theorem bwrel_r (B p N:Nat)(o:Bool)(S:TS)(alg mode base loc room:Int)(m:Nat)(rs:List Reg)(w:World)(h:RAt B w p o S)(h1:1<=N)(h2:N<=8)(hm1:m<N)(hl:layM (bwWants N) N mode base loc=some rs)(hlc:0<=loc/\loc<=32768)
  (hok:∀ r∈rs,r.ok/\r.n=N)(hn0:S.nts.length<=100000) :
  Calls Tryz.prog 117 #[.pointer (some ⟨p,0,none⟩),.agg #[V Z alg,V Z N,V Z mode,V Z base,V Z loc,V Z room],V Z m] w (RPost encU B p w (bwR rs (loc+sumL rs) N m) o S) :=
 (bwrel2_r B p N o S alg mode base loc room m rs w h h1 h2 hm1 hl hlc hok hn0).mono fun _ _ ⟨a,o',S',h1,h2,h3,h4⟩=>⟨a,o',S',h1,h2.congr (bwR_run _ _ _ _),h3,h4⟩
theorem bwbit_p (x:Int)(w:World):Calls Tryz.prog 245 #[V Z x] w fun e w'=>e=.returned (V Z (bitM x))/\w=w':=by
 unfold bitM
 by_cases h:x=0
 · rw [if_pos h]
   go_enter Tryz.func245,Tryz.ntmps245
   go_wp2_with fail
   go_ret
   exact⟨rfl,rfl⟩
 · rw [if_neg h]
   have hb:(x != 0)=true:=by rw [bne_iff_ne];exact h
   go_enter Tryz.func245,Tryz.ntmps245
   go_wp2_with fail
   go_ret
   exact⟨rfl,rfl⟩
set_option maxRecDepth 100000 in
set_option maxHeartbeats 1000000 in
theorem bwrel_p (B p N:Nat)(S:TS)(alg mode base loc room:Int)(m:Nat)(rs:List Reg)(w:World)(h:Plays B w p S)(h1:1<=N)(h2:N<=8)(hm1:m<N)(hl:layM (bwWants N) N mode base loc=some rs)(hlc:0<=loc/\loc<=32768)
  (hok:∀ r∈rs,r.ok/\r.n=N)(hn0:S.nts.length<=100000) :
  Calls Tryz.prog 187 #[.pointer (some ⟨p,0,none⟩),.agg #[V Z alg,V Z N,V Z mode,V Z base,V Z loc,V Z room],V Z m] w (Post encU B p w ((bwR rs (loc+sumL rs) N m).run S)):=by
 have hlen:=layM_len hl
 rw [bwWants_len] at hlen
 generalize hR:Post encU B p w ((bwR rs (loc+sumL rs) N m).run S)=R
 have hO:Owes R encU B p w ((bwR rs (loc+sumL rs) N m).run S):=hR▸owes _ _ _ _ _
 clear hR
 obtain⟨b1,hK,hP⟩:=h.entry (.cells #[V Z alg,V Z N,V Z mode,V Z base,V Z loc,V Z room] 23)
 have c_b1:=b1.cells;clear h;unfold bwR at hO
 obtain⟨r0,hr0⟩:∃ r,rs[0]?=some r:=⟨_,List.getElem?_eq_getElem (by omega)⟩
 obtain⟨rm,hrm⟩:∃ r,rs[1+N+m]?=some r:=⟨_,List.getElem?_eq_getElem (by omega)⟩
 have hok0:=(hok _ (List.mem_of_getElem? hr0)).1
 have hm0':(m:Int)<r0.n:=by rw [(hok _ (List.mem_of_getElem? hr0)).2];omega
 have hokm:=(hok _ (List.mem_of_getElem? hrm)).1
 have hmm:(m:Int)<rm.n:=by rw [(hok _ (List.mem_of_getElem? hrm)).2];omega
 rw [regAt_of (show (0:Int)=((0:Nat):Int) from rfl) hr0,regAt_of (show (1:Int)+(N:Int)+(m:Int)=((1+N+m:Nat):Int) from by omega) hrm] at hO
 have hmN:(m:Int)<(N:Int):=by omega
 have hrh:=Hd (And.intro hr0 hrm)
 have hlM:=Hd hl
 clear hlen hr0 hrm hok hl
 go_enter Tryz.func187,Tryz.ntmps187
 go_wp2_with fail
 refine (bwlay_p alg mode base loc room m N rs _ h1 h2 hlM.out hlc (by omega) (by omega) r0 hrh.out.1).mono ?_
 rintro e w1 ⟨b,c1,c2,rfl,hge,hb,hcells,hx⟩
 have hreg:RegsAt [2,3,4] w1 p b rs:=⟨hb,hP.fresh hx hge,hcells⟩
 replace hK:=hK.trans (Keep.of_ext hx hP.lt hP.le);replace hP:=hP.ext hx;clear hx hcells hge hb c_b1 b1
 generalize w.heap.size=z0 at *
 have g1:=hP.held (.cells #[V Z r0.kind,V Z r0.base,V Z r0.loc,V Z r0.n,V Z r0.wr,V Z r0.rd,V Z r0.top,.slice (some ⟨b,7,none⟩) N c1,.slice (some ⟨b,(1+N)*7,none⟩) N c2,V Z (loc+sumL rs)] 187)
 replace hreg:=hreg.extL ((Ext.refl w1).alloc (.cells #[V Z r0.kind,V Z r0.base,V Z r0.loc,V Z r0.n,V Z r0.wr,V Z r0.rd,V Z r0.top,.slice (some ⟨b,7,none⟩) N c1,.slice (some ⟨b,(1+N)*7,none⟩) N c2,V Z (loc+sumL rs)] 187)) hP.lt
 replace hK:=hK.trans (Keep.alloc (.cells #[V Z r0.kind,V Z r0.base,V Z r0.loc,V Z r0.n,V Z r0.wr,V Z r0.rd,V Z r0.top,.slice (some ⟨b,7,none⟩) N c1,.slice (some ⟨b,(1+N)*7,none⟩) N c2,V Z (loc+sumL rs)] 187) hP.lt hP.le)
 replace hP:=hP.alloc (.cells #[V Z r0.kind,V Z r0.base,V Z r0.loc,V Z r0.n,V Z r0.wr,V Z r0.rd,V Z r0.top,.slice (some ⟨b,7,none⟩) N c1,.slice (some ⟨b,(1+N)*7,none⟩) N c2,V Z (loc+sumL rs)] 187)
 go_wp2_with fail
 generalize w1.heap.size=z at *
 generalize w1.alloc _=W at *
 refine tstepN (notes_nt 5) hO hK (noteO hP (by unfold maxAns;omega)) (fun _ h=>⟨rfl,h⟩) ?_
 clear hO hK hP;intro u S1 w2 _ _ _ hP hk hK hO;replace hreg:=hreg.keep hk;replace g1:=g1.keep hk;clear hk;have c_g:=g1.cells;have hOh:=Hd hO;clear hO;go_wp2_with fail
 replace hO:=hOh.out;clear hOh
 refine (get_p B p S1 (loc+sumL rs) _ hP).mono ?_
 rintro e w' ⟨rfl,rfl⟩;rw [run_gt] at hO
 generalize S1.got (loc+sumL rs)=x at hO ⊢
 have hOh:=Hd hO;clear hO;go_wp2_with fail
 refine (bwbit_p x _).mono ?_
 rintro e w' ⟨rfl,rfl⟩
 have hbx:0<=bitM x/\bitM x<=1:=bitM_bd x
 generalize bitM x=bx at *
 have hw3:=IntWalk.i64_in (1-bx) (by omega)
 go_wp2_with fail
 replace hO:=hOh.out;clear hOh c_g
 refine tstepN (notes_regW _ _ _) hO hK (reg_write_p B p S1 r0 m (1-bx) _ hP hok0 ⟨by omega,hm0'⟩) (fun _ h=>⟨rfl,h⟩) ?_
 clear hO hK hP;intro u S2 w3 _ _ _ hP hk hK hO;replace hreg:=hreg.keep hk;replace g1:=g1.keep hk;clear hk;have c_g:=g1.cells
 obtain⟨a0,a1,a2,a3,a4,a5,a6⟩:=hreg.nth hrh.out.2
 have hsh:(1+N+m)*7=(1+N)*7+m*7:=by omega
 rw [hsh] at a0 a1 a2 a3 a4 a5 a6
 have hOh:=Hd hO;clear hO;go_wp2_with fail
 replace hO:=hOh.out;clear a0 a1 a2 a3 a4 a5 a6 hrh hreg hOh c_g
 refine tlast hO hK (reg_write_p B p S2 rm m bx _ hP hokm ⟨by omega,hmm⟩) (fun _ h=>⟨rfl,h⟩) ?_
 clear hO hK hP;intro u S3 w4 hr hP hk hK hO
 have hf:=hO.done hP hK
 clear hO hP hK hr hk;go_wp2_with fail
 first | exact hf | (refine bodyPost_ret (results_none rfl _ _ _) rfl ?_;exact hf)
end Go.Proofs.YtbaajjkopdjbgaaGreat
namespace Kv
theorem zeroP_succ (r:Reg)(me:Int)(n:Nat):zeroP r me (n+1)=(regR r me).bind fun x=>if x=0 then .ret () else zeroP r me n:=rfl
end Kv
namespace Go.Proofs.YtbaajjkopdjbgaaGreat
open Go.RowKit Kv
set_option maxRecDepth 100000 in
set_option maxHeartbeats 1000000 in
theorem fzero_r (B p D:Nat)(o:Bool)(S:TS)(r:Reg)(me:Int)(w:World)(h:RAt B w p o S)(hr:r.ok)(hm0:0<=me)(hmr:me<r.n)(ht:r.told me)(hD:o=false->S.left<D) :
  Calls Tryz.prog 263 #[.pointer (some ⟨p,0,none⟩),encR r,V Z me] w (RPost encU B p w (zeroP r me D) o S):=by
 generalize hR:RPost encU B p w (zeroP r me D) o S=R
 have hO:ROwes R encU B p w (zeroP r me D) o S:=hR▸rowes _ _ _ _ _ _ _
 clear hR
 unfold encR
 obtain⟨b1,hK,hP⟩:=h.entry (.cells #[V Z r.kind,V Z r.base,V Z r.loc,V Z r.n,V Z r.wr,V Z r.rd,V Z r.top] 67)
 have c_b1:=b1.cells;clear h
 go_enter Tryz.func263,Tryz.ntmps263
 go_wp2_with fail
 clear c_b1
 generalize hbb:w.heap.size=b at *
 generalize World.alloc _ _=W0 at *
 have hOh:=Hd hO;clear hO hbb
 go_loopw [] (fun wr=>∃ (n:Nat) (o2:Bool) (S2:TS),RAt B wr p o2 S2/\KeepR B p w wr/\HeldR wr p b (.cells #[V Z r.kind,V Z r.base,V Z r.loc,V Z r.n,V Z r.wr,V Z r.rd,V Z r.top] 67)/\Hid (ROwes R encU B p w (zeroP r me n) o2 S2)/\(o2=false->S2.left<n)) (fun wr=>leftR wr p)
 case atStart=>exact⟨D,o,S,hP,hK,b1,hOh,hD⟩
 case round =>
  clear hP hK b1 hOh hD
  obtain⟨n,o2,S2,hP,hK,b1,hO,hD⟩:=hrel
  replace hO:=hO.out
  have hlw:=Hd hP.leftR
  obtain⟨_,_,_,_,_,hcc⟩:=hP.cell
  cases o2 with
  | true =>
    have hf:R (.returned (encU ())) wr:=hO.over () hP hK
    clear hO hP hK hD b1;go_wp2_with fail
    first | exact hf | (refine bodyPost_ret (results_none rfl _ _ _) rfl ?_;exact hf)
  | false =>
    have hD:=hD rfl
    cases n with
    | zero=>omega
    | succ n =>
      rw [zeroP_succ] at hO;have c_b1:=b1.cells;have hOh:=Hd hO;clear hO;go_wp2_with fail
      replace hO:=hOh.out;clear hcc c_b1 hOh
      refine rstepL hO hK (reg_read_r B p false S2 r me _ hP hr ⟨hm0,hmr⟩) ?_
      clear hO hK hP;intro x o3 S3 w4 hlf hlt hP hk hK hO;replace b1:=b1.keep hk;clear hk
      by_cases hx:x=0
      · have dx:(x==0)=true:=by simpa using hx
        rw [if_pos hx] at hO
        have hf:R (.returned (encU ())) w4:=hO.ret hP hK
        clear hO hP hK hx b1;go_wp2_with fail
        first | exact hf | (refine bodyPost_ret (results_none rfl _ _ _) rfl ?_;exact hf)
      · have dx:(x==0)=false:=by simpa using hx
        rw [if_neg hx] at hO;clear hx
        have hlw2:=Hd hP.leftR
        have hOh:=Hd hO;clear hO;go_wp2_with fail
        refine⟨⟨n,o3,S3,hP,hK,b1,hOh,fun h=>?_⟩,?_⟩
        · have:=(hlt h).2 (asks_regR _ _ ht)
          omega
        · rw [hlw.out,hlw2.out]
          cases o3 with
          | true=>simp;omega
          | false =>
            have:=(hlt rfl).2 (asks_regR _ _ ht)
            simp
            omega
set_option maxRecDepth 100000 in
theorem fset_r (B p:Nat)(o:Bool)(S:TS)(r:Reg)(me v:Int)(w:World)(h:RAt B w p o S)(hr:r.ok)(hm:0<=me/\me<r.n) :
  Calls Tryz.prog 216 #[.pointer (some ⟨p,0,none⟩),encR r,V Z me,V Z v] w (RPost encU B p w (regW r me v) o S):=by
 generalize hR:RPost encU B p w (regW r me v) o S=R
 have hO:ROwes R encU B p w (regW r me v) o S:=hR▸rowes _ _ _ _ _ _ _
 clear hR
 unfold encR
 obtain⟨b1,hK,hP⟩:=h.entry (.cells #[V Z r.kind,V Z r.base,V Z r.loc,V Z r.n,V Z r.wr,V Z r.rd,V Z r.top] 67)
 have c_b1:=b1.cells;clear h
 obtain⟨_,_,_,_,_,hcc⟩:=hP.cell
 have hOh:=Hd hO;clear hO
 go_enter Tryz.func216,Tryz.ntmps216
 cases o with
 | true =>
   have hPh:=Hd hP
   have hKh:=Hd hK
   clear hP hK;go_wp2_with fail
   have hf:R (.returned (encU ())) _:=hOh.out.over () hPh.out hKh.out
   first | exact hf | (refine bodyPost_ret (results_none rfl _ _ _) rfl ?_;exact hf)
 | false =>
   go_wp2_with fail
   replace hO:=hOh.out;clear hOh hcc c_b1 b1
   refine rlast hO hK (reg_write_r B p false S r me v _ hP hr hm) ?_
   clear hO hK hP;intro u o2 S2 w3 hP hk hK hO
   have hf:R (.returned (encU u)) w3:=hO.ret hP hK
   clear hO hP hK hk;go_wp2_with fail
   first | exact hf | (refine bodyPost_ret (results_none rfl _ _ _) rfl ?_;exact hf)
set_option maxRecDepth 100000 in
set_option maxHeartbeats 1000000 in
theorem fwait_p (B p D:Nat)(S:TS)(r:Reg)(me:Int)(w:World)(h:Plays B w p S)(hr:r.ok)(hm0:0<=me)(hmr:me<r.n)(ht:r.told me)(hD:S.left<D) :
  Calls Tryz.prog 249 #[.pointer (some ⟨p,0,none⟩),encR r,V Z me] w (Post encB B p w (((zeroP r me D).bind fun _=>.ret true).run S)):=by
 generalize hR:Post encB B p w (((zeroP r me D).bind fun _=>.ret true).run S)=R
 have hO:Owes R encB B p w (((zeroP r me D).bind fun _=>.ret true).run S):=hR▸owes _ _ _ _ _
 clear hR
 have hCm:=fun w=>cells_pm r me w hr ht ⟨hm0,hmr⟩
 have hRd:=fun S w (h:Plays B w p S)=>reg_read_p B p S r me w h hr ⟨hm0,hmr⟩
 unfold encR at hCm hRd ⊢
 obtain⟨b1,hK,hP⟩:=h.entry (.cells #[V Z r.kind,V Z r.base,V Z r.loc,V Z r.n,V Z r.wr,V Z r.rd,V Z r.top] 67)
 have c_b1:=b1.cells;clear h
 have hRh:=Hd hRd
 clear hRd
 go_enter Tryz.func249,Tryz.ntmps249
 go_wp2_with fail
 clear c_b1
 generalize hbb:w.heap.size=b at *
 generalize World.alloc _ _=W0 at *
 have hOh:=Hd hO;clear hO hbb
 go_loopw [] (fun wr=>∃ (n:Nat) (S2:TS),Plays B wr p S2/\KeepP B p w wr/\HeldP wr p b (.cells #[V Z r.kind,V Z r.base,V Z r.loc,V Z r.n,V Z r.wr,V Z r.rd,V Z r.top] 67)/\Hid (Owes R encB B p w (((zeroP r me n).bind fun _=>.ret true).run S2))/\S2.left<n) (fun wr=>leftW 1 3 wr p)
 case atStart=>exact⟨D,S,hP,hK,b1,hOh,hD⟩
 case round =>
  clear hP hK b1 hOh hD
  obtain⟨n,S2,hP,hK,b1,hO,hD⟩:=hrel
  replace hO:=hO.out
  have hlw:=Hd hP.left
  cases n with
  | zero=>omega
  | succ n =>
    rw [zeroP_bind] at hO;have c_b1:=b1.cells;have hOh:=Hd hO;clear hO;go_wp2_with fail
    replace hO:=hOh.out;clear c_b1 hOh
    refine tstepL hO hK (hRh.out S2 _ hP) (fun _ h=>⟨rfl,h⟩) ?_
    clear hO hK hP;intro x S3 w4 _ hlf hP hk hK hO
    replace hlf:=hlf (asks_regR _ _ ht)
    replace b1:=b1.keep hk;clear hk
    by_cases hx:x=0
    · have dx:(x != 0)=false:=by simpa using hx
      rw [if_pos hx] at hO
      have hf:R (.returned (encB true)) w4:=hO.done (v:=true) hP hK
      clear hO hP hK hx b1;go_wp2_with fail
      first | exact hf | (go_ret;exact hf)
    · have dx:(x != 0)=true:=by simpa using hx
      rw [if_neg hx] at hO;clear hx;have c_b1:=b1.cells;have hOh:=Hd hO;clear hO;go_wp2_with fail
      refine (hCm _).mono ?_
      rintro e w6 ⟨cc,rfl,hcc,hx⟩
      replace b1:=b1.ext hx hP.lt;replace hK:=hK.trans (Keep.of_ext hx hP.lt hP.le);replace hP:=hP.ext hx;clear hx c_b1
      have hlw2:=Hd hP.left
      go_wp2_with fail
      refine⟨⟨n,S3,hP,hK,b1,hOh,by omega⟩,?_⟩
      rw [hlw.out,hlw2.out]
      omega
set_option maxRecDepth 100000 in
theorem fwait_z (B p D:Nat)(S:TS)(r:Reg)(me:Int)(w:World)(h:Plays B w p S)(hr:r.ok)(hm0:0<=me)(hmr:me<r.n)(hz:(regR r me).run S=(some 0,S)) :
  Calls Tryz.prog 249 #[.pointer (some ⟨p,0,none⟩),encR r,V Z me] w (Post encB B p w (((zeroP r me (D+1)).bind fun _=>.ret true).run S)):=by
 generalize hR:Post encB B p w (((zeroP r me (D+1)).bind fun _=>.ret true).run S)=R
 have hO:Owes R encB B p w (((zeroP r me (D+1)).bind fun _=>.ret true).run S):=hR▸owes _ _ _ _ _
 clear hR
 have hRd:=fun S w (h:Plays B w p S)=>reg_read_p B p S r me w h hr ⟨hm0,hmr⟩
 unfold encR at hRd ⊢
 obtain⟨b1,hK,hP⟩:=h.entry (.cells #[V Z r.kind,V Z r.base,V Z r.loc,V Z r.n,V Z r.wr,V Z r.rd,V Z r.top] 67)
 have c_b1:=b1.cells;clear h
 have hRh:=Hd hRd
 have hzh:=Hd hz
 clear hRd hz
 go_enter Tryz.func249,Tryz.ntmps249
 go_wp2_with fail
 clear c_b1
 generalize hbb:w.heap.size=b at *
 generalize World.alloc _ _=W0 at *
 have hOh:=Hd hO;clear hO hbb
 go_loopw [] (fun wr=>W0=wr) (fun _=>0)
 case atStart=>rfl
 case round =>
  subst hrel;have hO:=hOh.out;rw [zeroP_bind] at hO;have c_b1:=b1.cells
  have hOk:=Hd hO
  clear hO hOh;go_wp2_with fail
  replace hO:=hOk.out;clear c_b1 hOk
  refine tstep hO hK (hRh.out S _ hP) (fun _ h=>⟨rfl,h⟩) ?_
  clear hO hK hP;intro x S3 w4 hr3 hP hk hK hO;rw [hzh.out] at hr3
  obtain⟨rfl,rfl⟩:0=x/\S=S3:=by simpa using hr3
  rw [if_pos rfl] at hO
  have hf:R (.returned (encB true)) w4:=hO.done (v:=true) hP hK
  clear hO hP hK b1 hk hr3;go_wp2_with fail
  first | exact hf | (go_ret;exact hf)
set_option maxRecDepth 100000 in
theorem fzero_z (B p D:Nat)(o:Bool)(S:TS)(r:Reg)(me:Int)(w:World)(h:RAt B w p o S)(hr:r.ok)(hm0:0<=me)(hmr:me<r.n)(hz:o=false->(regR r me).run S=(some 0,S)) :
  Calls Tryz.prog 263 #[.pointer (some ⟨p,0,none⟩),encR r,V Z me] w (RPost encU B p w (zeroP r me (D+1)) o S):=by
 generalize hR:RPost encU B p w (zeroP r me (D+1)) o S=R
 have hO:ROwes R encU B p w (zeroP r me (D+1)) o S:=hR▸rowes _ _ _ _ _ _ _
 clear hR
 have hRd:=fun w (h:RAt B w p false S)=>reg_read_r B p false S r me w h hr ⟨hm0,hmr⟩
 unfold encR at hRd ⊢
 obtain⟨b1,hK,hP⟩:=h.entry (.cells #[V Z r.kind,V Z r.base,V Z r.loc,V Z r.n,V Z r.wr,V Z r.rd,V Z r.top] 67)
 have c_b1:=b1.cells;clear h
 have hRh:=Hd hRd
 have hzh:=Hd hz
 clear hRd hz
 go_enter Tryz.func263,Tryz.ntmps263
 go_wp2_with fail
 clear c_b1
 generalize hbb:w.heap.size=b at *
 generalize World.alloc _ _=W0 at *
 have hOh:=Hd hO;clear hO hbb
 go_loopw [] (fun wr=>W0=wr) (fun _=>0)
 case atStart=>rfl
 case round =>
  subst hrel;have hO:=hOh.out;clear hOh
  obtain⟨_,_,_,_,_,hcc⟩:=hP.cell
  cases o with
  | true =>
    have hf:R (.returned (encU ())) W0:=hO.over () hP hK
    clear hO hP hK b1 hzh hRh;go_wp2_with fail
    first | exact hf | (refine bodyPost_ret (results_none rfl _ _ _) rfl ?_;exact hf)
  | false =>
    rw [zeroP_succ] at hO;have c_b1:=b1.cells
    have hOk:=Hd hO
    clear hO;go_wp2_with fail
    replace hO:=hOk.out;clear c_b1 hOk hcc
    refine (hRh.out _ hP).mono ?_
    rintro e w4 ⟨x,o1,S3,rfl,hRef,hP4,hk⟩
    replace hO:=hO.then hRef;have hr3:=hRef.outcome
    rw [hzh.out (by trivial)] at hr3
    cases o1 with
    | true=>simp at hr3
    | false =>
      obtain⟨rfl,rfl⟩:0=x/\S=S3:=by simpa using hr3
      rw [if_pos rfl] at hO
      have hf:R (.returned (encU ())) w4:=hO.ret hP4 (hK.trans hk)
      clear hO hP hK b1 hk hr3 hP4 hRef hzh hRh;go_wp2_with fail
      first | exact hf | (refine bodyPost_ret (results_none rfl _ _ _) rfl ?_;exact hf)
set_option maxRecDepth 100000 in
set_option maxHeartbeats 1000000 in
theorem fastrel_r (B p N:Nat)(o:Bool)(S:TS)(alg mode base loc room:Int)(m:Nat)(rs:List Reg)(w:World)(h:RAt B w p o S)(h1:1<=N)(h2:N<=8)(hm1:m<N)(hl:layM (fastWants N) N mode base loc=some rs)
  (hok:∀ r∈rs,r.ok/\r.n=N)(hn0:S.nts.length<=100000) :
  Calls Tryz.prog 119 #[.pointer (some ⟨p,0,none⟩),.agg #[V Z alg,V Z N,V Z mode,V Z base,V Z loc,V Z room],V Z m] w (RPost encU B p w (fastR rs m) o S):=by
 have hlen:=layM_len hl
 rw [fastWants_len] at hlen
 generalize hR:RPost encU B p w (fastR rs m) o S=R
 have hO:ROwes R encU B p w (fastR rs m) o S:=hR▸rowes _ _ _ _ _ _ _
 clear hR
 obtain⟨b1,hK,hP⟩:=h.entry (.cells #[V Z alg,V Z N,V Z mode,V Z base,V Z loc,V Z room] 23)
 have c_b1:=b1.cells;clear h;unfold fastR at hO
 obtain⟨r1,hr1⟩:∃ r,rs[1]?=some r:=⟨_,List.getElem?_eq_getElem (by omega)⟩
 obtain⟨rm,hrm⟩:∃ r,rs[2+m]?=some r:=⟨_,List.getElem?_eq_getElem (by omega)⟩
 have hok1:=(hok _ (List.mem_of_getElem? hr1)).1
 have hm1':(m:Int)<r1.n:=by rw [(hok _ (List.mem_of_getElem? hr1)).2];omega
 have hokm:=(hok _ (List.mem_of_getElem? hrm)).1
 have hmm:(m:Int)<rm.n:=by rw [(hok _ (List.mem_of_getElem? hrm)).2];omega
 rw [regAt_of (show (1:Int)=((1:Nat):Int) from rfl) hr1,regAt_of (show (2:Int)+(m:Int)=((2+m:Nat):Int) from by omega) hrm] at hO
 have hw1:=IntWalk.i64_in ((2:Int)+(m:Int)) (by omega)
 have hi2:(2:Int)+(m:Int)<(rs.length:Int):=by omega
 have hi0:0<=(2:Int)+(m:Int):=by omega
 have hi1:((2:Int)+(m:Int)).toNat=2+m:=by omega
 have hj2:(1:Nat)<rs.length:=by omega
 have hj3:(1:Int)<(rs.length:Int):=by omega
 have hrh:=Hd (And.intro hr1 hrm)
 have hlM:=Hd hl
 clear hlen hr1 hrm hok hl
 go_enter Tryz.func119,Tryz.ntmps119
 go_wp2_with fail
 refine (fastregs_r alg mode base loc room N rs _ h1 h2 hlM.out).mono ?_
 rintro e w1 ⟨b,c,rfl,hge,hb,hcells,q1,q2,hx⟩
 have hreg:RegsAt [3,4,5] w1 p b rs:=⟨hb,hP.fresh hx hge,hcells⟩
 replace hK:=hK.trans (Keep.of_ext hx hP.lt hP.le);replace hP:=hP.ext hx;clear hx hcells hge hb c_b1 b1;go_wp2_with fail
 refine rstepN (notes_nt 5) hO hK (note_r B p o S 5 _ hP (by unfold maxAns;omega)) ?_
 clear hO hK hP;intro u o1 S1 w2 _ _ _ hP hk hK hO;replace hreg:=hreg.keep hk;clear hk
 obtain⟨a0,a1,a2,a3,a4,a5,a6⟩:=hreg.nth hrh.out.1
 go_wp2_with fail
 clear a0 a1 a2 a3 a4 a5 a6
 refine rstepL hO hK (fset_r B p o1 S1 r1 m 0 _ hP hok1 ⟨by omega,hm1'⟩) ?_
 clear hO hK hP;intro u o2 S2 w3 _ _ hP hk hK hO;replace hreg:=hreg.keep hk;clear hk
 obtain⟨a0,a1,a2,a3,a4,a5,a6⟩:=hreg.nth hrh.out.2
 go_wp2_with fail
 clear a0 a1 a2 a3 a4 a5 a6 hrh hreg
 refine rlast hO hK (fset_r B p o2 S2 rm m 0 _ hP hokm ⟨by omega,hmm⟩) ?_
 clear hO hK hP;intro u o3 S3 w4 hP hk hK hO
 have hf:R (.returned (encU u)) w4:=hO.ret hP hK
 clear hO hP hK hk;go_wp2_with fail
 first | exact hf | (refine bodyPost_ret (results_none rfl _ _ _) rfl ?_;exact hf)
set_option maxRecDepth 100000 in
set_option maxHeartbeats 1000000 in
theorem fastrel_p (B p N:Nat)(S:TS)(alg mode base loc room:Int)(m:Nat)(rs:List Reg)(w:World)(h:Plays B w p S)(h1:1<=N)(h2:N<=8)(hm1:m<N)(hl:layM (fastWants N) N mode base loc=some rs)
  (hok:∀ r∈rs,r.ok/\r.n=N)(hn0:S.nts.length<=100000) :
  Calls Tryz.prog 193 #[.pointer (some ⟨p,0,none⟩),.agg #[V Z alg,V Z N,V Z mode,V Z base,V Z loc,V Z room],V Z m] w (Post encU B p w ((fastR rs m).run S)):=by
 have hlen:=layM_len hl
 rw [fastWants_len] at hlen
 generalize hR:Post encU B p w ((fastR rs m).run S)=R
 have hO:Owes R encU B p w ((fastR rs m).run S):=hR▸owes _ _ _ _ _
 clear hR
 obtain⟨b1,hK,hP⟩:=h.entry (.cells #[V Z alg,V Z N,V Z mode,V Z base,V Z loc,V Z room] 23)
 have c_b1:=b1.cells;clear h;unfold fastR at hO
 go_enter Tryz.func193,Tryz.ntmps193
 go_wp2_with fail
 refine (fastlay_p alg mode base loc room m N rs _ h1 h2 hl (by omega) (by omega)).mono ?_
 rintro e w1 ⟨b,c,rfl,hge,hb,hcells,q1,q2,hx⟩
 have hreg:RegsAt [2,3,4] w1 p b rs:=⟨hb,hP.fresh hx hge,hcells⟩
 replace hK:=hK.trans (Keep.of_ext hx hP.lt hP.le);replace hP:=hP.ext hx
 obtain⟨r1,hr1⟩:∃ r,rs[1]?=some r:=⟨_,List.getElem?_eq_getElem (by omega)⟩
 obtain⟨rm,hrm⟩:∃ r,rs[2+m]?=some r:=⟨_,List.getElem?_eq_getElem (by omega)⟩
 have hok1:=(hok _ (List.mem_of_getElem? hr1)).1
 have hm1':(m:Int)<r1.n:=by rw [(hok _ (List.mem_of_getElem? hr1)).2];omega
 have hokm:=(hok _ (List.mem_of_getElem? hrm)).1
 have hmm:(m:Int)<rm.n:=by rw [(hok _ (List.mem_of_getElem? hrm)).2];omega
 rw [regAt_of (show (1:Int)=((1:Nat):Int) from rfl) hr1,regAt_of (show (2:Int)+(m:Int)=((2+m:Nat):Int) from by omega) hrm] at hO
 have hw1:=IntWalk.i64_in ((2:Int)+(m:Int)) (by omega)
 have hi2:(2:Int)+(m:Int)<(rs.length:Int):=by omega
 have hi0:0<=(2:Int)+(m:Int):=by omega
 have hi1:((2:Int)+(m:Int)).toNat=2+m:=by omega
 have hj2:(1:Nat)<rs.length:=by omega
 have hj3:(1:Int)<(rs.length:Int):=by omega
 have hrh:=Hd (And.intro hr1 hrm)
 clear hx hcells hge hb b1 c_b1 hlen hr1 hrm hl hok;go_wp2_with fail
 refine tstepN (notes_nt 5) hO hK (noteO hP (by unfold maxAns;omega)) (fun _ h=>⟨rfl,h⟩) ?_
 clear hO hK hP;intro u S1 w2 _ _ _ hP hk hK hO;replace hreg:=hreg.keep hk;clear hk
 obtain⟨a0,a1,a2,a3,a4,a5,a6⟩:=hreg.nth hrh.out.1
 go_wp2_with fail
 clear a0 a1 a2 a3 a4 a5 a6
 refine tstepN (notes_regW _ _ _) hO hK (reg_write_p B p S1 r1 m 0 _ hP hok1 ⟨by omega,hm1'⟩) (fun _ h=>⟨rfl,h⟩) ?_
 clear hO hK hP;intro u S2 w3 _ _ _ hP hk hK hO;replace hreg:=hreg.keep hk;clear hk
 obtain⟨a0,a1,a2,a3,a4,a5,a6⟩:=hreg.nth hrh.out.2
 go_wp2_with fail
 clear a0 a1 a2 a3 a4 a5 a6 hrh hreg
 refine tlast hO hK (reg_write_p B p S2 rm m 0 _ hP hokm ⟨by omega,hmm⟩) (fun _ h=>⟨rfl,h⟩) ?_
 clear hO hK hP;intro u S3 w4 hr hP hk hK hO
 have hf:=hO.done hP hK
 clear hO hP hK hr hk;go_wp2_with fail
 first | exact hf | (refine bodyPost_ret (results_none rfl _ _ _) rfl ?_;exact hf)
end Go.Proofs.YtbaajjkopdjbgaaGreat
namespace Kv
theorem fastTry_bind {β:Type}(N:Nat)(l:List Reg)(n me:Int)(k:Nat)(f:Unit->Prog β):(fastTry N l n me (k+1)).bind f =
  (regW (regAt l (2+me)) me 1).bind fun _=>(regW (regAt l 0) me (me+1)).bind fun _=>(regR (regAt l 1) me).bind fun y =>
    if y=0 then
     (regW (regAt l 1) me (me+1)).bind fun _=>(regR (regAt l 0) me).bind fun x =>
       if x=me+1 then f () else
        (regW (regAt l (2+me)) me 0).bind fun _=>(forP (fun j _=>zeroP (regAt l (2+j)) me N) (ranksFrom (-1) n.toNat 0) ()).bind fun _ =>
          (regR (regAt l 1) me).bind fun y=>if y=me+1 then f () else (zeroP (regAt l 1) me N).bind fun _=>(fastTry N l n me k).bind f
    else (regW (regAt l (2+me)) me 0).bind fun _=>(zeroP (regAt l 1) me N).bind fun _=>(fastTry N l n me k).bind f:=by
 simp only [fastTry,Prog.bind_assoc]
 congr 1;funext _;congr 1;funext _;congr 1;funext y
 by_cases hy:y=0
 · simp only [if_pos hy,Prog.bind_assoc]
   congr 1;funext _;congr 1;funext x
   by_cases hx:x=me+1
   · simp only [if_pos hx];rfl
   · simp only [if_neg hx,Prog.bind_assoc]
     congr 1;funext _;congr 1;funext _;congr 1;funext z
     by_cases hz:z=me+1
     · simp only [if_pos hz];rfl
     · simp only [if_neg hz,Prog.bind_assoc]
 · simp only [if_neg hy,Prog.bind_assoc]
theorem zeroT_bind {β:Type}(r:Reg)(me:Int)(D:Nat)(f:Unit->Prog β):(zeroP r me D).bind f=((zeroP r me D).bind fun _=>Prog.ret true).bind fun _=>f ():=by
 rw [Prog.bind_assoc];rfl
theorem zeroT_run {r:Reg}{me:Int}{D:Nat}{S S1:TS}{v:Bool}(h:((zeroP r me D).bind fun _=>Prog.ret true).run S=(some v,S1)):v=true/\(zeroP r me D).run S=(some (),S1):=by
 rw [Prog.run_bind] at h
 rcases hr:(zeroP r me D).run S with⟨o,S2⟩
 rw [hr] at h
 cases o with
 | none=>simp [thenR] at h
 | some u =>
   simp only [thenR,Prog.run,Prod.mk.injEq,Option.some.injEq] at h
   exact⟨h.1.symm,by rw [<- h.2]⟩
theorem notes_zeroT (r:Reg)(me:Int)(D:Nat):((zeroP r me D).bind fun _=>Prog.ret true).Notes 0:=(notes_zeroP r me D).bind0 fun _=>.ret _ _
end Kv
namespace Go.Proofs.YtbaajjkopdjbgaaGreat
open Go.RowKit Kv
theorem tstepA {α β:Type}{B p:Nat}{w0 w:World}{S:TS}{R:Ending->World->Prop}{P:Program}{f:FuncId}{args:Array Value}{K:Ending->World->Prop}{enc:α->Value}{enc':β->Value}{T:Prog α}{g:α->Prog β}{k:Nat}(hN:T.Notes k)
  (hO:Owes R enc' B p w0 ((T.bind g).run S))(hB:KeepP B p w0 w)(h:Calls P f args w (Post enc B p w (T.run S)))(hp:∀ w',R (stopE p) w'->K (stopE p) w')
  (hk:∀ v S1 w1,T.run S=(some v,S1)->S1.left<=S.left->(T.Asks->S1.left<S.left)->S1.nts.length<=S.nts.length+k->Plays B w1 p S1->KeepP B p w w1->KeepP B p w0 w1->Owes R enc' B p w0 ((g v).run S1)->K (.returned (enc v)) w1):Calls P f args w K:=by
 refine tstep hO hB h hp fun v S1 w1 hr hP hk1 hk2 hO1=>hk v S1 w1 hr ?_ (fun ha=>ha.left hr hP.1) ?_ hP hk1 hk2 hO1
 · have:=Prog.run_left T S
   rw [hr] at this
   exact this
 · have:=hN.run S
   rw [hr] at this
   exact this
theorem two_laid {B p b:Nat}{w:World}{S:TS}{rs:List Reg}(h:Plays B w p S)(hl:RegsAt [2,3,4] w p b rs)(o1 o2:Obj) :
  HeldP ((w.alloc o1).alloc o2).drew p w.heap.size o1/\HeldP ((w.alloc o1).alloc o2).drew p (w.heap.size+1) o2/\Plays B ((w.alloc o1).alloc o2).drew p S/\KeepP B p w ((w.alloc o1).alloc o2).drew/\RegsAt [2,3,4] ((w.alloc o1).alloc o2).drew p b rs:=by
 have h2:=(h.alloc o1).held o2
 rw [World.size_alloc] at h2
 exact⟨((h.held o1).alloc o2 (h.alloc o1).lt).drew,h2.drew,((h.alloc o1).alloc o2).drew,((Keep.alloc o1 h.lt h.le).trans (Keep.alloc o2 (h.alloc o1).lt (h.alloc o1).le)).drew,hl.extL ((((Ext.refl w).alloc o1).alloc o2).drew) h.lt⟩
end Go.Proofs.YtbaajjkopdjbgaaGreat
namespace Kv
open Go
def FrG:List Bool->List Value->(List Value->Prop)->Prop
 | [],l,G=>G l
 | _ :: _,[],G=>G []
 | true :: m,_ :: l,G=>∀ u:Value,FrG m l fun r=>G (u :: r)
 | false :: m,v :: l,G=>FrG m l fun r=>G (v :: r)
def fillM:List Bool->List Value->List Value->List Value
 | [],l,_=>l
 | _ :: _,[],_=>[]
 | _ :: _,_ :: _,[]=>[]
 | true :: m,_ :: l,u :: r=>u :: fillM m l r
 | false :: m,v :: l,_ :: r=>v :: fillM m l r
theorem frG_all:∀ (m:List Bool) (l:List Value) (G:List Value->Prop),FrG m l G->∀ r,r.length=l.length->r=fillM m l r->G r
 | [],l,G,h,r,_,he=>by
   rw [fillM] at he
   rw [he]
   exact h
 | _ :: _,[],G,h,r,hl,_=>by
   obtain rfl:r=[]:=List.length_eq_zero_iff.1 hl
   exact h
 | _ :: _,_ :: _,G,h,[],hl,_=>by simp at hl
 | true :: m,v :: l,G,h,u :: r,hl,he=>by
   rw [FrG] at h;rw [fillM] at he
   injection he with _ he
   exact frG_all m l (fun r=>G (u :: r)) (h u) r (by simpa using hl) he
 | false :: m,v :: l,G,h,u :: r,hl,he=>by
   rw [FrG] at h;rw [fillM] at he
   injection he with h1 he
   subst h1
   exact frG_all m l (fun r=>G (u :: r)) h r (by simpa using hl) he
structure SameM (m:List Bool) (t:Array Value) (a:Act):Prop where
 defers:a.defers=[]
 size:a.tmps.toList.length=t.toList.length
 slots:a.tmps.toList=fillM m t.toList a.tmps.toList
section
variable {P:Program} {w:World} {Q:Exit->Act->World->Prop}
theorem wp_scope_mask {c:Code}{t:Array Value}(m:List Bool)(J:Nat->World->Prop)(μ:Nat->World->Nat)
  (pass:∀ l w,J l w->(∀ l' rest a' w',findLabel c l'=some (.seq .skip rest)->SameM m t a'->J l' w'->μ l' w'<μ l w->rest.wp P (Jumps (fun l2 a2 w2=>(SameM m t a2/\J l2 w2)/\μ l2 w2<μ l w) Q) a' w') ->
    FrG m t.toList fun r=>∃ rest,findLabel c l=some (.seq .skip rest)/\rest.wp P (Jumps (fun l2 a2 w2=>(SameM m t a2/\J l2 w2)/\μ l2 w2<μ l w) Q) ⟨r.toArray,[]⟩ w)
  (first:(∀ l rest a w,findLabel c l=some (.seq .skip rest)->SameM m t a->J l w->rest.wp P (Jumps (fun l a w=>SameM m t a/\J l w) Q) a w)->c.wp P (Jumps (fun l a w=>SameM m t a/\J l w) Q) ⟨t,[]⟩ w):(Code.scope c).wp P Q ⟨t,[]⟩ w:=by
 refine wp_scope_fall (fun l a w=>SameM m t a/\J l w) (fun l _ w=>μ l w) ?_ fun hf=>first fun l rest a w h1 h2 h3=>hf l rest a w h1 ⟨h2,h3⟩
 have key:∀ n l a w,μ l w=n->SameM m t a->J l w->∃ rest,findLabel c l=some (.seq .skip rest)/\rest.wp P (Jumps (fun l2 a2 w2=>(SameM m t a2/\J l2 w2)/\μ l2 w2<μ l w) Q) a w:=by
  intro n
  induction n using Nat.strongRecOn with
  | _ n ih =>
    intro l a w hn hs hj
    have h:=pass l w hj fun l' rest a' w' hl' hs' hj' hlt=>by
     obtain⟨rest',hr',hp⟩:=ih (μ l' w') (by omega) l' a' w' rfl hs' hj'
     obtain rfl:rest=rest':=by rw [hl'] at hr';simpa using hr'
     refine Code.wp_mono (fun e a2 w2 hq=>?_) hp
     cases e with
     | goto l2=>exact⟨hq.1,Nat.lt_trans hq.2 hlt⟩
     | normal=>exact hq
     | exit id=>exact hq
     | ret=>exact hq
     | panic ch=>exact hq
     | outgrown=>exact hq
    have h2:=frG_all m t.toList _ h a.tmps.toList hs.size hs.slots
    obtain⟨⟨tl⟩,d⟩:=a
    obtain rfl:d=[]:=hs.defers
    exact h2
 exact fun l a w h=>key _ l a w rfl h.1 h.2
end
end Kv
