/-
  YangPlaysSaid: part 3 of its proof.
-/
import Derived.Test.YtbphlkaihfbgeaaGreatJYangPlaysSaid2
import Derived.Laws.StructEq
namespace Go.Proofs.YtbphlkaihfbgeaaGreat
open Go.RowKit Kv
def Vals (w:World) (A:Option Addr) (vals:List Value):Prop:=vals≠[]->∃ b,A=some ⟨b,0,none⟩/\b<w.heap.size/\∀ i u,vals[i]?=some u->w.cell? ⟨b,i,none⟩=some u
theorem Vals.ext {w w':World}{A:Option Addr}{vals:List Value}(h:Vals w A vals)(hx:Ext w w'):Vals w' A vals:=by
 intro hne
 obtain⟨b,rfl,hb,hc⟩:=h hne
 exact⟨b,rfl,Nat.lt_of_lt_of_le hb hx.size,fun i u hu=>(hx.cell (p:=⟨b,i,none⟩) hb).trans (hc i u hu)⟩
theorem vals_row {w:World}{B e size n:Nat}{v:Value}{xs:List Value}(h:w.ownsRow B e size v n xs):∃ A c,v=.slice A n c/\n<=c/\c<=9223372036854775807/\Vals w A xs:=by
 have h':=h
 obtain⟨hl,h2⟩:=h
 rcases h2 with⟨rfl,h0⟩ | ⟨g,cap,cur,rfl,hg,hh,hn,hm,hs,ht⟩
 · subst h0
   refine⟨none,0,rfl,Nat.le_refl _,by omega,fun hne=>absurd ?_ hne⟩
   simpa using hl
 · refine⟨_,_,rfl,hn,by unfold maxLen at hm;exact hm,fun _=>⟨g,rfl,(Array.getElem?_eq_some_iff.1 hh).1,fun i u hi=>?_⟩⟩
   have hc:=World.ownsRow.cells h' (g:=g) rfl i u hi
   rw [Addr.add_lit,Nat.zero_add] at hc
   exact hc
theorem accVals_at:∀ (l:List Acc) (i:Nat) (a:Acc),l[i]?=some a->(accVals l)[3*i]?=some (.int .i64 a.kind)/\(accVals l)[3*i+1]?=some (.int .i64 a.cell)/\(accVals l)[3*i+2]?=some (.int .i64 a.val)
 | [],i,a,h=>by simp at h
 | x :: l,0,a,h=>by
   obtain rfl:x=a:=by simpa using h
   exact⟨rfl,rfl,rfl⟩
 | x :: l,i+1,a,h=>by
   have:=accVals_at l i a (by simpa using h)
   rw [show accVals (x :: l)=[.int .i64 x.kind,.int .i64 x.cell,.int .i64 x.val]++accVals l from rfl]
   refine⟨?_,?_,?_⟩
   · rw [List.getElem?_append_right (by simp;omega)];simpa [show 3*(i+1)-3=3*i by omega] using this.1
   · rw [List.getElem?_append_right (by simp;omega)];simpa [show 3*(i+1)+1-3=3*i+1 by omega] using this.2.1
   · rw [List.getElem?_append_right (by simp;omega)];simpa [show 3*(i+1)+2-3=3*i+2 by omega] using this.2.2
theorem ntVals_at:∀ (l:List Nt) (i:Nat) (a:Nt),l[i]?=some a->(ntVals l)[2*i]?=some (.int .i64 a.kind)/\(ntVals l)[2*i+1]?=some (.int .i64 a.pos)
 | [],i,a,h=>by simp at h
 | x :: l,0,a,h=>by
   obtain rfl:x=a:=by simpa using h
   exact⟨rfl,rfl⟩
 | x :: l,i+1,a,h=>by
   have:=ntVals_at l i a (by simpa using h)
   rw [show ntVals (x :: l)=[.int .i64 x.kind,.int .i64 x.pos]++ntVals l from rfl]
   refine⟨?_,?_⟩
   · rw [List.getElem?_append_right (by simp;omega)];simpa [show 2*(i+1)-2=2*i by omega] using this.1
   · rw [List.getElem?_append_right (by simp;omega)];simpa [show 2*(i+1)+1-2=2*i+1 by omega] using this.2
def AccAt (w:World) (A:Option Addr) (l:List Acc):Prop:=Vals w A (accVals l)
def NtAt (w:World) (A:Option Addr) (l:List Nt):Prop:=Vals w A (ntVals l)
theorem AccAt.at_ {w:World}{A:Option Addr}{l:List Acc}(h:AccAt w A l){i:Nat}{a:Acc}(hi:l[i]?=some a) :
  ∃ b,A=some ⟨b,0,none⟩/\b<w.heap.size/\w.cell? ⟨b,i*3,none⟩=some (.int .i64 a.kind)/\w.cell? ⟨b,i*3+1,none⟩=some (.int .i64 a.cell)/\w.cell? ⟨b,i*3+2,none⟩=some (.int .i64 a.val):=by
 obtain⟨h0,h1,h2⟩:=accVals_at l i a hi
 obtain⟨b,rfl,hb,hc⟩:=h (fun e=>by rw [e] at h0;simp at h0)
 rw [Nat.mul_comm i 3]
 exact⟨b,rfl,hb,hc _ _ h0,hc _ _ h1,hc _ _ h2⟩
theorem NtAt.at_ {w:World}{A:Option Addr}{l:List Nt}(h:NtAt w A l){i:Nat}{a:Nt}(hi:l[i]?=some a) :
  ∃ b,A=some ⟨b,0,none⟩/\b<w.heap.size/\w.cell? ⟨b,i*2,none⟩=some (.int .i64 a.kind)/\w.cell? ⟨b,i*2+1,none⟩=some (.int .i64 a.pos):=by
 obtain⟨h0,h1⟩:=ntVals_at l i a hi
 obtain⟨b,rfl,hb,hc⟩:=h (fun e=>by rw [e] at h0;simp at h0)
 rw [Nat.mul_comm i 2]
 exact⟨b,rfl,hb,hc _ _ h0,hc _ _ h1⟩
structure OutIs (w:World) (d:Bool) (S:TS) (A:Option Addr) (c:Nat) (A':Option Addr) (c':Nat) (vs:Value) (L:List Int):Prop where
 accs:AccAt w A S.acc
 nts:NtAt w A' S.nts
 locs:Ints w vs (shortL L)
 is:LocIs L S.loc
 len:L.length<=32768
 accc:S.acc.length<=c/\c<=9223372036854775807
 ntsc:S.nts.length<=c'/\c'<=9223372036854775807
def outV (d:Bool) (S:TS) (A:Option Addr) (c:Nat) (A':Option Addr) (c':Nat) (vs:Value):Value:=.agg #[.bool d,.slice A S.acc.length c,.slice A' S.nts.length c',vs]
theorem OutIs.ext {w w':World}{d:Bool}{S:TS}{A:Option Addr}{c:Nat}{A':Option Addr}{c':Nat}{vs:Value}{L:List Int}(h:OutIs w d S A c A' c' vs L)(hx:Ext w w'):OutIs w' d S A c A' c' vs L :=
 { h with accs:=Vals.ext h.accs hx,nts:=Vals.ext h.nts hx,locs:=h.locs.ext hx }
def Outs (w:World) (v:Value) (d:Bool) (S:TS):Prop:=∃ A c A' c' vs L,v=outV d S A c A' c' vs/\OutIs w d S A c A' c' vs L
theorem Outs.ext {w w':World}{v:Value}{d:Bool}{S:TS}(h:Outs w v d S)(hx:Ext w w'):Outs w' v d S:=by
 obtain⟨A,c,A',c',vs,L,rfl,h⟩:=h
 exact⟨A,c,A',c',vs,L,rfl,h.ext hx⟩
theorem outs_of {w:World}{B:Nat}{d:Bool}{S:TS}{vC vN vs:Value}{L:List Int}(h1:w.ownsRow B 56 3 vC S.acc.length (accVals S.acc))(h2:w.ownsRow B 77 2 vN S.nts.length (ntVals S.nts))(h3:Ints w vs (shortL L))(h4:LocIs L S.loc)(h5:L.length<=32768) :
  Outs w (.agg #[.bool d,vC,vN,vs]) d S:=by
 obtain⟨A,c,rfl,q1,q2,q3⟩:=vals_row h1
 obtain⟨A',c',rfl,r1,r2,r3⟩:=vals_row h2
 exact⟨A,c,A',c',vs,L,rfl,q3,r3,h3,h4,h5,⟨q1,q2⟩,⟨r1,r2⟩⟩
theorem dout_r (B p:Nat)(o:Bool)(S:TS)(w:World)(h:RAt B w p o S) :
  Calls Tryz.prog 22 #[.pointer (some ⟨p,0,none⟩)] w fun e w'=>∃ v,e=.returned v/\Outs w' v (!o) S/\Ext w w' :=
 (out_r B p o S w h).mono fun _ _ ⟨_,_,_,_,he,h1,h2,h3,h4,h5,hx⟩=>⟨_,he,outs_of h1 h2 h3 h4 h5,hx⟩
end Go.Proofs.YtbphlkaihfbgeaaGreat
namespace Kv
structure Want where
 wr:Int
 top:Int
def topM (t:Int):Int:=if clamp t 255=0 then 1 else clamp t 255
def kindM (mode w:Int):Int:=if mode=2 then (if 0<=w then 6 else 7) else 1
def regOf (n mode b l:Int) (q:Want):Reg:=⟨kindM mode q.wr,b,l,n,q.wr,-1,topM q.top⟩
def cellsM (r:Reg):Int:=if r.kind=1 then 1 else if r.kind=6 then 16*(r.n-1)*(r.n-1) else 16*(r.n-1)*(r.n-1)*r.n
def localsM (r:Reg):Int:=if r.kind=1 then 0 else if r.kind=6 then 2+18*(r.n-1)*(r.n-1) else r.n*(2+18*(r.n-1)*(r.n-1))
def fineM (r:Reg):Bool:=decide (r.base<=32768)&&decide (r.loc<=32768)&&decide (r.base+cellsM r<=32768)&&decide (r.loc+localsM r<=32768)
def layFrom (n mode:Int):List Want->Int->Int->Option (List Reg)
 | [],_,_=>some []
 | q :: l,b,c=>if fineM (regOf n mode b c q) then (layFrom n mode l (b+cellsM (regOf n mode b c q)) (c+localsM (regOf n mode b c q))).map (regOf n mode b c q :: ·) else none
def argsM (l:List Want) (n mode b c:Int):Bool:=decide (1<=mode/\mode<=2/\1<=n/\n<=8/\0<=b/\0<=c)&&l.all fun q=>decide (-1<=q.wr/\q.wr<n)
def layM (l:List Want) (n mode b c:Int):Option (List Reg):=if argsM l n mode b c then layFrom n mode l b c else none
theorem topM_bd (t:Int):1<=topM t/\topM t<=255:=by
 unfold topM clamp within
 split <;> omega
theorem cells_nat (r:Reg)(h:1<=r.n/\r.n<=8):0<=cellsM r/\cellsM r<=6272/\0<=localsM r/\localsM r<=7072:=by
 obtain⟨h1,h2⟩:=h
 have:r.n=1∨r.n=2∨r.n=3∨r.n=4∨r.n=5∨r.n=6∨r.n=7∨r.n=8:=by omega
 unfold cellsM localsM
 rcases this with h | h | h | h | h | h | h | h <;> rw [h] <;> (split <;> (try split) <;> omega)
structure Laid (n mode:Int) (q:Want) (r:Reg):Prop where
 is:∃ b c,r=regOf n mode b c q/\0<=b/\0<=c
 fine:fineM r=true
theorem layFrom_laid (n mode:Int)(hn:1<=n/\n<=8):∀ (l:List Want) (b c:Int) (rs:List Reg),0<=b->0<=c->layFrom n mode l b c=some rs ->
  rs.length=l.length/\∀ (i:Nat) q,l[i]?=some q->∃ r,rs[i]?=some r/\Laid n mode q r
 | [],b,c,rs,_,_,h=>by
   obtain rfl:[]=rs:=by simpa [layFrom] using h
   exact⟨rfl,fun i q hq=>by simp at hq⟩
 | q :: l,b,c,rs,hb,hc,h=>by
   unfold layFrom at h
   split at h
   · rename_i hf
     have hz:=cells_nat (regOf n mode b c q) hn
     cases hr:layFrom n mode l (b+cellsM (regOf n mode b c q)) (c+localsM (regOf n mode b c q)) with
     | none=>rw [hr] at h;cases h
     | some rs' =>
       rw [hr] at h
       obtain rfl:regOf n mode b c q :: rs'=rs:=by simpa using h
       obtain⟨e,g⟩:=layFrom_laid n mode hn l _ _ rs' (by omega) (by omega) hr
       refine⟨by simp [e],fun i q' hq=>?_⟩
       cases i with
       | zero =>
         obtain rfl:q=q':=by simpa using hq
         exact⟨_,rfl,⟨b,c,rfl,hb,hc⟩,hf⟩
       | succ i=>exact g i q' (by simpa using hq)
   · cases h
theorem layM_args {l:List Want}{n mode b c:Int}{rs:List Reg}(h:layM l n mode b c=some rs):(1<=mode/\mode<=2/\1<=n/\n<=8/\0<=b/\0<=c)/\(∀ q∈l,-1<=q.wr/\q.wr<n)/\layFrom n mode l b c=some rs:=by
 unfold layM at h
 split at h
 · rename_i ha
   unfold argsM at ha
   rw [Bool.and_eq_true,decide_eq_true_eq,List.all_eq_true] at ha
   exact⟨ha.1,fun q hq=>by simpa using ha.2 q hq,h⟩
 · cases h
theorem layM_len {l:List Want}{n mode b c:Int}{rs:List Reg}(h:layM l n mode b c=some rs):rs.length=l.length:=by
 obtain⟨⟨_,_,hn1,hn2,hb,hc⟩,_,hf⟩:=layM_args h
 exact (layFrom_laid n mode ⟨hn1,hn2⟩ l b c rs hb hc hf).1
theorem layM_at {l:List Want}{n mode b c:Int}{rs:List Reg}(h:layM l n mode b c=some rs){i:Nat}{q:Want}(hq:l[i]?=some q):∃ r,rs[i]?=some r/\Laid n mode q r:=by
 obtain⟨⟨_,_,hn1,hn2,hb,hc⟩,_,hf⟩:=layM_args h
 exact (layFrom_laid n mode ⟨hn1,hn2⟩ l b c rs hb hc hf).2 i q hq
theorem Laid.ok {n mode:Int}{q:Want}{r:Reg}(h:Laid n mode q r)(hn:1<=n/\n<=8)(hw:-1<=q.wr/\q.wr<n):r.ok/\r.n=n/\r.wr=q.wr:=by
 obtain⟨⟨b,c,rfl,hb,hc⟩,hf⟩:=h
 have hf2:b<=32768/\c<=32768:=by
  unfold fineM regOf at hf
  simp only [Bool.and_eq_true,decide_eq_true_eq] at hf
  omega
 refine⟨⟨?_,⟨hb,hf2.1⟩,⟨hc,hf2.2⟩,hn,fun hk=>?_⟩,rfl,rfl⟩
 · show kindM mode q.wr=1∨kindM mode q.wr=6∨kindM mode q.wr=7
   unfold kindM
   split
   · split <;> omega
   · omega
 · show 0<=q.wr/\q.wr<n
   have hk:kindM mode q.wr=6:=hk
   unfold kindM at hk
   split at hk
   · split at hk <;> omega
   · omega
end Kv
namespace Go.Proofs.YtbphlkaihfbgeaaGreat
open Go.RowKit Kv
theorem readers_r (r:Reg)(w:World)(h1:1<=r.n)(h2:r.n<=8)(h3:0<=r.wr)(h4:r.wr<r.n) :
  Calls Tryz.prog 135 #[encR r] w fun e w'=>∃ A c,e=.returned (.slice A (rdrs r.wr r.n.toNat).length c)/\Ints w' (.slice A (rdrs r.wr r.n.toNat).length c) (rdrs r.wr r.n.toNat)/\Ext w w':=by
 obtain⟨kind,base,loc,n,wr,rd,top⟩:=r
 simp only at h1 h2 h3 h4 ⊢
 obtain⟨N,rfl⟩:∃ N:Nat,n=(N:Int):=⟨n.toNat,by omega⟩
 obtain⟨W,rfl⟩:∃ N:Nat,wr=(N:Int):=⟨wr.toNat,by omega⟩
 rw [Int.toNat_natCast]
 unfold encR
 have hX:=Ext.refl w
 have b1:=Blk.new w (.cells #[.int .i64 kind,.int .i64 base,.int .i64 loc,.int .i64 (N:Int),.int .i64 (W:Int),.int .i64 rd,.int .i64 top] 87)
 replace hX:=hX.alloc (.cells #[.int .i64 kind,.int .i64 base,.int .i64 loc,.int .i64 (N:Int),.int .i64 (W:Int),.int .i64 rd,.int .i64 top] 87)
 have c_b1:=b1.cells
 go_enter Tryz.func135,Tryz.ntmps135
 go_wp2_with fail
 generalize w.alloc _=w0 at *
 have hb0:=b1.lt
 go_loopw [3,4] (fun v i wr=>∃ j:Nat,j<=N/\i=.int .i64 j/\IntRow wr w0.heap.size v (rdrs W j)/\Ext w0 wr) (fun _ i _=>N-(intOf i).toNat)
 case atStart=>exact⟨0,by omega,rfl,IntRow.nil _ _,Ext.refl _⟩
 case round =>
  clear c_b1
  obtain⟨j,hj,rfl,hown,hE⟩:=hrel
  replace b1:=b1.ext hE
  have c_b1:=b1.cells
  have hl:=rdrs_len W j
  by_cases hlt:j<N
  · go_wp2_with fail
    refine (rn_r ⟨kind,base,loc,(N:Int),(W:Int),rd,top⟩ _ h1 h2).mono ?_
    rintro e w2 ⟨rfl,hx⟩
    clear c_b1
    replace b1:=b1.ext hx
    have c_b1:=b1.cells
    replace hown:IntRow _ _ _ _:=row_ext hown hx
    replace hE:=hE.trans hx
    clear hx
    go_wp2_with fail
    refine (rwriter_r ⟨kind,base,loc,(N:Int),(W:Int),rd,top⟩ _ h1 h2 h3 h4).mono ?_
    rintro e w2 ⟨rfl,hx⟩
    clear c_b1
    replace b1:=b1.ext hx
    have c_b1:=b1.cells
    replace hown:IntRow _ _ _ _:=row_ext hown hx
    replace hE:=hE.trans hx
    clear hx
    have hsz:=hE.size
    by_cases hjw:j=W
    · have hs:rdrs (W:Int) (j+1)=rdrs (W:Int) j:=by
       show (if (j:Int)=W then _ else _)=_
       rw [if_pos (by omega)]
      rw [<- hs] at hown
      subst hjw
      clear hs hl
      go_wp2_with fail
      go_roundw
      case rel=>exact⟨j+1,by omega,by go_num,hown,hE⟩
      case measure=>simp [intOf];omega
    · have hs:rdrs (W:Int) (j+1)=rdrs (W:Int) j++[(j:Int)]:=by
       show (if (j:Int)=W then _ else _)=_
       rw [if_neg (by omega)]
      have hjb:((j:Int) != (W:Int))=true:=by rw [bne_iff_ne];omega
      have H1:=Lib.hid hs
      have hl2:(rdrs (W:Int) j).length<1000:=by rw [hl];split <;> omega
      clear hs hjw hl
      go_wp2_with (at_builtin;refine append_int rfl _ _ rfl w0.heap.size _ (rdrs W j) (j:Int) hown rfl rfl (by omega) hsz ?_)
      intro v' w1 hown' hgrow
      have hE':=hE.appended hown hgrow
      rw [<- H1.out] at hown'
      clear hown hgrow
      go_wp2_with fail
      go_roundw
      case rel=>exact⟨j+1,by omega,by go_num,hown',hE'⟩
      case measure=>simp [intOf];omega
  · obtain rfl:j=N:=by omega
    go_wp2_with fail
    refine (rn_r ⟨kind,base,loc,(j:Int),(W:Int),rd,top⟩ _ h1 h2).mono ?_
    rintro e w2 ⟨rfl,hx⟩
    clear c_b1
    replace hown:IntRow _ _ _ _:=row_ext hown hx
    replace hE:=hE.trans hx
    obtain⟨A,c,rfl,hc1,hc2⟩:=hown.ints.slice
    have hf:=hown.ints
    have hX2:=Lib.hid (hX.trans hE)
    clear hx hE hX hown hl
    go_wp2_with fail
    go_ret
    exact⟨A,c,rfl,hf,hX2.out⟩
theorem tellsD_bd (k a _b:Int)(hk:1<=k/\k<=7)(ha:0<=a/\a<k):0<=a*(k-1)/\a*(k-1)<=36:=by
 have h1:0<=a*(k-1):=Int.mul_nonneg (by omega) (by omega)
 have h2:a*(k-1)<=6*6:=Int.mul_le_mul (by omega) (by omega) (by omega) (by omega)
 omega
def stepD (i j:Int):Int:=if j > i then j-1 else j
theorem tells_eq (k a b:Int):tellsM k a b=k+a*(k-1)+stepD a b:=rfl
theorem stepD_0 (i:Nat):stepD i 0=0:=by unfold stepD;rw [if_neg (by omega)]
theorem stepD_same (i:Nat):stepD i ((i:Int)+1)=stepD i i:=by unfold stepD;rw [if_pos (by omega),if_neg (by omega)];omega
theorem stepD_next (i j:Nat)(h:i≠j):stepD i ((j:Int)+1)=stepD i j+1:=by unfold stepD;split <;> split <;> omega
theorem stepD_end (i k:Nat)(h:i<k):stepD i k=(k:Int)-1:=by unfold stepD;rw [if_pos (by omega)]
theorem stepD_bd (i j:Nat):0<=stepD i j/\stepD i j<=j:=by unfold stepD;split <;> omega
set_option maxHeartbeats 2000000 in
theorem tells_r (r:Reg)(a b:Int)(w:World)(h1:1<=r.n)(h2:r.n<=8)(h3:0<=r.wr)(h4:r.wr<r.n)(ha:0<=a/\a<r.n-1)(hb:0<=b/\b<r.n-1)(hab:a≠b)(hb1:0<=r.base)(hb2:r.base<=56000)(hl1:0<=r.loc)(hl2:r.loc<=56000) :
  Calls Tryz.prog 141 #[encR r,.int .i64 a,.int .i64 b] w fun e w'=>e=.returned (encR ⟨0,r.base+16*tellsM (r.n-1) a b,r.loc+(2+18*tellsM (r.n-1) a b),0,0,0,0⟩)/\Ext w w':=by
 obtain⟨kind,base,loc,n,wr,rd,top⟩:=r
 simp only at h1 h2 h3 h4 ha hb hb1 hb2 hl1 hl2 ⊢
 obtain⟨k,rfl⟩:∃ k:Nat,n=(k:Int)+1:=⟨(n-1).toNat,by omega⟩
 obtain⟨a,rfl⟩:∃ k:Nat,a=(k:Int):=⟨a.toNat,by omega⟩
 obtain⟨b,rfl⟩:∃ k:Nat,b=(k:Int):=⟨b.toNat,by omega⟩
 have hlen:(rdrs wr ((k:Int)+1).toNat).length=k:=by
  obtain⟨W,rfl⟩:∃ N:Nat,wr=(N:Int):=⟨wr.toNat,by omega⟩
  rw [rdrs_len,if_pos (by omega)]
  omega
 rw [show (k:Int)+1-1=(k:Int) from by omega]
 unfold encR
 have hX:=Ext.refl w
 have b1:=Blk.new w (.cells #[.int .i64 kind,.int .i64 base,.int .i64 loc,.int .i64 ((k:Int)+1),.int .i64 wr,.int .i64 rd,.int .i64 top] 87)
 replace hX:=hX.alloc (.cells #[.int .i64 kind,.int .i64 base,.int .i64 loc,.int .i64 ((k:Int)+1),.int .i64 wr,.int .i64 rd,.int .i64 top] 87)
 have b2:=Blk.new (w.alloc (.cells #[.int .i64 kind,.int .i64 base,.int .i64 loc,.int .i64 ((k:Int)+1),.int .i64 wr,.int .i64 rd,.int .i64 top] 87)) (.cells #[.int .i64 0,.int .i64 0,.int .i64 0,.int .i64 0,.int .i64 0,.int .i64 0,.int .i64 0] 87)
 simp only [World.size_alloc] at b2
 replace b1:=b1.alloc (.cells #[.int .i64 0,.int .i64 0,.int .i64 0,.int .i64 0,.int .i64 0,.int .i64 0,.int .i64 0] 87)
 replace hX:=hX.alloc (.cells #[.int .i64 0,.int .i64 0,.int .i64 0,.int .i64 0,.int .i64 0,.int .i64 0,.int .i64 0] 87)
 have c_b1:=b1.cells
 have c_b2:=b2.cells
 go_enter Tryz.func141,Tryz.ntmps141
 go_wp2_with fail
 refine (readers_r ⟨kind,base,loc,(k:Int)+1,wr,rd,top⟩ _ h1 h2 h3 h4).mono ?_
 rintro e w2 ⟨A,c,rfl,hI,hx⟩
 rw [hlen]
 clear hI c_b1 c_b2
 replace b1:=b1.ext hx
 have c_b1:=b1.cells
 replace b2:=b2.ext hx
 have c_b2:=b2.cells
 replace hX:=hX.trans hx
 clear hx
 go_wp2_with fail
 have hk:1<=(k:Int)/\(k:Int)<=7:=by omega
 have hab2:a≠b:=by omega
 clear hab
 go_loopw [8,9] (fun n x wr=>∃ i:Nat,i<=a/\x=.int .i64 i/\n=.int .i64 ((k:Int)+(i:Int)*((k:Int)-1))/\w2=wr) (fun _ x _=>a-(intOf x).toNat)
 case atStart=>exact⟨0,by omega,rfl,by simp,rfl⟩
 case round =>
  obtain⟨i,hi,rfl,rfl,rfl⟩:=hrel
  have hm:=tellsD_bd k i 0 hk (by omega)
  have hms:((i+1:Nat):Int)*((k:Int)-1)=(i:Int)*((k:Int)-1)+((k:Int)-1):=by rw [Int.natCast_add,Int.add_mul];simp
  have hmh:=Lib.hid hms
  have hma:=Lib.hid (show i=a->(i:Int)*((k:Int)-1)=(a:Int)*((k:Int)-1) from fun e=>by rw [e])
  clear hms
  generalize (i:Int)*((k:Int)-1)=M at *
  have hik:(i:Int)<k:=by omega
  go_wp2_with fail
  go_loopw [8,10] (fun n y wr=>∃ j:Nat,j<=k/\(i=a->j<=b)/\y=.int .i64 j/\n=.int .i64 ((k:Int)+M+stepD i j)/\w2=wr) (fun _ y _=>k-(intOf y).toNat)
  case atStart=>exact⟨0,by omega,by omega,rfl,by rw [show ((0:Nat):Int)=0 from rfl,stepD_0];simp,rfl⟩
  case round =>
   obtain⟨j,hj,hjb,rfl,rfl,rfl⟩:=hrel
   have hD:=stepD_bd i j
   by_cases hjk:j<k
   · by_cases hia:i=a
     · have hia2:((i:Int)==(a:Int))=true:=by simp [hia]
       have hiah:=Lib.hid hia
       by_cases hjb2:j=b
       · have hjb3:((j:Int)==(b:Int))=true:=by simp [hjb2]
         have hmt:=Lib.hid (show tellsM (k:Int) a b=(k:Int)+M+stepD i j from by rw [tells_eq,<- hma.out hia,hia,hjb2])
         clear hia hjb2 hjb
         generalize stepD i j=D at *
         go_wp2_with fail
         refine (rnumber_r ⟨kind,base,loc,(k:Int)+1,wr,rd,top⟩ ((k:Int)+M+D) _ (by omega) hb1 hb2 hl1 hl2).mono ?_
         rintro e w3 ⟨rfl,hx⟩
         clear c_b1 c_b2
         replace b2:=b2.ext hx
         replace hX:=hX.trans hx
         have c_b2:=b2.cells
         have f_b2:=frozen_of_heap b2
         clear hx
         unfold encR
         go_wp2_with fail
         refine bodyPost_ret (v:=.agg #[.int .i64 0,.int .i64 (base+16*((k:Int)+M+D)),.int .i64 (loc+(2+18*((k:Int)+M+D))),.int .i64 0,.int .i64 0,.int .i64 0,.int .i64 0]) (by simp [results,Tryz.results141,go_sem,c_b2]) rfl ?_
         rw [hmt.out]
         refine⟨rfl,?_⟩
         have hb:w.heap.size<=w.heap.size+1:=Nat.le_succ _
         exact ((((((hX.setCell hb _).setCell hb _).setCell hb _).setCell hb _).setCell hb _).setCell hb _).setCell hb _
       · have hjb3:((j:Int)==(b:Int))=false:=by rw [beq_eq_false_iff_ne];omega
         have hjb4:j<b:=by have:=hjb hia;omega
         clear hia hjb2 hjb
         by_cases hij:i=j
         · have hij2:((i:Int) != (j:Int))=false:=by simp [hij]
           have hs:stepD i ((j:Int)+1)=stepD i j:=by rw [<- hij];exact stepD_same i
           have hsh:=Lib.hid hs
           have hijh:=Lib.hid hij
           clear hs hij
           generalize stepD i j=D at *
           go_wp2_with fail
           refine⟨⟨j+1,by omega,(fun _=>by omega),by go_num,?_,by trivial⟩,by simp [intOf];omega⟩
           rw [show ((j+1:Nat):Int)=(j:Int)+1 from rfl,hsh.out]
         · have hij2:((i:Int) != (j:Int))=true:=by rw [bne_iff_ne];omega
           have hsh:=Lib.hid (stepD_next i j hij)
           clear hij
           generalize stepD i j=D at *
           go_wp2_with fail
           refine⟨⟨j+1,by omega,(fun _=>by omega),by go_num,?_,by trivial⟩,by simp [intOf];omega⟩
           rw [show ((j+1:Nat):Int)=(j:Int)+1 from rfl,hsh.out]
           go_num
     · have hia2:((i:Int)==(a:Int))=false:=by rw [beq_eq_false_iff_ne];omega
       have hiah:=Lib.hid hia
       clear hia hjb
       by_cases hij:i=j
       · have hij2:((i:Int) != (j:Int))=false:=by simp [hij]
         have hs:stepD i ((j:Int)+1)=stepD i j:=by rw [<- hij];exact stepD_same i
         have hsh:=Lib.hid hs
         have hijh:=Lib.hid hij
         clear hs hij
         generalize stepD i j=D at *
         go_wp2_with fail
         refine⟨⟨j+1,by omega,(fun e=>absurd e hiah.out),by go_num,?_,by trivial⟩,by simp [intOf];omega⟩
         rw [show ((j+1:Nat):Int)=(j:Int)+1 from rfl,hsh.out]
       · have hij2:((i:Int) != (j:Int))=true:=by rw [bne_iff_ne];omega
         have hsh:=Lib.hid (stepD_next i j hij)
         clear hij
         generalize stepD i j=D at *
         go_wp2_with fail
         refine⟨⟨j+1,by omega,(fun e=>absurd e hiah.out),by go_num,?_,by trivial⟩,by simp [intOf];omega⟩
         rw [show ((j+1:Nat):Int)=(j:Int)+1 from rfl,hsh.out]
         go_num
   · obtain rfl:j=k:=by omega
     have hia:i<a:=by
      rcases Nat.lt_or_ge i a with h | h
      · exact h
      · have:=hjb (by omega);omega
     rw [stepD_end i j (by omega)]
     go_wp2_with fail
     refine⟨⟨i+1,by omega,by go_num,?_,by trivial⟩,by simp [intOf];omega⟩
     rw [hmh.out]
     go_num
theorem ranks_next (k a:Nat):ranksFrom (-1) (k+1) a=(a:Int) :: ranksFrom (-1) k ((a+1:Nat):Int):=by
 show (if (a:Int)=-1 then _ else _)=_
 rw [if_neg (by omega)]
 rfl
theorem forP_cons {σ:Type}(T:Int->σ->Prog σ)(a:Int)(l:List Int)(x:σ):forP T (a :: l) x=(T a x).bind fun y=>forP T l y:=rfl
set_option maxRecDepth 100000 in
set_option maxHeartbeats 2000000 in
theorem table_write_r (B p:Nat)(o:Bool)(S:TS)(r:Reg)(me v:Int)(w:World)(h:RAt B w p o S)(hn1:1<=r.n)(hn2:r.n<=8)(hw1:0<=r.wr)(hw2:r.wr<r.n)(hb1:0<=r.base)(hb2:r.base<=56000)(hl1:0<=r.loc)(hl2:r.loc<=56000) :
  Calls Tryz.prog 97 #[.pointer (some ⟨p,0,none⟩),encR r,.int .i64 me,.int .i64 v] w (RPost encU B p w (tableW r.base r.loc r.n r.wr r.top me v) o S):=by
 generalize hR:RPost encU B p w (tableW r.base r.loc r.n r.wr r.top me v) o S=R
 have hO:ROwes R encU B p w (tableW r.base r.loc r.n r.wr r.top me v) o S:=hR▸rowes _ _ _ _ _ _ _
 clear hR
 obtain⟨kind,base,loc,n,wr,rd,top⟩:=r
 simp only at hn1 hn2 hw1 hw2 hb1 hb2 hl1 hl2 hO
 obtain⟨K,rfl⟩:∃ k:Nat,n=(k:Int)+1:=⟨(n-1).toNat,by omega⟩
 have hlen:(rdrs wr ((K:Int)+1).toNat).length=K:=by
  obtain⟨W,rfl⟩:∃ N:Nat,wr=(N:Int):=⟨wr.toNat,by omega⟩
  rw [rdrs_len,if_pos (by omega)]
  omega
 unfold encR
 obtain⟨b1,hK,hP⟩:=h.entry (.cells #[.int .i64 kind,.int .i64 base,.int .i64 loc,.int .i64 ((K:Int)+1),.int .i64 wr,.int .i64 rd,.int .i64 top] 87)
 have c_b1:=b1.cells
 clear h
 unfold tableW at hO
 go_enter Tryz.func97,Tryz.ntmps97
 go_wp2_with fail
 refine (rwriter_r ⟨kind,base,loc,(K:Int)+1,wr,rd,top⟩ _ hn1 hn2 hw1 hw2).mono ?_
 rintro e w2 ⟨rfl,hx⟩
 clear c_b1
 replace hK:=hK.trans (Keep.of_ext hx hP.lt hP.le)
 replace b1:=b1.ext hx hP.lt
 have c_b1:=b1.cells
 replace hP:=hP.ext hx
 clear hx
 by_cases hme:me=wr
 · subst hme
   rw [if_neg (by simp)] at hO
   go_wp2_with fail
   refine (get_r B p o S (loc) _ hP).mono ?_
   rintro e w' ⟨rfl,rfl⟩
   replace hO:=hO.get
   generalize S.got (loc)=s at hO ⊢
   go_wp2_with fail
   refine rstep hO hK (set_r B p o S _ _ _ hP) ?_
   clear hO hK hP c_b1
   intro u o S w1 hP hk hK hO
   replace b1:=b1.keep hk
   have c_b1:=b1.cells
   clear hk
   go_wp2_with fail
   refine (clamp_r _ _ _).mono ?_
   rintro e w' ⟨rfl,rfl⟩
   generalize hT:clamp top 1048576=T at *
   clear hT
   go_wp2_with fail
   refine (pack_r _ _ _ _).mono ?_
   rintro e w' ⟨rfl,rfl⟩
   generalize packI (wrap64 (s+1)) v T=X at *
   have hK2:K<8:=by omega
   rw [show ((K:Int)+1-1).toNat=K from by omega] at hO
   have hwl:=IntWalk.i64_in (loc+1) (by omega)
   go_wp2_with fail
   go_loopw [11] (fun z wr'=>∃ (a:Nat) (o:Bool) (S:TS),z=.int .i64 a/\a<=K/\HeldR wr' p w.heap.size (.cells #[.int .i64 kind,.int .i64 base,.int .i64 loc,.int .i64 ((K:Int)+1),.int .i64 me,.int .i64 rd,.int .i64 top] 87)/\RAt B wr' p o S/\KeepR B p w wr'/\ROwes R encU B p w ((forP (fun a _=>slotsW (base+16*a) (loc+(2+18*a)) X) (ranksFrom (-1) (K-a) a) ()).bind fun _=>st (loc+1) (clamp v T)) o S) (fun z _=>K-(intOf z).toNat)
   case atStart=>exact⟨0,o,S,rfl,by omega,b1,hP,hK,hO⟩
   case round =>
    clear b1 c_b1 hO hP hK o S
    obtain⟨a,o,S,rfl,ha,b1,hP,hK,hO⟩:=hrel
    have c_b1:=b1.cells
    go_wp2_with fail
    refine (readers_r ⟨kind,base,loc,(K:Int)+1,me,rd,top⟩ _ hn1 hn2 hw1 hw2).mono ?_
    rintro e w2 ⟨A,c,rfl,hI,hx⟩
    rw [hlen]
    clear hI c_b1
    replace hK:=hK.trans (Keep.of_ext hx hP.lt hP.le)
    replace b1:=b1.ext hx hP.lt
    have c_b1:=b1.cells
    replace hP:=hP.ext hx
    clear hx
    obtain⟨_,_,_,_,_,hcc⟩:=hP.cell
    by_cases hak:a<K
    · cases o with
      | true =>
        replace hO:=hO.any (st (loc+1) (clamp v T))
        go_wp2_with fail
        clear hcc
        replace hP:=hP.drew
        replace hK:=hK.drew
        replace b1:=b1.drew
        go_region_held2 (fun w'=>∀ i:Nat,w'.cell? ⟨w.heap.size,i,none⟩=(#[.int .i64 kind,.int .i64 base,.int .i64 loc,.int .i64 ((K:Int)+1),.int .i64 me,.int .i64 rd,.int .i64 top]:Array Value)[i]?) (first | exact c_b1 | go_keep)
         (first
           | (go_at_call 57
              refine (clamp_r _ _ _).mono ?_
              rintro e w' ⟨rfl,rfl⟩)
           | (go_at_call 131
              refine rlast hO hK (set_r B p _ S _ _ _ hP) ?_
              clear hO hK hP c_b1
              intro u o S w1 hP hk hK hO
              replace b1:=b1.keep hk
              have c_b1:=b1.cells
              clear hk))
        go_wp2_with fail
        first | go_end0 | refine bodyPost_ret (results_none rfl _ _ _) rfl ?_
        exact hO.ret hP hK
      | false =>
        obtain⟨k,hk⟩:∃ k,K-a=k+1:=⟨K-a-1,by omega⟩
        have hkh:=Lib.hid hk
        rw [hk,ranks_next,forP_cons,Prog.bind_assoc] at hO
        clear hk
        go_wp2_with fail
        clear hcc
        refine (rnumber_r ⟨kind,base,loc,(K:Int)+1,me,rd,top⟩ a _ (by omega) hb1 hb2 hl1 hl2).mono ?_
        rintro e w2 ⟨rfl,hx⟩
        clear c_b1
        replace hK:=hK.trans (Keep.of_ext hx hP.lt hP.le)
        replace b1:=b1.ext hx hP.lt
        have c_b1:=b1.cells
        replace hP:=hP.ext hx
        clear hx
        go_wp2_with fail
        refine rstep hO hK (slots_write_r B p false S ⟨0,base+16*a,loc+(2+18*a),0,0,0,0⟩ X _ hP (by simp only;omega) (by simp only;omega) (by simp only;omega) (by simp only;omega)) ?_
        clear hO hK hP c_b1
        intro u o S w1 hP hk hK hO
        replace b1:=b1.keep hk
        have c_b1:=b1.cells
        clear hk
        have hPh:=Lib.hid hP
        have hKh:=Lib.hid hK
        have hOh:=Lib.hid hO
        clear hP hK hO c_b1
        go_wp2_with fail
        refine⟨⟨a+1,o,S,by go_num,by omega,b1,hPh.out,hKh.out,?_⟩,by simp [intOf];omega⟩
        rw [show K-(a+1)=k from by have:=hkh.out;omega]
        exact hOh.out
    · obtain rfl:a=K:=by omega
      rw [Nat.sub_self] at hO
      replace hO:ROwes R encU B p w (st (loc+1) (clamp v T)) o S:=hO
      go_wp2_with fail
      clear hcc
      replace hP:=hP.drew
      replace hK:=hK.drew
      replace b1:=b1.drew
      go_region_held2 (fun w'=>∀ i:Nat,w'.cell? ⟨w.heap.size,i,none⟩=(#[.int .i64 kind,.int .i64 base,.int .i64 loc,.int .i64 ((a:Int)+1),.int .i64 me,.int .i64 rd,.int .i64 top]:Array Value)[i]?) (first | exact c_b1 | go_keep)
       (first
         | (go_at_call 57
            refine (clamp_r _ _ _).mono ?_
            rintro e w' ⟨rfl,rfl⟩)
         | (go_at_call 131
            refine rlast hO hK (set_r B p _ S _ _ _ hP) ?_
            clear hO hK hP c_b1
            intro u o S w1 hP hk hK hO
            replace b1:=b1.keep hk
            have c_b1:=b1.cells
            clear hk))
      go_wp2_with fail
      first | go_end0 | refine bodyPost_ret (results_none rfl _ _ _) rfl ?_
      exact hO.ret hP hK
 · rw [if_pos hme] at hO
   have hme2:(me != wr)=true:=by rw [bne_iff_ne];exact hme
   go_wp2_with fail
   first | go_end0 | refine bodyPost_ret (results_none rfl _ _ _) rfl ?_
   exact hO.ret hP hK
theorem ranks_but (q k a:Nat)(h:a=q):ranksFrom q (k+1) a=ranksFrom q k ((a+1:Nat):Int):=by
 show (if (a:Int)=q then _ else _)=_
 rw [if_pos (by omega)]
 rfl
theorem ranks_not (q k a:Nat)(h:a≠q):ranksFrom q (k+1) a=(a:Int) :: ranksFrom q k ((a+1:Nat):Int):=by
 show (if (a:Int)=q then _ else _)=_
 rw [if_neg (by omega)]
 rfl
theorem tells_le (k a b:Nat)(hk:1<=k/\k<=7)(ha:a<k)(hb:b<k):0<=tellsM k a b/\tellsM k a b<=60:=by
 have h1:=tellsD_bd k a b (by omega) (by omega)
 have h2:=stepD_bd a b
 rw [tells_eq]
 omega
theorem unpack_rx (x top:Int)(w:World) :
  Calls Tryz.prog 138 #[.int .i64 x,.int .i64 top] w fun e w'=>e=.returned (.tuple #[.int .i64 (unHi x top),.int .i64 (unLo x top)])/\Ext w w':=(unpack_r x top w).mono fun _ _ h=>⟨h.1,h.2.ext⟩
set_option maxRecDepth 100000 in
set_option maxHeartbeats 4000000 in
theorem table_read_r (B p:Nat)(o:Bool)(S:TS)(r:Reg)(me:Int)(w:World)(h:RAt B w p o S)(hn1:1<=r.n)(hn2:r.n<=8)(hw1:0<=r.wr)(hw2:r.wr<r.n)(hm:0<=me/\me<r.n)(hb1:0<=r.base)(hb2:r.base<=56000)(hl1:0<=r.loc)(hl2:r.loc<=56000) :
  Calls Tryz.prog 104 #[.pointer (some ⟨p,0,none⟩),encR r,.int .i64 me] w (RPost encI B p w (tableR r.base r.loc r.n r.wr r.top me) o S):=by
 generalize hR:RPost encI B p w (tableR r.base r.loc r.n r.wr r.top me) o S=R
 have hO:ROwes R encI B p w (tableR r.base r.loc r.n r.wr r.top me) o S:=hR▸rowes _ _ _ _ _ _ _
 clear hR
 obtain⟨kind,base,loc,n,wr,rd,top⟩:=r
 simp only at hn1 hn2 hw1 hw2 hm hb1 hb2 hl1 hl2 hO
 obtain⟨K,rfl⟩:∃ k:Nat,n=(k:Int)+1:=⟨(n-1).toNat,by omega⟩
 obtain⟨W,rfl⟩:∃ N:Nat,wr=(N:Int):=⟨wr.toNat,by omega⟩
 have hlen:(rdrs W ((K:Int)+1).toNat).length=K:=by
  rw [rdrs_len,if_pos (by omega)]
  omega
 unfold encR
 obtain⟨b1,hK,hP⟩:=h.entry (.cells #[.int .i64 kind,.int .i64 base,.int .i64 loc,.int .i64 ((K:Int)+1),.int .i64 (W:Int),.int .i64 rd,.int .i64 top] 87)
 have c_b1:=b1.cells
 clear h
 unfold tableR at hO
 go_enter Tryz.func104,Tryz.ntmps104
 go_wp2_with fail
 refine (rwriter_r ⟨kind,base,loc,(K:Int)+1,(W:Int),rd,top⟩ _ hn1 hn2 hw1 hw2).mono ?_
 rintro e w2 ⟨rfl,hx⟩
 clear c_b1
 replace hK:=hK.trans (Keep.of_ext hx hP.lt hP.le)
 replace b1:=b1.ext hx hP.lt
 have c_b1:=b1.cells
 replace hP:=hP.ext hx
 clear hx
 by_cases hme:me=W
 · subst hme
   rw [if_pos rfl] at hO
   go_wp2_with fail
   refine (get_r B p o S (loc+1) _ hP).mono ?_
   rintro e w' ⟨rfl,rfl⟩
   replace hO:=hO.get1
   generalize S.got (loc+1)=z at hO ⊢
   go_wp2_with fail
   exact hO.ret hP hK
 · rw [if_neg hme] at hO
   have hme2:(me==(W:Int))=false:=by rw [beq_eq_false_iff_ne];exact hme
   obtain⟨q,hq,hqK,hqi⟩:∃ q:Nat,rankM W me=(q:Int)/\q<K/\∀ j:Nat,((if j<W then (j:Int) else j+1)=me↔j=q):=by
    unfold rankM
    by_cases hw:me > W
    · exact⟨(me-1).toNat,by rw [if_pos hw];omega,by omega,fun j=>by split <;> omega⟩
    · exact⟨me.toNat,by rw [if_neg hw];omega,by omega,fun j=>by split <;> omega⟩
   have hKk:1<=K/\K<=7:=by omega
   rw [hq,show ((K:Int)+1-1)=(K:Int) from by omega,Int.toNat_natCast] at hO
   clear hq hme hm
   go_wp2_with fail
   refine (readers_r ⟨kind,base,loc,(K:Int)+1,(W:Int),rd,top⟩ _ hn1 hn2 hw1 hw2).mono ?_
   rintro e w2 ⟨A,c,rfl,hI,hx⟩
   have hat:=fun (i:Nat) (hi:i<K)=>rdrs_at W ((K:Int)+1).toNat i (by rw [hlen];exact hi)
   simp only [hlen] at hI
   rw [hlen]
   generalize hl:rdrs W ((K:Int)+1).toNat=l at *
   clear hl c_b1
   replace hK:=hK.trans (Keep.of_ext hx hP.lt hP.le)
   replace b1:=b1.ext hx hP.lt
   have c_b1:=b1.cells
   replace hP:=hP.ext hx
   clear hx
   have hPh:=Lib.hid hP
   have hKh:=Lib.hid hK
   have hOh:=Lib.hid hO
   clear hP hK hO
   go_wp2_with fail
   go_loopw [8,9] (fun x z wr=>∃ j:Nat,z=.int .i64 j/\j<=K/\x=.int .i64 (if q<j then (q:Int) else -1)/\w2=wr) (fun _ z _=>K-(intOf z).toNat)
   case atStart=>exact⟨0,rfl,by omega,by rw [if_neg (by omega)],rfl⟩
   case round =>
    obtain⟨j,rfl,hj,rfl,rfl⟩:=hrel
    by_cases hjk:j<K
    · obtain⟨bk,off,rfl,hbk,hcell⟩:=hI.at_ hjk
      rw [hat j hjk] at hcell
      have hqj:=hqi j
      by_cases hjq:j=q
      · have e:=hqj.2 hjq
        rw [e] at hcell
        generalize hv:(if q<j then (q:Int) else -1)=X at *
        have hjqh:=Lib.hid hjq
        clear hv hqj e hjq
        go_wp2_with fail
        refine⟨⟨j+1,by go_num,by omega,?_,by trivial⟩,by simp [intOf];omega⟩
        have hjq:=hjqh.out
        rw [if_pos (by omega),hjq]
      · have e:((if j<W then (j:Int) else j+1)==me)=false:=by rw [beq_eq_false_iff_ne];exact fun e=>hjq (hqj.1 e)
        generalize (if j<W then (j:Int) else j+1)=Y at *
        generalize hv:(if q<j then (q:Int) else -1)=X at *
        clear hqj
        go_wp2_with fail
        refine⟨⟨j+1,by go_num,by omega,?_,by trivial⟩,by simp [intOf];omega⟩
        rw [<- hv]
        by_cases h1:q<j
        · rw [if_pos h1,if_pos (by omega)]
        · rw [if_neg h1,if_neg (by omega)]
    · obtain rfl:K=j:=by omega
      rw [if_pos hqK]
      have hP:=hPh.out
      have hK:=hKh.out
      have hO:=hOh.out
      clear hPh hKh hOh hI hat hqi
      go_wp2_with fail
      refine (rnumber_r ⟨kind,base,loc,(K:Int)+1,(W:Int),rd,top⟩ q _ (by omega) hb1 hb2 hl1 hl2).mono ?_
      rintro e w2 ⟨rfl,hx⟩
      clear c_b1
      replace hK:=hK.trans (Keep.of_ext hx hP.lt hP.le)
      replace b1:=b1.ext hx hP.lt
      have c_b1:=b1.cells
      replace hP:=hP.ext hx
      clear hx
      go_wp2_with fail
      refine rstep hO hK (slots_read_r B p o S ⟨0,base+16*q,loc+(2+18*q),0,0,0,0⟩ _ hP (by simp only;omega) (by simp only;omega) (by simp only;omega) (by simp only;omega)) ?_
      clear hO hK hP c_b1
      intro x o S w1 hP hk hK hO
      replace b1:=b1.keep hk
      have c_b1:=b1.cells
      clear hk
      go_wp2_with fail
      go_loopw [10,11] (fun y z wr'=>∃ (x:Int) (b:Nat) (o:Bool) (S:TS),y=.int .i64 x/\z=.int .i64 b/\b<=K/\HeldR wr' p w.heap.size (.cells #[.int .i64 kind,.int .i64 base,.int .i64 loc,.int .i64 ((K:Int)+1),.int .i64 (W:Int),.int .i64 rd,.int .i64 top] 87)/\RAt B wr' p o S/\KeepR B p w wr'/\ROwes R encI B p w ((forP (fun i x=>(slotsR (base+16*tellsM K i q) (loc+(2+18*tellsM K i q))).bind fun y=>.ret (max x y)) (ranksFrom q (K-b) b) x).bind (fun x=>(forP (fun i _=>slotsW (base+16*tellsM K q i) (loc+(2+18*tellsM K q i)) x) (ranksFrom q K 0) ()).bind fun _=>.ret (unLo x (clamp top 1048576)))) o S) (fun _ z _=>K-(intOf z).toNat)
      case atStart=>exact⟨x,0,o,S,rfl,rfl,by omega,b1,hP,hK,hO⟩
      case round =>
       clear b1 c_b1 hO hP hK o S
       obtain⟨x,b,o,S,rfl,rfl,hb,b1,hP,hK,hO⟩:=hrel
       have c_b1:=b1.cells
       by_cases hbk:b<K
       · obtain⟨k,hk⟩:∃ k,K-b=k+1:=⟨K-b-1,by omega⟩
         have hkh:=Lib.hid hk
         by_cases hbq:b=q
         · rw [hk,ranks_but q k b hbq] at hO
           have e:((b:Int) != (q:Int))=false:=by simp [hbq]
           have hPh:=Lib.hid hP
           have hKh:=Lib.hid hK
           have hOh:=Lib.hid hO
           clear hP hK hO c_b1 hk hbq
           go_wp2_with fail
           refine⟨⟨x,b+1,o,S,rfl,by go_num,by omega,b1,hPh.out,hKh.out,?_⟩,by simp [intOf];omega⟩
           rw [show K-(b+1)=k from by have:=hkh.out;omega]
           exact hOh.out
         · rw [hk,ranks_not q k b hbq,forP_cons,Prog.bind_assoc,Prog.bind_assoc] at hO
           have e:((b:Int) != (q:Int))=true:=by rw [bne_iff_ne];omega
           have hT:=tells_le K b q hKk hbk hqK
           clear hk
           go_wp2_with fail
           refine (tells_r ⟨kind,base,loc,(K:Int)+1,(W:Int),rd,top⟩ b q _ hn1 hn2 hw1 hw2 (by simp only;omega) (by simp only;omega) (by omega) hb1 hb2 hl1 hl2).mono ?_
           rintro e w2 ⟨rfl,hx⟩
           clear c_b1
           replace hK:=hK.trans (Keep.of_ext hx hP.lt hP.le)
           replace b1:=b1.ext hx hP.lt
           have c_b1:=b1.cells
           replace hP:=hP.ext hx
           clear hx
           simp only [show ((K:Int)+1-1)=(K:Int) from by omega]
           go_wp2_with fail
           refine rstep hO hK (slots_read_r B p o S ⟨0,base+16*tellsM K b q,loc+(2+18*tellsM K b q),0,0,0,0⟩ _ hP (by simp only;omega) (by simp only;omega) (by simp only;omega) (by simp only;omega)) ?_
           clear hO hK hP c_b1
           intro y o S w1 hP hk hK hO
           replace b1:=b1.keep hk
           have c_b1:=b1.cells
           clear hk
           have hPh:=Lib.hid hP
           have hKh:=Lib.hid hK
           have hOh:=Lib.hid hO
           clear hP hK hO c_b1 hT
           by_cases hxy:x<y
           · go_wp2_with fail
             refine⟨⟨y,b+1,o,S,rfl,by go_num,by omega,b1,hPh.out,hKh.out,?_⟩,by simp [intOf];omega⟩
             rw [show K-(b+1)=k from by have:=hkh.out;omega]
             have h:=hOh.out
             simp only [Prog.bind_ret,Int.max_eq_right (Int.le_of_lt hxy)] at h
             exact h
           · go_wp2_with fail
             refine⟨⟨x,b+1,o,S,rfl,by go_num,by omega,b1,hPh.out,hKh.out,?_⟩,by simp [intOf];omega⟩
             rw [show K-(b+1)=k from by have:=hkh.out;omega]
             have h:=hOh.out
             simp only [Prog.bind_ret,Int.max_eq_left (show y<=x by omega)] at h
             exact h
       · obtain rfl:K=b:=by omega
         rw [Nat.sub_self] at hO
         replace hO:ROwes R encI B p w ((forP (fun i _=>slotsW (base+16*tellsM K q i) (loc+(2+18*tellsM K q i)) x) (ranksFrom q K 0) ()).bind fun _=>.ret (unLo x (clamp top 1048576))) o S:=hO
         go_wp2_with fail
         go_loopw [13] (fun z wr'=>∃ (b:Nat) (o:Bool) (S:TS),z=.int .i64 b/\b<=K/\HeldR wr' p w.heap.size (.cells #[.int .i64 kind,.int .i64 base,.int .i64 loc,.int .i64 ((K:Int)+1),.int .i64 (W:Int),.int .i64 rd,.int .i64 top] 87)/\RAt B wr' p o S/\KeepR B p w wr'/\ROwes R encI B p w ((forP (fun i _=>slotsW (base+16*tellsM K q i) (loc+(2+18*tellsM K q i)) x) (ranksFrom q (K-b) b) ()).bind fun _=>.ret (unLo x (clamp top 1048576))) o S) (fun z _=>K-(intOf z).toNat)
         case atStart=>exact⟨0,o,S,rfl,by omega,b1,hP,hK,hO⟩
         case round =>
          clear b1 c_b1 hO hP hK o S
          obtain⟨b,o,S,rfl,hb,b1,hP,hK,hO⟩:=hrel
          have c_b1:=b1.cells
          obtain⟨_,_,_,_,_,hcc⟩:=hP.cell
          by_cases hbk:b<K
          · cases o with
            | true =>
              have hf:∀ w',RAt B w' p true S->KeepR B p w w'->R (.returned (encI (unLo x (clamp top 1048576)))) w':=fun w' h1 h2=>hO.over _ h1 h2
              go_wp2_with fail
              clear hcc
              refine (clamp_r _ _ _).mono ?_
              rintro e w' ⟨rfl,rfl⟩
              generalize clamp top 1048576=T at *
              go_wp2_with fail
              refine (unpack_rx _ _ _).mono ?_
              rintro e w2 ⟨rfl,hx⟩
              clear c_b1
              replace hK:=hK.trans (Keep.of_ext hx hP.lt hP.le)
              replace b1:=b1.ext hx hP.lt
              have c_b1:=b1.cells
              replace hP:=hP.ext hx
              clear hx
              go_wp2_with fail
              exact hf _ hP hK
            | false =>
              obtain⟨k,hk⟩:∃ k,K-b=k+1:=⟨K-b-1,by omega⟩
              have hkh:=Lib.hid hk
              by_cases hbq:b=q
              · rw [hk,ranks_but q k b hbq] at hO
                have e:((b:Int) != (q:Int))=false:=by simp [hbq]
                have hPh:=Lib.hid hP
                have hKh:=Lib.hid hK
                have hOh:=Lib.hid hO
                clear hP hK hO c_b1 hk hbq
                go_wp2_with fail
                refine⟨⟨b+1,false,S,by go_num,by omega,b1,hPh.out,hKh.out,?_⟩,by simp [intOf];omega⟩
                rw [show K-(b+1)=k from by have:=hkh.out;omega]
                exact hOh.out
              · rw [hk,ranks_not q k b hbq,forP_cons,Prog.bind_assoc] at hO
                have e:((b:Int) != (q:Int))=true:=by rw [bne_iff_ne];omega
                have hT:=tells_le K q b hKk hqK hbk
                clear hk
                go_wp2_with fail
                clear hcc
                refine (tells_r ⟨kind,base,loc,(K:Int)+1,(W:Int),rd,top⟩ q b _ hn1 hn2 hw1 hw2 (by simp only;omega) (by simp only;omega) (by omega) hb1 hb2 hl1 hl2).mono ?_
                rintro e w2 ⟨rfl,hx⟩
                clear c_b1
                replace hK:=hK.trans (Keep.of_ext hx hP.lt hP.le)
                replace b1:=b1.ext hx hP.lt
                have c_b1:=b1.cells
                replace hP:=hP.ext hx
                clear hx
                simp only [show ((K:Int)+1-1)=(K:Int) from by omega]
                go_wp2_with fail
                refine rstep hO hK (slots_write_r B p false S ⟨0,base+16*tellsM K q b,loc+(2+18*tellsM K q b),0,0,0,0⟩ x _ hP (by simp only;omega) (by simp only;omega) (by simp only;omega) (by simp only;omega)) ?_
                clear hO hK hP c_b1
                intro u o S w1 hP hk hK hO
                replace b1:=b1.keep hk
                have c_b1:=b1.cells
                clear hk
                have hPh:=Lib.hid hP
                have hKh:=Lib.hid hK
                have hOh:=Lib.hid hO
                clear hP hK hO c_b1 hT
                go_wp2_with fail
                refine⟨⟨b+1,o,S,by go_num,by omega,b1,hPh.out,hKh.out,?_⟩,by simp [intOf];omega⟩
                rw [show K-(b+1)=k from by have:=hkh.out;omega]
                exact hOh.out
          · obtain rfl:K=b:=by omega
            rw [Nat.sub_self] at hO
            replace hO:ROwes R encI B p w (.ret (unLo x (clamp top 1048576))) o S:=hO
            have hf:∀ w',RAt B w' p o S->KeepR B p w w'->R (.returned (encI (unLo x (clamp top 1048576)))) w':=fun w' h1 h2=>hO.ret h1 h2
            go_wp2_with fail
            clear hcc
            refine (clamp_r _ _ _).mono ?_
            rintro e w' ⟨rfl,rfl⟩
            generalize clamp top 1048576=T at *
            go_wp2_with fail
            refine (unpack_rx _ _ _).mono ?_
            rintro e w2 ⟨rfl,hx⟩
            clear c_b1
            replace hK:=hK.trans (Keep.of_ext hx hP.lt hP.le)
            replace b1:=b1.ext hx hP.lt
            have c_b1:=b1.cells
            replace hP:=hP.ext hx
            clear hx
            go_wp2_with fail
            exact hf _ hP hK
end Go.Proofs.YtbphlkaihfbgeaaGreat
namespace Kv
open Go Go.RowKit
def allA (b l n top me:Int):Nat->Int->List Int->Prog (List Int)
 | 0,_,out=>.ret out
 | k+1,j,out=>(tableR (manyB b n j) (manyL l n j) n j (manyTop top) me).bind fun y=>allA b l n top me k (j+1) (out++[y])
def stepM (t:Int) (q:Int × Int) (y:Int):Int × Int:=if q.1<=unHi y t then (unHi y t,unLo y t) else q
theorem allA_many (b l n top me:Int):∀ (k:Nat) (j:Int) (out:List Int),
  ((allA b l n top me k j out).bind fun l=>.ret (l.foldl (stepM (clamp top 255)) (0,0)))=manyRs b l n top me k j (out.foldl (stepM (clamp top 255)) (0,0)).1 (out.foldl (stepM (clamp top 255)) (0,0)).2
 | 0,j,out=>rfl
 | k+1,j,out=>by
   unfold allA manyRs
   rw [Prog.bind_assoc]
   congr 1
   funext y
   rw [allA_many b l n top me k (j+1) (out++[y]),List.foldl_append]
   simp only [List.foldl_cons,List.foldl_nil]
   generalize out.foldl (stepM (clamp top 255)) (0,0)=q
   unfold stepM
   split <;> rfl
end Kv
namespace Go.Proofs.YtbphlkaihfbgeaaGreat
open Go.RowKit Kv
theorem top_r (r:Reg)(w:World):Calls Tryz.prog 139 #[encR r] w fun e w'=>e=.returned (.int .i64 (clamp r.top 255))/\Ext w w':=by
 obtain⟨kind,base,loc,n,wr,rd,top⟩:=r
 have hx:=Lib.hid ((Ext.refl w).alloc (.cells #[.int .i64 kind,.int .i64 base,.int .i64 loc,.int .i64 n,.int .i64 wr,.int .i64 rd,.int .i64 top] 87))
 unfold encR
 go_enter Tryz.func139,Tryz.ntmps139
 go_wp2_with fail
 refine (clamp_r _ _ _).mono ?_
 rintro e w' ⟨rfl,rfl⟩
 go_wp2_with fail
 go_ret
 exact⟨rfl,hx.out⟩
set_option maxHeartbeats 2000000 in
theorem number_rm (r:Reg)(j:Int)(w:World)(h1:1<=r.n)(h2:r.n<=8)(h3:0<=j/\j<r.n)(hb1:0<=r.base)(hb2:r.base<=50000)(hl1:0<=r.loc)(hl2:r.loc<=49000) :
  Calls Tryz.prog 140 #[encR r,.int .i64 j] w fun e w'=>e=.returned (encR ⟨0,manyB r.base r.n j,manyL r.loc r.n j,r.n,j,0,manyTop r.top⟩)/\Ext w w':=by
 obtain⟨kind,base,loc,n,wr,rd,top⟩:=r
 simp only at h1 h2 h3 hb1 hb2 hl1 hl2
 have hm:=many_bd n j h1 h2 h3
 have hs:=sq_bd n h1 h2
 unfold encR manyB manyL manyTop
 have hX:=Ext.refl w
 have b1:=Blk.new w (.cells #[.int .i64 kind,.int .i64 base,.int .i64 loc,.int .i64 n,.int .i64 wr,.int .i64 rd,.int .i64 top] 87)
 replace hX:=hX.alloc (.cells #[.int .i64 kind,.int .i64 base,.int .i64 loc,.int .i64 n,.int .i64 wr,.int .i64 rd,.int .i64 top] 87)
 have b2:=Blk.new (w.alloc (.cells #[.int .i64 kind,.int .i64 base,.int .i64 loc,.int .i64 n,.int .i64 wr,.int .i64 rd,.int .i64 top] 87)) (.cells #[.int .i64 0,.int .i64 0,.int .i64 0,.int .i64 0,.int .i64 0,.int .i64 0,.int .i64 0] 87)
 simp only [World.size_alloc] at b2
 replace b1:=b1.alloc (.cells #[.int .i64 0,.int .i64 0,.int .i64 0,.int .i64 0,.int .i64 0,.int .i64 0,.int .i64 0] 87)
 replace hX:=hX.alloc (.cells #[.int .i64 0,.int .i64 0,.int .i64 0,.int .i64 0,.int .i64 0,.int .i64 0,.int .i64 0] 87)
 have c_b1:=b1.cells
 have c_b2:=b2.cells
 have w1:=IntWalk.i64_in (j*16) (by omega)
 have w2:=IntWalk.i64_in (n-1) (by omega)
 rw [show (16:Int)*j=j*16 from Int.mul_comm _ _] at hm ⊢
 have w3:=IntWalk.i64_in (j*16*(n-1)) (by omega)
 have w4:=IntWalk.i64_in (j*16*(n-1)*(n-1)) (by omega)
 have w5:=IntWalk.i64_in (base+j*16*(n-1)*(n-1)) (by omega)
 have w6:=IntWalk.i64_in (j*(2+18*(n-1)*(n-1))) (by omega)
 have w7:=IntWalk.i64_in (loc+j*(2+18*(n-1)*(n-1))) (by omega)
 have w8:=IntWalk.i64_in (18*(n-1)) (by omega)
 have w9:=IntWalk.i64_in (18*(n-1)*(n-1)) (by omega)
 have w10:=IntWalk.i64_in (2+18*(n-1)*(n-1)) (by omega)
 have hmh:=Lib.hid hm
 have hsh:=Lib.hid hs
 clear hm hs
 go_enter Tryz.func140,Tryz.ntmps140
 go_wp2_with fail
 refine (rn_r ⟨kind,base,loc,n,wr,rd,top⟩ _ h1 h2).mono ?_
 rintro e w2 ⟨rfl,hx⟩
 clear c_b1 c_b2
 replace b1:=b1.ext hx
 have c_b1:=b1.cells
 replace b2:=b2.ext hx
 have c_b2:=b2.cells
 replace hX:=hX.trans hx
 clear hx
 go_wp2_with fail
 replace hX:=hX.drew
 replace b1:=b1.drew
 replace b2:=b2.drew
 go_region_held2 (fun w'=>∀ i:Nat,w'.cell? ⟨w.heap.size,i,none⟩=(#[.int .i64 kind,.int .i64 base,.int .i64 loc,.int .i64 n,.int .i64 wr,.int .i64 rd,.int .i64 top]:Array Value)[i]?) (first | with_reducible exact c_b1 | go_keep)
  (first
    | (go_at_call 139
       refine (top_r ⟨kind,base,loc,n,wr,rd,top⟩ _).mono ?_
       rintro e w2 ⟨rfl,hx⟩
       clear c_b1 c_b2
       replace b1:=b1.ext hx
       have c_b1:=b1.cells
       replace b2:=b2.ext hx
       have c_b2:=b2.cells
       replace hX:=hX.trans hx
       clear hx)
    | (go_at_call 134
       refine (pack_r _ _ _ _).mono ?_
       rintro e w' ⟨rfl,rfl⟩
       have f_b2:=frozen_of_heap b2))
 go_wp2_with fail
 refine bodyPost_ret (v:=.agg #[.int .i64 0,.int .i64 (base+j*16*(n-1)*(n-1)),.int .i64 (loc+j*(2+18*(n-1)*(n-1))),.int .i64 n,.int .i64 j,.int .i64 0,.int .i64 (packI 4095 (clamp top 255) (clamp top 255))]) (by simp [results,Tryz.results140,go_sem,c_b2]) rfl ?_
 refine⟨rfl,?_⟩
 have hb:w.heap.size<=w.heap.size+1:=Nat.le_succ _
 exact ((((((hX.setCell hb _).setCell hb _).setCell hb _).setCell hb _).setCell hb _).setCell hb _).setCell hb _
def RowX (n0 p:Nat) (w:World) (v:Value) (l:List Int):Prop:=w.ownsRow n0 3 1 v l.length (l.map (Value.int .i64))/\∀ g,v.ownBlock=some g->¬ ownR [3,4,5] w p g
section
variable {n0 B p:Nat} {w w' w1 w0:World} {o:Bool} {S:TS} {v:Value} {l:List Int}
theorem RowX.nil (n0 p:Nat)(w:World):RowX n0 p w (.slice none 0 0) []:=⟨World.ownsRow_nil _ _ _ _,fun g h=>by simp [Value.ownBlock] at h⟩
theorem RowX.keep (h:RowX n0 p w v l)(k:KeepR B p w w'):RowX n0 p w' v l:=by
 obtain⟨⟨h1,h2⟩,h3⟩:=h
 rcases h2 with h2 | ⟨g,cap,cur,rfl,hg,hh,r1,r2,r3,r4⟩
 · exact⟨⟨h1,.inl h2⟩,fun g e=>by rw [h2.1] at e;simp [Value.ownBlock] at e⟩
 · obtain⟨k1,k2⟩:=k.rest g (Array.getElem?_eq_some_iff.1 hh).1 (h3 g rfl)
   exact⟨⟨h1,.inr ⟨g,cap,cur,rfl,hg,k1.trans hh,r1,r2,r3,r4⟩⟩,fun b e=>by simp only [Value.ownBlock,Option.some.injEq] at e;subst e;exact k2⟩
theorem RowX.ext (h:RowX n0 p w v l)(hP:RAt B w p o S)(hx:Ext w w'):RowX n0 p w' v l:=h.keep (B:=B) (Keep.of_ext hx hP.lt hP.le)
theorem RAt.grown {row:Option Nat}(h:RAt B w p o S)(hg:w.grownBy w' row)(hn:∀ g,row=some g->B<=g/\¬ ownR [3,4,5] w p g):RAt B w' p o S:=by
 obtain⟨n,vA,vC,vN,vL,L,h,h0⟩:=h
 have hne:row≠some p:=fun e=>(hn p e).2 (.inl rfl)
 refine⟨n,vA,vC,vN,vL,L,{ h with heap:=grown_heap h.heap hne hg,ans:=ints_grown h.ans hg ?_,rowL:=h.rowL.kept hg ?_,rowC:=h.rowC.kept hg ?_,rowN:=h.rowN.kept hg ?_ },h0⟩
 · intro b hb e
   have:=h.ansB b hb
   have:=(hn b e).1
   omega
 all_goals
  cases row with
  | none=>cases hv:Value.ownBlock _ with
    | none=>exact .inl rfl
    | some g=>exact .inr (fun e=>by cases e)
  | some g =>
    refine .inr (fun e=>(hn g rfl).2 ?_)
    first
     | exact ownR_at h.heap (by simp) (i:=5) rfl e
     | exact ownR_at h.heap (by simp) (i:=3) rfl e
     | exact ownR_at h.heap (by simp) (i:=4) rfl e
theorem own_grown {row:Option Nat}(h:RAt B w p o S)(hg:w.grownBy w' row)(hn:∀ g,row=some g->B<=g/\¬ ownR [3,4,5] w p g)(b:Nat):ownR [3,4,5] w' p b↔ownR [3,4,5] w p b :=
 ownR_same (hg.block p h.lt (fun e=>(hn p e.symm).2 (.inl rfl))) b
theorem Keep.grownR {row:Option Nat}(k:KeepR B p w0 w)(h:RAt B w p o S)(hg:w.grownBy w' row)(hn:∀ g,row=some g->B<=g/\¬ ownR [3,4,5] w p g)(h0:∀ g,row=some g->w0.heap.size<=g)(hB:B<=w0.heap.size):KeepR B p w0 w':=by
 refine⟨⟨hg.os.trans k.below.os,hg.tape.trans k.below.tape,hg.output.trans k.below.output,Nat.le_trans k.below.size hg.size,fun b hb=>?_⟩,fun b hb ho=>?_⟩
 · exact (hg.block b (by have:=k.size;omega) (fun e=>by have:=h0 b e.symm;omega)).trans (k.below.block b hb)
 · obtain⟨k1,k2⟩:=k.rest b hb ho
   exact⟨(hg.block b (by have:=k.size;omega) (fun e=>by have:=h0 b e.symm;omega)).trans k1,fun e=>k2 ((own_grown h hg hn b).1 e)⟩
theorem Held.grownR {row:Option Nat}{b:Nat}{ob:Obj}(hh:HeldR w p b ob)(h:RAt B w p o S)(hg:w.grownBy w' row)(hn:∀ g,row=some g->B<=g/\¬ ownR [3,4,5] w p g)(hb:row≠some b):HeldR w' p b ob :=
 ⟨grown_heap hh.1 hb hg,fun e=>hh.2 ((own_grown h hg hn b).1 e)⟩
end
set_option maxRecDepth 100000 in
set_option maxHeartbeats 2000000 in
theorem all_r (B p:Nat)(o:Bool)(S:TS)(r:Reg)(me:Int)(w:World)(h:RAt B w p o S)(hn1:1<=r.n)(hn2:r.n<=8)(hm:0<=me/\me<r.n)(hb1:0<=r.base)(hb2:r.base<=50000)(hl1:0<=r.loc)(hl2:r.loc<=49000) :
  Calls Tryz.prog 137 #[.pointer (some ⟨p,0,none⟩),encR r,.int .i64 me] w fun e w'=>∃ A c l o' S',e=.returned (.slice A l.length c)/\Ref (allA r.base r.loc r.n r.top me r.n.toNat 0 []) o S l o' S'/\RAt B w' p o' S'/\KeepR B p w w'/\Ints w' (.slice A l.length c) l/\l.length=r.n.toNat:=by
 obtain⟨kind,base,loc,n,wt,rd,top⟩:=r
 simp only at hn1 hn2 hm hb1 hb2 hl1 hl2 ⊢
 obtain⟨N,rfl⟩:∃ N:Nat,n=(N:Int):=⟨n.toNat,by omega⟩
 rw [Int.toNat_natCast]
 unfold encR
 obtain⟨b1,hK,hP⟩:=h.entry (.cells #[.int .i64 kind,.int .i64 base,.int .i64 loc,.int .i64 (N:Int),.int .i64 wt,.int .i64 rd,.int .i64 top] 87)
 have c_b1:=b1.cells
 have hBw:=Lib.hid h.le
 clear h
 go_enter Tryz.func137,Tryz.ntmps137
 go_wp2_with fail
 go_loopw [7,8] (fun v z wr'=>∃ (j:Nat) (out:List Int) (o1:Bool) (S1:TS),z=.int .i64 j/\j<=N/\out.length=j/\RowX (w.heap.size+1) p wr' v out/\HeldR wr' p w.heap.size (.cells #[.int .i64 kind,.int .i64 base,.int .i64 loc,.int .i64 (N:Int),.int .i64 wt,.int .i64 rd,.int .i64 top] 87)/\RAt B wr' p o1 S1/\KeepR B p w wr'/\(∀ l' o' S',Ref (allA base loc N top me (N-j) j out) o1 S1 l' o' S'->Ref (allA base loc N top me N 0 []) o S l' o' S')) (fun _ z _=>N-(intOf z).toNat)
 case atStart=>exact⟨0,[],o,S,rfl,by omega,rfl,RowX.nil _ _ _,b1,hP,hK,fun _ _ _ h=>by rw [Nat.sub_zero] at h;exact h⟩
 case round =>
  clear b1 c_b1 hP hK
  obtain⟨j,out,o1,S1,rfl,hj,hlen,hrow,b1,hP,hK,hO⟩:=hrel
  have c_b1:=b1.cells
  have hOh:=Lib.hid hO
  clear hO
  by_cases hjn:j<N
  · obtain⟨k,hk⟩:∃ k,N-j=k+1:=⟨N-j-1,by omega⟩
    have hkh:=Lib.hid hk
    have hmb:=many_bd N j hn1 hn2 (by omega)
    have hmbh:=Lib.hid hmb
    clear hk hmb
    go_wp2_with fail
    refine (rn_r ⟨kind,base,loc,(N:Int),wt,rd,top⟩ _ hn1 hn2).mono ?_
    rintro e w2 ⟨rfl,hx⟩
    clear c_b1
    replace hrow:=hrow.ext hP hx
    replace hK:=hK.trans (Keep.of_ext hx hP.lt hP.le)
    replace b1:=b1.ext hx hP.lt
    have c_b1:=b1.cells
    replace hP:=hP.ext hx
    clear hx
    go_wp2_with fail
    refine (number_rm ⟨kind,base,loc,(N:Int),wt,rd,top⟩ j _ hn1 hn2 (by simp only;omega) hb1 hb2 hl1 hl2).mono ?_
    rintro e w2 ⟨rfl,hx⟩
    clear c_b1
    replace hrow:=hrow.ext hP hx
    replace hK:=hK.trans (Keep.of_ext hx hP.lt hP.le)
    replace b1:=b1.ext hx hP.lt
    have c_b1:=b1.cells
    replace hP:=hP.ext hx
    clear hx
    go_wp2_with fail
    have hmb:=hmbh.out
    refine (table_read_r B p o1 S1 ⟨0,manyB base N j,manyL loc N j,N,j,0,manyTop top⟩ me _ hP hn1 hn2 (by simp only;omega) (by simp only;omega) hm (by simp only [manyB];omega) (by simp only [manyB];omega) (by simp only [manyL];omega) (by simp only [manyL];omega)).mono ?_
    rintro e w1 ⟨y,o2,S2,rfl,hr,hP1,hk⟩
    clear hmb hmbh c_b1
    replace hrow:=hrow.keep hk
    replace b1:=b1.keep hk
    replace hK:=hK.trans hk
    replace hP:=hP1
    clear hP1 hk
    have hO2:=Lib.hid (fun (l':List Int) (o':Bool) (S':TS) (h:Ref (allA base loc N top me k ((j:Int)+1) (out++[y])) o2 S2 l' o' S')=>hOh.out l' o' S' (by rw [hkh.out];exact hr.bind h))
    clear hr hOh
    have hrh:=Lib.hid hrow
    have hPh:=Lib.hid hP
    have hKh:=Lib.hid hK
    have hbh:=Lib.hid b1
    have hsz:w.heap.size+1<=w1.heap.size:=by have:=b1.lt;omega
    have hlh:=Lib.hid hlen
    clear hrow hP hK b1 hlen
    go_wp2_with (at_builtin;refine append_int_at rfl _ _ rfl (w.heap.size+1) _ out y hrh.out.1 rfl rfl (by have:=hlh.out;omega) hsz ?_)
    intro g cap w2 hown hgrow hat
    have hn:∀ g,Value.ownBlock u7=some g->B<=g/\¬ ownR [3,4,5] w1 p g:=fun g hg=>⟨by have:=(hrh.out.1.lt g hg).1;have:=hBw.out;omega,hrh.out.2 g hg⟩
    have hP:=hPh.out.grown hgrow hn
    have hK:=hKh.out.grownR hPh.out hgrow hn (fun g hg=>by have:=(hrh.out.1.lt g hg).1;omega) hBw.out
    have b1:=hbh.out.grownR hPh.out hgrow hn (fun hg=>by have:=(hrh.out.1.lt _ hg).1;omega)
    have hrow:RowX (w.heap.size+1) p w2 (.slice (some ⟨g,0,none⟩) (out.length+1) cap) (out++[y]):=by
     refine⟨by rw [List.length_append,List.length_singleton,List.map_append];exact hown,fun b e=>?_⟩
     simp only [Value.ownBlock,Option.some.injEq] at e
     subst e
     rw [own_grown hPh.out hgrow hn]
     rcases hat with e | e
     · exact hrh.out.2 _ e
     · intro ho
       obtain⟨_,_,_,_,_,_,hM,_⟩:=hPh.out
       have:=(hM.own ho).2
       omega
    have HH:=Lib.hid (⟨hP,hK,b1,hrow⟩:_/\_/\_/\_)
    clear hP hK b1 hrow hown hgrow hat hn hrh hPh hKh hbh
    go_wp2_with fail
    go_roundw
    case rel =>
     refine⟨j+1,out++[y],o2,S2,by go_num,by omega,by simp [hlh.out],HH.out.2.2.2,HH.out.2.2.1,HH.out.1,HH.out.2.1,?_⟩
     rw [show N-(j+1)=k from by have:=hkh.out;omega]
     exact hO2.out
    case measure=>simp [intOf];omega
  · obtain rfl:N=j:=by omega
    go_wp2_with fail
    refine (rn_r ⟨kind,base,loc,(N:Int),wt,rd,top⟩ _ hn1 hn2).mono ?_
    rintro e w2 ⟨rfl,hx⟩
    clear c_b1
    replace hrow:=hrow.ext hP hx
    replace hK:=hK.trans (Keep.of_ext hx hP.lt hP.le)
    replace b1:=b1.ext hx hP.lt
    have c_b1:=b1.cells
    replace hP:=hP.ext hx
    clear hx
    obtain⟨A,c,rfl,hc1,hc2⟩:=(IntRow.ints hrow.1).slice
    have hf:Ref (allA base loc N top me N 0 []) o S out o1 S1:=hOh.out _ _ _ (by rw [Nat.sub_self];exact Ref.ret _ _ _)
    have hI:=Lib.hid (IntRow.ints hrow.1)
    have hPh:=Lib.hid hP
    have hKh:=Lib.hid hK
    have hlh:=Lib.hid hlen
    clear hrow hP hK hlen hOh
    go_wp2_with fail
    go_ret
    exact⟨A,c,out,o1,S1,rfl,hf,hPh.out,hKh.out,hI.out,hlh.out⟩
theorem pack_clamp255 (a v top:Int):packI a (clamp v (clamp top 255)) (clamp top 255)=packI a v (clamp top 255):=by
 have h:0<=clamp top 255/\clamp top 255<=255:=by unfold clamp within;omega
 generalize clamp top 255=T at *
 unfold packI
 congr 1
 unfold room clamp within
 omega
set_option maxRecDepth 100000 in
set_option maxHeartbeats 4000000 in
theorem many_read_r (B p:Nat)(o:Bool)(S:TS)(r:Reg)(me:Int)(w:World)(h:RAt B w p o S)(hn1:1<=r.n)(hn2:r.n<=8)(hm:0<=me/\me<r.n)(hb1:0<=r.base)(hb2:r.base<=50000)(hl1:0<=r.loc)(hl2:r.loc<=49000) :
  Calls Tryz.prog 105 #[.pointer (some ⟨p,0,none⟩),encR r,.int .i64 me] w (RPost encI B p w (manyR r.base r.loc r.n r.top me) o S):=by
 generalize hR:RPost encI B p w (manyR r.base r.loc r.n r.top me) o S=R
 have hO:ROwes R encI B p w (manyR r.base r.loc r.n r.top me) o S:=hR▸rowes _ _ _ _ _ _ _
 clear hR
 obtain⟨kind,base,loc,n,wt,rd,top⟩:=r
 simp only at hn1 hn2 hm hb1 hb2 hl1 hl2 hO
 obtain⟨N,rfl⟩:∃ N:Nat,n=(N:Int):=⟨n.toNat,by omega⟩
 unfold encR
 obtain⟨b1,hK,hP⟩:=h.entry (.cells #[.int .i64 kind,.int .i64 base,.int .i64 loc,.int .i64 (N:Int),.int .i64 wt,.int .i64 rd,.int .i64 top] 87)
 have c_b1:=b1.cells
 clear h
 unfold manyR at hO
 rw [Int.toNat_natCast] at hO
 have h0:=allA_many base loc N top me N 0 []
 simp only [List.foldl_nil] at h0
 rw [<- h0,Prog.bind_assoc] at hO
 simp only [Prog.bind_ret] at hO
 clear h0
 have hd1:decide (me<0)=false:=by simpa using hm.1
 have hd2:decide ((N:Int)<=me)=false:=by simpa using hm.2
 go_enter Tryz.func105,Tryz.ntmps105
 go_wp2_with fail
 refine (rn_r ⟨kind,base,loc,(N:Int),wt,rd,top⟩ _ hn1 hn2).mono ?_
 rintro e w2 ⟨rfl,hx⟩
 clear c_b1
 replace hK:=hK.trans (Keep.of_ext hx hP.lt hP.le)
 replace b1:=b1.ext hx hP.lt
 have c_b1:=b1.cells
 replace hP:=hP.ext hx
 clear hx
 go_wp2_with fail
 refine (all_r B p o S ⟨kind,base,loc,(N:Int),wt,rd,top⟩ me _ hP hn1 hn2 hm hb1 hb2 hl1 hl2).mono ?_
 rintro e w1 ⟨A,c,l,o1,S1,rfl,hr,hP1,hk,hI,hlen⟩
 simp only [Int.toNat_natCast] at hr hlen
 replace hO:=hO.then hr
 replace hK:=hK.trans hk
 clear c_b1 hP hr
 replace b1:=b1.keep hk
 have c_b1:=b1.cells
 have hP:=hP1
 clear hP1 hk
 generalize hQ:List.foldl (stepM (clamp top 255)) (0,0) l=Q at *
 have hQh:=Lib.hid hQ
 have hOh:=Lib.hid hO
 have hlh:=Lib.hid hlen
 clear hQ hO
 simp only [hlen] at hI ⊢
 clear hlen
 go_wp2_with fail
 go_loopw [8,9,10] (fun sv xv z wr'=>∃ (j:Nat) (s v:Int),z=.int .i64 j/\j<=N/\sv=.int .i64 s/\xv=.int .i64 v/\0<=s/\s<=4398046511104/\Ints wr' (.slice A N c) l/\HeldR wr' p w.heap.size (.cells #[.int .i64 kind,.int .i64 base,.int .i64 loc,.int .i64 (N:Int),.int .i64 wt,.int .i64 rd,.int .i64 top] 87)/\RAt B wr' p o1 S1/\KeepR B p w wr'/\Hid ((l.drop j).foldl (stepM (clamp top 255)) (s,v)=Q)) (fun sv xv z _=>N-(intOf z).toNat)
 case atStart=>exact⟨0,0,0,rfl,by omega,rfl,rfl,by omega,by omega,hI,b1,hP,hK,by rw [List.drop_zero];exact hQh.out⟩
 case round =>
  clear hI b1 c_b1 hP hK hQh
  obtain⟨j,s,v',rfl,hj,rfl,rfl,hs0,hs1,hI,b1,hP,hK,hF⟩:=hrel
  have c_b1:=b1.cells
  by_cases hjn:j<N
  · obtain⟨bk,off,rfl,hbk,hcell⟩:=hI.at_ hjn
    have hFs:Hid ((l.drop (j+1)).foldl (stepM (clamp top 255)) (stepM (clamp top 255) (s,v') (l.getD j 0))=Q):=by
     have h:=hF.out
     have hjl:j<l.length:=by rw [hlh.out];exact hjn
     rw [List.drop_eq_getElem_cons hjl,List.foldl_cons] at h
     have e:l.getD j 0=l[j]:=by simp [List.getD,hjl]
     rw [e]
     exact h
    clear hF
    generalize l.getD j 0=E at *
    go_wp2_with fail
    replace hP:=hP.drew
    replace hK:=hK.drew
    replace b1:=b1.drew
    replace hI:=hI.ext (Ext.refl _).drew
    go_region_held2 (fun w'=>(∀ i:Nat,w'.cell? ⟨w.heap.size,i,none⟩=(#[.int .i64 kind,.int .i64 base,.int .i64 loc,.int .i64 (N:Int),.int .i64 wt,.int .i64 rd,.int .i64 top]:Array Value)[i]?)/\w'.cell? ⟨bk,off+j,none⟩=some (.int .i64 E)) (first | with_reducible exact⟨c_b1,hcell⟩ | go_keep)
     (first
       | (go_at_call 139
          refine (top_r ⟨kind,base,loc,(N:Int),wt,rd,top⟩ _).mono ?_
          rintro e w2 ⟨rfl,hx⟩
          clear c_b1
          replace hK:=hK.trans (Keep.of_ext hx hP.lt hP.le)
          replace b1:=b1.ext hx hP.lt
          have c_b1:=b1.cells
          replace hcell:=(hx.cell (p:=⟨bk,off+j,none⟩) hbk).trans hcell
          replace hbk:=Nat.lt_of_lt_of_le hbk hx.size
          replace hI:=hI.ext hx
          replace hP:=hP.ext hx
          clear hx)
       | (go_at_call 138
          refine (unpack_rx _ _ _).mono ?_
          rintro e w2 ⟨rfl,hx⟩
          clear c_b1
          replace hK:=hK.trans (Keep.of_ext hx hP.lt hP.le)
          replace b1:=b1.ext hx hP.lt
          have c_b1:=b1.cells
          replace hcell:=(hx.cell (p:=⟨bk,off+j,none⟩) hbk).trans hcell
          replace hbk:=Nat.lt_of_lt_of_le hbk hx.size
          replace hI:=hI.ext hx
          replace hP:=hP.ext hx
          clear hx))
    have ht:=unHi_bd E (clamp top 255)
    unfold stepM at hFs
    simp only at hFs
    generalize unHi E (clamp top 255)=t at *
    generalize unLo E (clamp top 255)=y at *
    have hPh:=Lib.hid hP
    have hKh:=Lib.hid hK
    clear hP hK hcell
    by_cases hst:s<=t
    · have hF2:Hid ((l.drop (j+1)).foldl (stepM (clamp top 255)) (t,y)=Q):=by have h:=hFs.out;rw [if_pos hst] at h;exact h
      clear hFs
      go_wp2_with fail
      exact⟨⟨j+1,t,y,by go_num,by omega,rfl,rfl,ht.1,ht.2,hI,b1,hPh.out,hKh.out,hF2⟩,by simp [intOf];omega⟩
    · have hF2:Hid ((l.drop (j+1)).foldl (stepM (clamp top 255)) (s,v')=Q):=by have h:=hFs.out;rw [if_neg hst] at h;exact h
      clear hFs
      go_wp2_with fail
      exact⟨⟨j+1,s,v',by go_num,by omega,rfl,rfl,hs0,hs1,hI,b1,hPh.out,hKh.out,hF2⟩,by simp [intOf];omega⟩
  · obtain rfl:N=j:=by omega
    have hq:(s,v')=Q:=by
     have h:=hF.out
     rw [List.drop_eq_nil_of_le (by rw [hlh.out];exact Nat.le_refl _)] at h
     exact h
    have hO:=hOh.out
    rw [<- hq] at hO
    clear hq hOh hF hI hlh
    have hf:R (.returned (encI v')) wr:=hO.ret hP hK
    clear hO hP hK
    go_wp2_with fail
    exact hf
set_option maxRecDepth 100000 in
set_option maxHeartbeats 4000000 in
theorem many_write_r (B p:Nat)(o:Bool)(S:TS)(r:Reg)(me v:Int)(w:World)(h:RAt B w p o S)(hn1:1<=r.n)(hn2:r.n<=8)(hm:0<=me/\me<r.n)(hb1:0<=r.base)(hb2:r.base<=50000)(hl1:0<=r.loc)(hl2:r.loc<=49000) :
  Calls Tryz.prog 98 #[.pointer (some ⟨p,0,none⟩),encR r,.int .i64 me,.int .i64 v] w (RPost encU B p w (manyW r.base r.loc r.n r.top me v) o S):=by
 generalize hR:RPost encU B p w (manyW r.base r.loc r.n r.top me v) o S=R
 have hO:ROwes R encU B p w (manyW r.base r.loc r.n r.top me v) o S:=hR▸rowes _ _ _ _ _ _ _
 clear hR
 obtain⟨kind,base,loc,n,wt,rd,top⟩:=r
 simp only at hn1 hn2 hm hb1 hb2 hl1 hl2 hO
 obtain⟨N,rfl⟩:∃ N:Nat,n=(N:Int):=⟨n.toNat,by omega⟩
 unfold encR
 obtain⟨b1,hK,hP⟩:=h.entry (.cells #[.int .i64 kind,.int .i64 base,.int .i64 loc,.int .i64 (N:Int),.int .i64 wt,.int .i64 rd,.int .i64 top] 87)
 have c_b1:=b1.cells
 clear h
 unfold manyW at hO
 rw [Int.toNat_natCast] at hO
 have h0:=allA_many base loc N top me N 0 []
 simp only [List.foldl_nil] at h0
 rw [<- h0,Prog.bind_assoc] at hO
 simp only [Prog.bind_ret] at hO
 clear h0
 have hd1:decide (me<0)=false:=by simpa using hm.1
 have hd2:decide ((N:Int)<=me)=false:=by simpa using hm.2
 go_enter Tryz.func98,Tryz.ntmps98
 go_wp2_with fail
 refine (rn_r ⟨kind,base,loc,(N:Int),wt,rd,top⟩ _ hn1 hn2).mono ?_
 rintro e w2 ⟨rfl,hx⟩
 clear c_b1
 replace hK:=hK.trans (Keep.of_ext hx hP.lt hP.le)
 replace b1:=b1.ext hx hP.lt
 have c_b1:=b1.cells
 replace hP:=hP.ext hx
 clear hx
 go_wp2_with fail
 refine (all_r B p o S ⟨kind,base,loc,(N:Int),wt,rd,top⟩ me _ hP hn1 hn2 hm hb1 hb2 hl1 hl2).mono ?_
 rintro e w1 ⟨A,c,l,o1,S1,rfl,hr,hP1,hk,hI,hlen⟩
 simp only [Int.toNat_natCast] at hr hlen
 replace hO:=hO.then hr
 replace hK:=hK.trans hk
 clear c_b1 hP hr
 replace b1:=b1.keep hk
 have c_b1:=b1.cells
 have hP:=hP1
 clear hP1 hk
 generalize hQ:List.foldl (stepM (clamp top 255)) (0,0) l=Q at *
 have hQh:=Lib.hid hQ
 have hOh:=Lib.hid hO
 have hlh:=Lib.hid hlen
 clear hQ hO
 simp only [hlen] at hI ⊢
 clear hlen
 go_wp2_with fail
 go_loopw [9,10] (fun sv z wr'=>∃ (j:Nat) (s v:Int),z=.int .i64 j/\j<=N/\sv=.int .i64 s/\0<=s/\s<=4398046511104/\Ints wr' (.slice A N c) l/\HeldR wr' p w.heap.size (.cells #[.int .i64 kind,.int .i64 base,.int .i64 loc,.int .i64 (N:Int),.int .i64 wt,.int .i64 rd,.int .i64 top] 87)/\RAt B wr' p o1 S1/\KeepR B p w wr'/\Hid ((l.drop j).foldl (stepM (clamp top 255)) (s,v)=Q)) (fun sv z _=>N-(intOf z).toNat)
 case atStart=>exact⟨0,0,0,rfl,by omega,rfl,by omega,by omega,hI,b1,hP,hK,by rw [List.drop_zero];exact hQh.out⟩
 case round =>
  clear hI b1 c_b1 hP hK hQh
  obtain⟨j,s,v',rfl,hj,rfl,hs0,hs1,hI,b1,hP,hK,hF⟩:=hrel
  have c_b1:=b1.cells
  by_cases hjn:j<N
  · obtain⟨bk,off,rfl,hbk,hcell⟩:=hI.at_ hjn
    have hFs:Hid ((l.drop (j+1)).foldl (stepM (clamp top 255)) (stepM (clamp top 255) (s,v') (l.getD j 0))=Q):=by
     have h:=hF.out
     have hjl:j<l.length:=by rw [hlh.out];exact hjn
     rw [List.drop_eq_getElem_cons hjl,List.foldl_cons] at h
     have e:l.getD j 0=l[j]:=by simp [List.getD,hjl]
     rw [e]
     exact h
    clear hF
    generalize l.getD j 0=E at *
    go_wp2_with fail
    replace hP:=hP.drew
    replace hK:=hK.drew
    replace b1:=b1.drew
    replace hI:=hI.ext (Ext.refl _).drew
    go_region_held2 (fun w'=>(∀ i:Nat,w'.cell? ⟨w.heap.size,i,none⟩=(#[.int .i64 kind,.int .i64 base,.int .i64 loc,.int .i64 (N:Int),.int .i64 wt,.int .i64 rd,.int .i64 top]:Array Value)[i]?)/\w'.cell? ⟨bk,off+j,none⟩=some (.int .i64 E)) (first | with_reducible exact⟨c_b1,hcell⟩ | go_keep)
     (first
       | (go_at_call 139
          refine (top_r ⟨kind,base,loc,(N:Int),wt,rd,top⟩ _).mono ?_
          rintro e w2 ⟨rfl,hx⟩
          clear c_b1
          replace hK:=hK.trans (Keep.of_ext hx hP.lt hP.le)
          replace b1:=b1.ext hx hP.lt
          have c_b1:=b1.cells
          replace hcell:=(hx.cell (p:=⟨bk,off+j,none⟩) hbk).trans hcell
          replace hbk:=Nat.lt_of_lt_of_le hbk hx.size
          replace hI:=hI.ext hx
          replace hP:=hP.ext hx
          clear hx)
       | (go_at_call 138
          refine (unpack_rx _ _ _).mono ?_
          rintro e w2 ⟨rfl,hx⟩
          clear c_b1
          replace hK:=hK.trans (Keep.of_ext hx hP.lt hP.le)
          replace b1:=b1.ext hx hP.lt
          have c_b1:=b1.cells
          replace hcell:=(hx.cell (p:=⟨bk,off+j,none⟩) hbk).trans hcell
          replace hbk:=Nat.lt_of_lt_of_le hbk hx.size
          replace hI:=hI.ext hx
          replace hP:=hP.ext hx
          clear hx))
    have ht:=unHi_bd E (clamp top 255)
    unfold stepM at hFs
    simp only at hFs
    generalize unHi E (clamp top 255)=t at *
    generalize unLo E (clamp top 255)=y at *
    have hPh:=Lib.hid hP
    have hKh:=Lib.hid hK
    clear hP hK hcell
    by_cases hst:s<t
    · have hF2:Hid ((l.drop (j+1)).foldl (stepM (clamp top 255)) (t,y)=Q):=by have h:=hFs.out;rw [if_pos (by omega)] at h;exact h
      clear hFs
      go_wp2_with fail
      exact⟨⟨j+1,t,y,by go_num,by omega,rfl,ht.1,ht.2,hI,b1,hPh.out,hKh.out,hF2⟩,by simp [intOf];omega⟩
    · have hF2:∃ u,Hid ((l.drop (j+1)).foldl (stepM (clamp top 255)) (s,u)=Q):=by
       have h:=hFs.out
       by_cases e:s<=t
       · rw [if_pos e,show t=s by omega] at h;exact⟨y,h⟩
       · rw [if_neg e] at h;exact⟨v',h⟩
      obtain⟨u,hF2⟩:=hF2
      clear hFs
      go_wp2_with fail
      exact⟨⟨j+1,s,u,by go_num,by omega,rfl,hs0,hs1,hI,b1,hPh.out,hKh.out,hF2⟩,by simp [intOf];omega⟩
  · obtain rfl:N=j:=by omega
    have hq:(s,v')=Q:=by
     have h:=hF.out
     rw [List.drop_eq_nil_of_le (by rw [hlh.out];exact Nat.le_refl _)] at h
     exact h
    have hO:=hOh.out
    rw [<- hq] at hO
    clear hq hOh hF hI hlh
    simp only at hO
    rw [pack_clamp255] at hO
    have hmb:=many_bd N me hn1 hn2 hm
    obtain⟨_,_,_,_,_,hcc⟩:=hP.cell
    have hmin:(if s<4095 then s+1 else 4095)=min (s+1) 4095:=by split <;> omega
    generalize hM:min (s+1) 4095=M at *
    cases o1 with
    | true =>
      have hf:R (.returned (encU ())) wr:=hO.over () hP hK
      clear hO hP hK hmb
      by_cases hs:s<4095
      · go_wp2_with fail
        first | go_end0 | refine bodyPost_ret (results_none rfl _ _ _) rfl ?_
        exact hf
      · go_wp2_with fail
        first | go_end0 | refine bodyPost_ret (results_none rfl _ _ _) rfl ?_
        exact hf
    | false =>
      by_cases hs:s<4095
      · obtain rfl:s+1=M:=by rw [if_pos hs] at hmin;exact hmin
        clear hM hmin
        go_wp2_with fail
        clear hcc
        replace hP:=hP.drew
        replace hK:=hK.drew
        replace b1:=b1.drew
        go_region_held2 (fun w'=>∀ i:Nat,w'.cell? ⟨w.heap.size,i,none⟩=(#[.int .i64 kind,.int .i64 base,.int .i64 loc,.int .i64 (N:Int),.int .i64 wt,.int .i64 rd,.int .i64 top]:Array Value)[i]?) (first | with_reducible exact c_b1 | go_keep)
         (first
           | (go_at_call 140
              refine (number_rm ⟨kind,base,loc,(N:Int),wt,rd,top⟩ me _ hn1 hn2 hm hb1 hb2 hl1 hl2).mono ?_
              rintro e w2 ⟨rfl,hx⟩
              clear c_b1
              replace hK:=hK.trans (Keep.of_ext hx hP.lt hP.le)
              replace b1:=b1.ext hx hP.lt
              have c_b1:=b1.cells
              replace hP:=hP.ext hx
              clear hx)
           | (go_at_call 139
              refine (top_r ⟨kind,base,loc,(N:Int),wt,rd,top⟩ _).mono ?_
              rintro e w2 ⟨rfl,hx⟩
              clear c_b1
              replace hK:=hK.trans (Keep.of_ext hx hP.lt hP.le)
              replace b1:=b1.ext hx hP.lt
              have c_b1:=b1.cells
              replace hP:=hP.ext hx
              clear hx)
           | (go_at_call 134
              refine (pack_r _ _ _ _).mono ?_
              rintro e w' ⟨rfl,rfl⟩)
           | (go_at_call 97
              refine rlast hO hK (table_write_r B p false S1 ⟨0,manyB base N me,manyL loc N me,N,me,0,manyTop top⟩ me _ _ hP hn1 hn2 (by simp only;omega) (by simp only;omega) (by simp only [manyB];omega) (by simp only [manyB];omega) (by simp only [manyL];omega) (by simp only [manyL];omega)) ?_
              clear hO hK hP c_b1
              intro u o S w1 hP hk hK hO
              replace b1:=b1.keep hk
              have c_b1:=b1.cells
              clear hk))
        go_wp2_with fail
        first | go_end0 | refine bodyPost_ret (results_none rfl _ _ _) rfl ?_
        exact hO.ret hP hK
      · obtain rfl:4095=M:=by rw [if_neg hs] at hmin;exact hmin
        clear hM hmin
        go_wp2_with fail
        clear hcc
        replace hP:=hP.drew
        replace hK:=hK.drew
        replace b1:=b1.drew
        go_region_held2 (fun w'=>∀ i:Nat,w'.cell? ⟨w.heap.size,i,none⟩=(#[.int .i64 kind,.int .i64 base,.int .i64 loc,.int .i64 (N:Int),.int .i64 wt,.int .i64 rd,.int .i64 top]:Array Value)[i]?) (first | with_reducible exact c_b1 | go_keep)
         (first
           | (go_at_call 140
              refine (number_rm ⟨kind,base,loc,(N:Int),wt,rd,top⟩ me _ hn1 hn2 hm hb1 hb2 hl1 hl2).mono ?_
              rintro e w2 ⟨rfl,hx⟩
              clear c_b1
              replace hK:=hK.trans (Keep.of_ext hx hP.lt hP.le)
              replace b1:=b1.ext hx hP.lt
              have c_b1:=b1.cells
              replace hP:=hP.ext hx
              clear hx)
           | (go_at_call 139
              refine (top_r ⟨kind,base,loc,(N:Int),wt,rd,top⟩ _).mono ?_
              rintro e w2 ⟨rfl,hx⟩
              clear c_b1
              replace hK:=hK.trans (Keep.of_ext hx hP.lt hP.le)
              replace b1:=b1.ext hx hP.lt
              have c_b1:=b1.cells
              replace hP:=hP.ext hx
              clear hx)
           | (go_at_call 134
              refine (pack_r _ _ _ _).mono ?_
              rintro e w' ⟨rfl,rfl⟩)
           | (go_at_call 97
              refine rlast hO hK (table_write_r B p false S1 ⟨0,manyB base N me,manyL loc N me,N,me,0,manyTop top⟩ me _ _ hP hn1 hn2 (by simp only;omega) (by simp only;omega) (by simp only [manyB];omega) (by simp only [manyB];omega) (by simp only [manyL];omega) (by simp only [manyL];omega)) ?_
              clear hO hK hP c_b1
              intro u o S w1 hP hk hK hO
              replace b1:=b1.keep hk
              have c_b1:=b1.cells
              clear hk))
        go_wp2_with fail
        first | go_end0 | refine bodyPost_ret (results_none rfl _ _ _) rfl ?_
        exact hO.ret hP hK
set_option maxRecDepth 100000 in
set_option maxHeartbeats 2000000 in
theorem reg_write_r (B p:Nat)(o:Bool)(S:TS)(r:Reg)(me v:Int)(w:World)(h:RAt B w p o S)(hr:r.ok)(hm:0<=me/\me<r.n) :
  Calls Tryz.prog 65 #[.pointer (some ⟨p,0,none⟩),encR r,.int .i64 me,.int .i64 v] w (RPost encU B p w (regW r me v) o S):=by
 generalize hR:RPost encU B p w (regW r me v) o S=R
 have hO:ROwes R encU B p w (regW r me v) o S:=hR▸rowes _ _ _ _ _ _ _
 clear hR
 obtain⟨hk,hb,hl,hn,hw⟩:=hr
 obtain⟨kind,base,loc,n,wr,rd,top⟩:=r
 simp only at hk hb hl hn hw hm hO
 unfold encR
 obtain⟨b1,hK,hP⟩:=h.entry (.cells #[.int .i64 kind,.int .i64 base,.int .i64 loc,.int .i64 n,.int .i64 wr,.int .i64 rd,.int .i64 top] 87)
 have c_b1:=b1.cells
 clear h
 unfold regW at hO
 simp only at hO
 rcases hk with rfl | rfl | rfl
 · simp at hO
   go_enter Tryz.func65,Tryz.ntmps65
   go_wp2_with fail
   refine rlast hO hK (write_r B p o S _ _ _ hP) ?_
   clear hO hK hP c_b1
   intro u o S w1 hP hk hK hO
   replace b1:=b1.keep hk
   have c_b1:=b1.cells
   clear hk
   go_wp2_with fail
   first | go_end0 | refine bodyPost_ret (results_none rfl _ _ _) rfl ?_
   exact hO.ret hP hK
 · simp at hO
   obtain⟨hw1,hw2⟩:=hw rfl
   clear hw
   go_enter Tryz.func65,Tryz.ntmps65
   go_wp2_with fail
   refine rlast hO hK (table_write_r B p o S ⟨6,base,loc,n,wr,rd,top⟩ me v _ hP hn.1 hn.2 hw1 hw2 hb.1 (by simp only;omega) hl.1 (by simp only;omega)) ?_
   clear hO hK hP c_b1
   intro u o S w1 hP hk hK hO
   replace b1:=b1.keep hk
   have c_b1:=b1.cells
   clear hk
   go_wp2_with fail
   first | go_end0 | refine bodyPost_ret (results_none rfl _ _ _) rfl ?_
   exact hO.ret hP hK
 · simp at hO
   go_enter Tryz.func65,Tryz.ntmps65
   go_wp2_with fail
   refine rlast hO hK (many_write_r B p o S ⟨7,base,loc,n,wr,rd,top⟩ me v _ hP hn.1 hn.2 hm hb.1 (by simp only;omega) hl.1 (by simp only;omega)) ?_
   clear hO hK hP c_b1
   intro u o S w1 hP hk hK hO
   replace b1:=b1.keep hk
   have c_b1:=b1.cells
   clear hk
   go_wp2_with fail
   first | go_end0 | refine bodyPost_ret (results_none rfl _ _ _) rfl ?_
   exact hO.ret hP hK
set_option maxRecDepth 100000 in
set_option maxHeartbeats 2000000 in
theorem reg_read_r (B p:Nat)(o:Bool)(S:TS)(r:Reg)(me:Int)(w:World)(h:RAt B w p o S)(hr:r.ok)(hm:0<=me/\me<r.n) :
  Calls Tryz.prog 66 #[.pointer (some ⟨p,0,none⟩),encR r,.int .i64 me] w (RPost encI B p w (regR r me) o S):=by
 generalize hR:RPost encI B p w (regR r me) o S=R
 have hO:ROwes R encI B p w (regR r me) o S:=hR▸rowes _ _ _ _ _ _ _
 clear hR
 obtain⟨hk,hb,hl,hn,hw⟩:=hr
 obtain⟨kind,base,loc,n,wr,rd,top⟩:=r
 simp only at hk hb hl hn hw hm hO
 unfold encR
 obtain⟨b1,hK,hP⟩:=h.entry (.cells #[.int .i64 kind,.int .i64 base,.int .i64 loc,.int .i64 n,.int .i64 wr,.int .i64 rd,.int .i64 top] 87)
 have c_b1:=b1.cells
 clear h
 unfold regR at hO
 simp only at hO
 rcases hk with rfl | rfl | rfl
 · simp at hO
   go_enter Tryz.func66,Tryz.ntmps66
   go_wp2_with fail
   refine rlast hO hK (read_r B p o S _ _ hP) ?_
   clear hO hK hP c_b1
   intro x o S w1 hP hk hK hO
   replace b1:=b1.keep hk
   have c_b1:=b1.cells
   clear hk
   go_wp2_with fail
   exact hO.ret hP hK
 · simp at hO
   obtain⟨hw1,hw2⟩:=hw rfl
   clear hw
   go_enter Tryz.func66,Tryz.ntmps66
   go_wp2_with fail
   refine rlast hO hK (table_read_r B p o S ⟨6,base,loc,n,wr,rd,top⟩ me _ hP hn.1 hn.2 hw1 hw2 hm hb.1 (by simp only;omega) hl.1 (by simp only;omega)) ?_
   clear hO hK hP c_b1
   intro x o S w1 hP hk hK hO
   replace b1:=b1.keep hk
   have c_b1:=b1.cells
   clear hk
   go_wp2_with fail
   exact hO.ret hP hK
 · simp at hO
   go_enter Tryz.func66,Tryz.ntmps66
   go_wp2_with fail
   refine rlast hO hK (many_read_r B p o S ⟨7,base,loc,n,wr,rd,top⟩ me _ hP hn.1 hn.2 hm hb.1 (by simp only;omega) hl.1 (by simp only;omega)) ?_
   clear hO hK hP c_b1
   intro x o S w1 hP hk hK hO
   replace b1:=b1.keep hk
   have c_b1:=b1.cells
   clear hk
   go_wp2_with fail
   exact hO.ret hP hK
end Go.Proofs.YtbphlkaihfbgeaaGreat
namespace Kv
open Go Go.RowKit
end Kv
namespace Go.Proofs.YtbphlkaihfbgeaaGreat
open Go.RowKit Kv
def regVals (r:Reg):List Value:=[.int .i64 r.kind,.int .i64 r.base,.int .i64 r.loc,.int .i64 r.n,.int .i64 r.wr,.int .i64 r.rd,.int .i64 r.top]
structure RegsAt (ix:List Nat) (w:World) (p b:Nat) (l:List Reg):Prop where
 lt:b<w.heap.size
 own:¬ ownR ix w p b
 cells:∀ j u,(l.flatMap regVals)[j]?=some u->w.cell? ⟨b,j,none⟩=some u
theorem RegsAt.keep {ix:List Nat}{B p b:Nat}{w w':World}{l:List Reg}(h:RegsAt ix w p b l)(k:Keep ix B p w w'):RegsAt ix w' p b l:=by
 obtain⟨h1,h2⟩:=k.rest b h.lt h.own
 exact⟨Nat.lt_of_lt_of_le h.lt k.size,h2,fun j u hu=>(World.cell?_of_block (w:=w) (a:=⟨b,j,none⟩) h1).trans (h.cells j u hu)⟩
theorem RegsAt.two {ix:List Nat}{p b:Nat}{w:World}{x y:Reg}(h:RegsAt ix w p b [x,y]) :
  (w.cell? ⟨b,0,none⟩=some (.int .i64 x.kind)/\w.cell? ⟨b,1,none⟩=some (.int .i64 x.base)/\w.cell? ⟨b,2,none⟩=some (.int .i64 x.loc)/\w.cell? ⟨b,3,none⟩=some (.int .i64 x.n)/\w.cell? ⟨b,4,none⟩=some (.int .i64 x.wr)/\w.cell? ⟨b,5,none⟩=some (.int .i64 x.rd)/\w.cell? ⟨b,6,none⟩=some (.int .i64 x.top)) /\
    (w.cell? ⟨b,7,none⟩=some (.int .i64 y.kind)/\w.cell? ⟨b,8,none⟩=some (.int .i64 y.base)/\w.cell? ⟨b,9,none⟩=some (.int .i64 y.loc)/\w.cell? ⟨b,10,none⟩=some (.int .i64 y.n)/\w.cell? ⟨b,11,none⟩=some (.int .i64 y.wr)/\w.cell? ⟨b,12,none⟩=some (.int .i64 y.rd)/\w.cell? ⟨b,13,none⟩=some (.int .i64 y.top)) :=
 ⟨⟨h.cells 0 _ rfl,h.cells 1 _ rfl,h.cells 2 _ rfl,h.cells 3 _ rfl,h.cells 4 _ rfl,h.cells 5 _ rfl,h.cells 6 _ rfl⟩,⟨h.cells 7 _ rfl,h.cells 8 _ rfl,h.cells 9 _ rfl,h.cells 10 _ rfl,h.cells 11 _ rfl,h.cells 12 _ rfl,h.cells 13 _ rfl⟩⟩
theorem eqIn_acc (a b c a' b' c':Int)(w:World):(Op.equalIn 10000 56 (.agg #[.int .i64 a,.int .i64 b,.int .i64 c]) (.agg #[.int .i64 a',.int .i64 b',.int .i64 c'])).run Tryz.prog w=.ok (decide (a=a'/\b=b'/\c=c')) w:=by
 rw [run_equalIn_struct w 9999 56 _ _ (by kernel_rfl) (by kernel_rfl)]
 have hu:Tryz.prog.underlying 3=some (.int .i64):=Tryz.underlying3
 simp only [Program.fieldsOf,Tryz.underlying56,Op.eqFields]
 simp [go_sem,run_equalIn_int,hu]
 by_cases h0:a=a' <;> by_cases h1:b=b' <;> by_cases h2:c=c' <;> simp [h0,h1,h2]
@[go_sem] theorem eql_acc (a b c a' b' c':Int) (w:World):(binOp .eql 56 (.agg #[.int .i64 a,.int .i64 b,.int .i64 c]) (.agg #[.int .i64 a',.int .i64 b',.int .i64 c'])).run Tryz.prog w=.ok (.bool (decide (a=a'/\b=b'/\c=c'))) w:=by
 rw [run_eql_struct,eqIn_acc];rfl
@[go_sem] theorem neq_acc (a b c a' b' c':Int) (w:World):(binOp .neq 56 (.agg #[.int .i64 a,.int .i64 b,.int .i64 c]) (.agg #[.int .i64 a',.int .i64 b',.int .i64 c'])).run Tryz.prog w=.ok (.bool (!decide (a=a'/\b=b'/\c=c'))) w:=by
 rw [run_neq_struct,eqIn_acc];rfl
theorem eqIn_nt (a b a' b':Int)(w:World):(Op.equalIn 10000 77 (.agg #[.int .i64 a,.int .i64 b]) (.agg #[.int .i64 a',.int .i64 b'])).run Tryz.prog w=.ok (decide (a=a'/\b=b')) w:=by
 rw [run_equalIn_struct w 9999 77 _ _ (by kernel_rfl) (by kernel_rfl)]
 have hu:Tryz.prog.underlying 3=some (.int .i64):=Tryz.underlying3
 simp only [Program.fieldsOf,Tryz.underlying77,Op.eqFields]
 simp [go_sem,run_equalIn_int,hu]
 by_cases h0:a=a' <;> by_cases h1:b=b' <;> simp [h0,h1]
@[go_sem] theorem eql_nt (a b a' b':Int) (w:World):(binOp .eql 77 (.agg #[.int .i64 a,.int .i64 b]) (.agg #[.int .i64 a',.int .i64 b'])).run Tryz.prog w=.ok (.bool (decide (a=a'/\b=b'))) w:=by
 rw [run_eql_struct,eqIn_nt];rfl
@[go_sem] theorem neq_nt (a b a' b':Int) (w:World):(binOp .neq 77 (.agg #[.int .i64 a,.int .i64 b]) (.agg #[.int .i64 a',.int .i64 b'])).run Tryz.prog w=.ok (.bool (!decide (a=a'/\b=b'))) w:=by
 rw [run_neq_struct,eqIn_nt];rfl
theorem eqIn_want (a b a' b':Int)(w:World):(Op.equalIn 10000 54 (.agg #[.int .i64 a,.int .i64 b]) (.agg #[.int .i64 a',.int .i64 b'])).run Tryz.prog w=.ok (decide (a=a'/\b=b')) w:=by
 rw [run_equalIn_struct w 9999 54 _ _ (by kernel_rfl) (by kernel_rfl)]
 have hu:Tryz.prog.underlying 3=some (.int .i64):=Tryz.underlying3
 simp only [Program.fieldsOf,Tryz.underlying54,Op.eqFields]
 simp [go_sem,run_equalIn_int,hu]
 by_cases h0:a=a' <;> by_cases h1:b=b' <;> simp [h0,h1]
@[go_sem] theorem eql_want (a b a' b':Int) (w:World):(binOp .eql 54 (.agg #[.int .i64 a,.int .i64 b]) (.agg #[.int .i64 a',.int .i64 b'])).run Tryz.prog w=.ok (.bool (decide (a=a'/\b=b'))) w:=by
 rw [run_eql_struct,eqIn_want];rfl
@[go_sem] theorem neq_want (a b a' b':Int) (w:World):(binOp .neq 54 (.agg #[.int .i64 a,.int .i64 b]) (.agg #[.int .i64 a',.int .i64 b'])).run Tryz.prog w=.ok (.bool (!decide (a=a'/\b=b'))) w:=by
 rw [run_neq_struct,eqIn_want];rfl
theorem flat_at {α:Type}(f:α->List Value)(k:Nat)(hf:∀ a,(f a).length=k):∀ (l:List α) (i j:Nat) (a:α),l[i]?=some a->j<k->(l.flatMap f)[k*i+j]?=(f a)[j]?
 | [],i,j,a,h,_=>by simp at h
 | x :: l,0,j,a,h,hj=>by
   obtain rfl:x=a:=by simpa using h
   rw [List.flatMap_cons,Nat.mul_zero,Nat.zero_add,List.getElem?_append_left (by rw [hf];exact hj)]
 | x :: l,i+1,j,a,h,hj=>by
   have:=flat_at f k hf l i j a (by simpa using h) hj
   rw [List.flatMap_cons,List.getElem?_append_right (by rw [hf,Nat.mul_add];omega),hf,show k*(i+1)+j-k=k*i+j by rw [Nat.mul_add];omega]
   exact this
theorem flat_len {α:Type}(f:α->List Value)(k:Nat)(hf:∀ a,(f a).length=k):∀ l:List α,(l.flatMap f).length=k*l.length
 | []=>rfl
 | x :: l=>by rw [List.flatMap_cons,List.length_append,hf,flat_len f k hf l,List.length_cons,Nat.mul_add];omega
def wantVals (q:Want):List Value:=[.int .i64 q.wr,.int .i64 q.top]
def Recs (w:World) (v:Value) (n:Nat) (vals:List Value):Prop:=∃ A c,v=.slice A n c/\n<=c/\c<=9223372036854775807/\Vals w A vals
theorem Recs.ext {w w':World}{v:Value}{n:Nat}{vals:List Value}(h:Recs w v n vals)(hx:Ext w w'):Recs w' v n vals:=by
 obtain⟨A,c,e,h1,h2,h3⟩:=h
 exact⟨A,c,e,h1,h2,h3.ext hx⟩
theorem Recs.of_row {w:World}{B e size n:Nat}{v:Value}{xs:List Value}(h:w.ownsRow B e size v n xs):Recs w v n xs:=vals_row h
def WantsAt (w:World) (v:Value) (l:List Want):Prop:=Recs w v l.length (l.flatMap wantVals)
theorem want_at {w:World}{A:Option Addr}{l:List Want}(h:Vals w A (l.flatMap wantVals)){i:Nat}{q:Want}(hi:l[i]?=some q) :
  ∃ b,A=some ⟨b,0,none⟩/\b<w.heap.size/\w.cell? ⟨b,i*2,none⟩=some (.int .i64 q.wr)/\w.cell? ⟨b,i*2+1,none⟩=some (.int .i64 q.top):=by
 have h0:=flat_at wantVals 2 (fun _=>rfl) l i 0 q hi (by omega)
 have h1:=flat_at wantVals 2 (fun _=>rfl) l i 1 q hi (by omega)
 obtain⟨b,rfl,hb,hc⟩:=h (fun e=>by rw [e] at h0;simp [wantVals] at h0)
 rw [Nat.mul_comm i 2]
 exact⟨b,rfl,hb,hc _ _ h0,hc _ _ h1⟩
structure RegCells (w:World) (b o:Nat) (r:Reg):Prop where
 kind:w.cell? ⟨b,o,none⟩=some (.int .i64 r.kind)
 base:w.cell? ⟨b,o+1,none⟩=some (.int .i64 r.base)
 loc:w.cell? ⟨b,o+2,none⟩=some (.int .i64 r.loc)
 n:w.cell? ⟨b,o+3,none⟩=some (.int .i64 r.n)
 wr:w.cell? ⟨b,o+4,none⟩=some (.int .i64 r.wr)
 rd:w.cell? ⟨b,o+5,none⟩=some (.int .i64 r.rd)
 top:w.cell? ⟨b,o+6,none⟩=some (.int .i64 r.top)
theorem reg_cells {w:World}{b:Nat}{l:List Reg}(hc:∀ (i:Nat) u,(l.flatMap regVals)[i]?=some u->w.cell? ⟨b,i,none⟩=some u){i:Nat}{r:Reg}(hi:l[i]?=some r):RegCells w b (i*7) r:=by
 have f:=fun j hj=>flat_at regVals 7 (fun _=>rfl) l i j r hi hj
 rw [Nat.mul_comm i 7]
 exact⟨hc _ _ (f 0 (by omega)),hc _ _ (f 1 (by omega)),hc _ _ (f 2 (by omega)),hc _ _ (f 3 (by omega)),hc _ _ (f 4 (by omega)),hc _ _ (f 5 (by omega)),hc _ _ (f 6 (by omega))⟩
theorem reg_at {w:World}{A:Option Addr}{l:List Reg}(h:Vals w A (l.flatMap regVals)){i:Nat}{r:Reg}(hi:l[i]?=some r):∃ b,A=some ⟨b,0,none⟩/\b<w.heap.size/\RegCells w b (i*7) r:=by
 have h0:=flat_at regVals 7 (fun _=>rfl) l i 0 r hi (by omega)
 obtain⟨b,rfl,hb,hc⟩:=h (fun e=>by rw [e] at h0;simp [regVals] at h0)
 exact⟨b,rfl,hb,reg_cells hc hi⟩
theorem info_reg:(Tryz.prog.info? 87).map (fun i=>(i.zero,i.size,i.bytes))=some (some (.agg #[.int .i64 0,.int .i64 0,.int .i64 0,.int .i64 0,.int .i64 0,.int .i64 0,.int .i64 0]),7,56):=by kernel_rfl
theorem info_want:(Tryz.prog.info? 54).map (fun i=>(i.zero,i.size,i.bytes))=some (some (.agg #[.int .i64 0,.int .i64 0]),2,16):=by kernel_rfl
theorem append_rec {ops:Array Oper}{rest:List Oper}{o:Oper}{a:Act}{Q:Exit->Act->World->Prop}{w0 w:World}{e t:TypeId}{z:Value}{size bytes:Nat}
  (hinfo:(Tryz.prog.info? e).map (fun i=>(i.zero,i.size,i.bytes))=some (some z,size,bytes))(hund:Tryz.prog.underlying t=some (.slice e))(hzs:z.cells.size=size)(hsz:0<size)(hby:bytes<=100)
  (hgd:o.guard=none)(s x:Operand)(ho:o.op=.call { callee:=.builtin .append,args:=#[s,x],argTypes:=#[t,t] })
  (v:Value)(n:Nat)(xs news:List Value)(hX:Ext w0 w)(hown:w.ownsRow w0.heap.size e size v n xs)(hs:a.eval s=v)(hx:a.eval x=.slice (some ⟨w.heap.size,0,none⟩) 1 1)
  (hnl:news.length=size)(h1:∀ u∈news,u.oneCell'=true)(hlen:n<1000000000)
  (h:∀ v' w',w'.ownsRow w0.heap.size e size v' (n+1) (xs++news)->Ext w0 w'->(∀ k,k<w.heap.size->v.ownBlock≠some k->w'.heap[k]?=w.heap[k]?)->wpList Tryz.prog ops Q rest (a.put o.dst v') w') :
  wpList Tryz.prog ops Q (o :: rest) a (w.alloc (.cells news.toArray e)):=by
 obtain⟨i0,hi,hz0,hz1,hz2⟩:=info_parts hinfo
 refine wpList_append_own_at _ hgd s x t ho w0.heap.size e i0 z size bytes hund hi hz0 hz1 hz2 hzs hsz v n xs hs (World.ownsRow.alloc hown _) ⟨w.heap.size,0,none⟩ 1 1 news hx (by omega) ?_ h1 (by unfold maxLen;omega) ?_ (by have:=hX.size;simp;omega) fun v' w' h2 h3 _ _=>?_
 · intro j u hu
   rw [Addr.add_lit,Nat.zero_add]
   refine (cell_of_heap (w:=w.alloc (.cells news.toArray e)) (b:=w.heap.size) (cs:=news.toArray) (t:=e) (fz:=(0,0)) (heap_alloc_new w _) j).trans (by simpa using hu)
 · have:(n+1)*bytes<=(n+1)*100:=Nat.mul_le_mul_left _ hby
   omega
 · refine h v' w' h2 (Below.grown (Below.alloc hX hX.size _) h3 (by have:=hX.size;simp;omega) fun k hk=>?_) (fun k hk hv=>(h3.block k (by simp;omega) (fun e=>hv e.symm)).trans (Below.heap_alloc w _ k hk))
   rcases hown.2 with⟨rfl,_⟩ | ⟨g,cap,cur,rfl,hgb,_⟩
   · simp [Value.ownBlock] at hk
   · simp [Value.ownBlock] at hk
     omega
def lenOf:Option Value->Nat
 | some (.slice _ n _)=>n
 | _=>0
def leftW (i j:Nat) (w:World) (p:Nat):Nat:=lenOf (w.cell? ⟨p,i,none⟩)-lenOf (w.cell? ⟨p,j,none⟩)
theorem row_slice {w:World}{B e size n:Nat}{v:Value}{xs:List Value}(h:w.ownsRow B e size v n xs):∃ A c,v=.slice A n c:=by
 rcases h.2 with⟨rfl,h0⟩ | ⟨g,cap,cur,rfl,_⟩
 · exact⟨none,0,by rw [h0]⟩
 · exact⟨_,_,rfl⟩
theorem Plays.left {B p:Nat}{w:World}{S:TS}(h:Plays B w p S):leftW 1 3 w p=S.left:=by
 obtain⟨_,vA,vL,vC,vN,L,h⟩:=h
 obtain⟨A,c,rfl,_⟩:=h.ans.slice
 obtain⟨C,d,rfl⟩:=row_slice h.rowC
 unfold leftW TS.left
 rw [cell_of_heap h.heap,cell_of_heap h.heap]
 rfl
theorem RAt.left {B p:Nat}{w:World}{o:Bool}{S:TS}(h:RAt B w p o S):leftW 0 3 w p=S.left:=by
 obtain⟨n,vA,vC,vN,vL,L,h,_⟩:=h
 obtain⟨A,c,rfl,_⟩:=h.ans.slice
 obtain⟨C,d,rfl⟩:=row_slice h.rowC
 unfold leftW TS.left
 rw [cell_of_heap h.heap,cell_of_heap h.heap]
 rfl
theorem RegsAt.extL {ix:List Nat}{p b:Nat}{w w':World}{l:List Reg}(h:RegsAt ix w p b l)(hx:Ext w w')(hp:p<w.heap.size):RegsAt ix w' p b l:=h.keep (B:=0) (Keep.of_ext hx hp (Nat.zero_le _))
theorem Plays.len {B p:Nat}{w:World}{S:TS}(h:Plays B w p S):S.acc.length<=S.ans.length:=h.1
theorem RegsAt.four {ix:List Nat}{p b:Nat}{w:World}{x y z u:Reg}(h:RegsAt ix w p b [x,y,z,u]) :
  RegCells w b 0 x/\RegCells w b 7 y/\RegCells w b 14 z/\RegCells w b 21 u :=
 ⟨⟨h.cells 0 _ rfl,h.cells 1 _ rfl,h.cells 2 _ rfl,h.cells 3 _ rfl,h.cells 4 _ rfl,h.cells 5 _ rfl,h.cells 6 _ rfl⟩,⟨h.cells 7 _ rfl,h.cells 8 _ rfl,h.cells 9 _ rfl,h.cells 10 _ rfl,h.cells 11 _ rfl,h.cells 12 _ rfl,h.cells 13 _ rfl⟩,
  ⟨h.cells 14 _ rfl,h.cells 15 _ rfl,h.cells 16 _ rfl,h.cells 17 _ rfl,h.cells 18 _ rfl,h.cells 19 _ rfl,h.cells 20 _ rfl⟩,⟨h.cells 21 _ rfl,h.cells 22 _ rfl,h.cells 23 _ rfl,h.cells 24 _ rfl,h.cells 25 _ rfl,h.cells 26 _ rfl,h.cells 27 _ rfl⟩⟩
theorem tstepL {α β:Type}{B p:Nat}{w0 w:World}{S:TS}{R:Ending->World->Prop}{P:Program}{f:FuncId}{args:Array Value}{K:Ending->World->Prop}{enc:α->Value}{enc':β->Value}{T:Prog α}{g:α->Prog β}
  (hO:Owes R enc' B p w0 ((T.bind g).run S))(hB:KeepP B p w0 w)(h:Calls P f args w (Post enc B p w (T.run S)))(hp:∀ w',R (stopE p) w'->K (stopE p) w')
  (hk:∀ v S1 w1,S1.left<=S.left->(T.Asks->S1.left<S.left)->Plays B w1 p S1->KeepP B p w w1->KeepP B p w0 w1->Owes R enc' B p w0 ((g v).run S1)->K (.returned (enc v)) w1):Calls P f args w K:=by
 refine tstep hO hB h hp fun v S1 w1 hr hP hk1 hk2 hO1=>hk v S1 w1 ?_ (fun ha=>ha.left hr hP.1) hP hk1 hk2 hO1
 have:=Prog.run_left T S
 rw [hr] at this
 exact this
def leftR (w:World) (p:Nat):Nat:=leftW 0 3 w p+(match w.cell? ⟨p,2,none⟩ with
 | some (.bool true)=>0
 | _=>1)
theorem RAt.leftR {B p:Nat}{w:World}{o:Bool}{S:TS}(h:RAt B w p o S):leftR w p=S.left+(if o then 0 else 1):=by
 unfold Go.Proofs.YtbphlkaihfbgeaaGreat.leftR
 rw [h.left]
 obtain⟨_,_,_,_,_,hc⟩:=h.cell
 rw [hc]
 cases o <;> rfl
theorem RAt.len {B p:Nat}{w:World}{S:TS}(h:RAt B w p false S):S.acc.length<=S.ans.length:=by
 obtain⟨n,vA,vC,vN,vL,L,_,_,h⟩:=h
 simp at h
 exact h
theorem ref_lefts {α:Type}{T:Prog α}{o o':Bool}{S S':TS}{a:α}(h:Ref T o S a o' S'):S'.left<=S.left:=by
 cases h with
 | over=>exact Nat.le_refl _
 | done h=>have:=Prog.run_left T S;rw [h] at this;exact this
 | stop _ h=>have:=Prog.run_left T S;rw [h] at this;exact this
theorem rstepL {α β:Type}{B p:Nat}{w0 w:World}{o:Bool}{S:TS}{R:Ending->World->Prop}{P:Program}{f:FuncId}{args:Array Value}{K:Ending->World->Prop}{enc:α->Value}{enc':β->Value}{T:Prog α}{g:α->Prog β}
  (hO:ROwes R enc' B p w0 (T.bind g) o S)(hB:KeepR B p w0 w)(h:Calls P f args w (RPost enc B p w T o S))
  (hk:∀ v o1 S1 w1,S1.left<=S.left->(o1=false->o=false/\(T.Asks->S1.left<S.left))->RAt B w1 p o1 S1->KeepR B p w w1->KeepR B p w0 w1->ROwes R enc' B p w0 (g v) o1 S1->K (.returned (enc v)) w1):Calls P f args w K:=by
 refine h.mono fun e w1 hp1=>?_
 obtain⟨a,o',S',rfl,hr,h1,h2⟩:=hp1
 refine hk a o' S' w1 (ref_lefts hr) (fun ho=>?_) h1 h2 (hB.trans h2) (hO.then hr)
 subst ho
 cases hr with
 | done hr=>exact⟨rfl,fun ha=>ha.left hr h1.len⟩
end Go.Proofs.YtbphlkaihfbgeaaGreat
namespace Kv
theorem notes_forP {σ:Type}{T:Int->σ->Prog σ}(h:∀ a x,(T a x).Notes 0):∀ (l:List Int) (x:σ),(forP T l x).Notes 0
 | [],x=>.ret x 0
 | a :: l,x=>(h a x).bind0 fun y=>notes_forP h l y
theorem notes_trompW (b l v:Int):(trompW b l v).Notes 0:=by
 refine (notes_gt _).bind0 fun x=>?_
 split
 · exact .ret _ _
 · refine (notes_wr _ _).bind0 fun _=>(notes_st _ _).bind0 fun _=>(notes_gt _).bind0 fun _=>(notes_rd _).bind0 fun _=>?_
   split
   · exact (notes_wr _ _).bind0 fun _=>notes_st _ _
   · exact .ret _ _
theorem notes_trompR3 (b l x:Int):(trompR3 b l x).Notes 0:=by
 refine (notes_rd _).bind0 fun _=>(notes_st _ _).bind0 fun _=>(notes_rd _).bind0 fun _=>(notes_gt _).bind0 fun _=>?_
 split
 · exact notes_gt _
 · exact (notes_rd _).bind0 fun _=>(notes_st _ _).bind0 fun _=>.ret _ _
theorem notes_trompR2 (b l x:Int):(trompR2 b l x).Notes 0:=by
 refine (notes_rd _).bind0 fun _=>(notes_gt _).bind0 fun _=>?_
 split
 · exact notes_trompR3 _ _ _
 · exact (notes_gt _).bind0 fun _=>(notes_wr _ _).bind0 fun _=>(notes_st _ _).bind0 fun _=>notes_trompR3 _ _ _
theorem notes_trompR (b l:Int):(trompR b l).Notes 0:=by
 refine (notes_rd _).bind0 fun _=>(notes_gt _).bind0 fun _=>?_
 split
 · exact notes_gt _
 · exact (notes_rd _).bind0 fun _=>notes_trompR2 _ _ _
theorem notes_slotsW (b l v:Int):(slotsW b l v).Notes 0 :=
 (notes_trompR _ _).bind0 fun _=>(notes_gt _).bind0 fun _=>(notes_wr _ _).bind0 fun _=>(notes_st _ _).bind0 fun _=>(notes_trompW _ _ _).bind0 fun _=>notes_trompW _ _ _
theorem notes_slotsR (b l:Int):(slotsR b l).Notes 0 :=
 (notes_trompR _ _).bind0 fun _=>(notes_trompW _ _ _).bind0 fun _=>(notes_trompR _ _).bind0 fun _=>notes_rd _
theorem notes_tableW (b l n w top me v:Int):(tableW b l n w top me v).Notes 0:=by
 unfold tableW
 split
 · exact .ret _ _
 · exact (notes_gt _).bind0 fun _=>(notes_st _ _).bind0 fun _=>(notes_forP (fun _ _=>notes_slotsW _ _ _) _ _).bind0 fun _=>notes_st _ _
theorem notes_tableR (b l n w top me:Int):(tableR b l n w top me).Notes 0:=by
 unfold tableR
 split
 · exact notes_gt _
 · exact (notes_slotsR _ _).bind0 fun _=>(notes_forP (fun _ _=>(notes_slotsR _ _).bind0 fun _=>.ret _ _) _ _).bind0 fun _=>(notes_forP (fun _ _=>notes_slotsW _ _ _) _ _).bind0 fun _=>.ret _ _
theorem notes_manyRs (b l n top me:Int):∀ (k:Nat) (j s v:Int),(manyRs b l n top me k j s v).Notes 0
 | 0,_,_,_=>.ret _ _
 | k+1,j,s,v=>by
   unfold manyRs
   refine (notes_tableR _ _ _ _ _ _).bind0 fun y=>?_
   split
   · exact notes_manyRs b l n top me k _ _ _
   · exact notes_manyRs b l n top me k _ _ _
theorem notes_regR (r:Reg)(me:Int):(regR r me).Notes 0:=by
 unfold regR
 split
 · exact notes_rd _
 · split
   · exact notes_tableR _ _ _ _ _ _
   · exact (notes_manyRs _ _ _ _ _ _ _ _ _).bind0 fun _=>.ret _ _
theorem notes_regW (r:Reg)(me v:Int):(regW r me v).Notes 0:=by
 unfold regW
 split
 · exact notes_wr _ _
 · split
   · exact notes_tableW _ _ _ _ _ _ _
   · exact (notes_manyRs _ _ _ _ _ _ _ _ _).bind0 fun _=>notes_tableW _ _ _ _ _ _ _
theorem Prog.Notes.keep {α:Type}{p:Prog α}{n:Nat}(h:p.Notes 0){S S1:TS}{a:Option α}(hr:p.run S=(a,S1))(hn:S.nts.length<=n):S1.nts.length<=n:=by
 have:=h.run S
 rw [hr] at this
 simp only at this
 omega
end Kv
namespace Go.Proofs.YtbphlkaihfbgeaaGreat
open Go.RowKit Kv
theorem RegsAt.nth {ix:List Nat}{p b:Nat}{w:World}{l:List Reg}(h:RegsAt ix w p b l){i:Nat}{r:Reg}(hi:l[i]?=some r):RegCells w b (i*7) r:=reg_cells h.cells hi
theorem Plays.fresh {B p b:Nat}{w w':World}{S:TS}(h:Plays B w p S)(hx:Ext w w')(hb:w.heap.size<=b):¬ ownR [2,3,4] w' p b:=by
 obtain⟨_,_,_,_,_,_,h⟩:=h
 intro ho
 have:=(h.own ((ownR_same (Below.block hx p h.lt) b).1 ho)).2
 omega
theorem RAt.fresh {B p b:Nat}{w w':World}{o:Bool}{S:TS}(h:RAt B w p o S)(hx:Ext w w')(hb:w.heap.size<=b):¬ ownR [3,4,5] w' p b:=by
 obtain⟨_,_,_,_,_,_,h,_⟩:=h
 intro ho
 have:=(h.own ((ownR_same (Below.block hx p h.lt) b).1 ho)).2
 omega
end Go.Proofs.YtbphlkaihfbgeaaGreat
namespace Kv
inductive Prog.Sets {α:Type} (lo hi:Int):Prog α->Prop
 | ret (a:α):Sets lo hi (.ret a)
 | read (c:Int) {k:Int->Prog α}:(∀ x,Sets lo hi (k x))->Sets lo hi (.read c k)
 | write (c v:Int) {k:Unit->Prog α}:Sets lo hi (k ())->Sets lo hi (.write c v k)
 | get (i:Int) {k:Int->Prog α}:(∀ x,Sets lo hi (k x))->Sets lo hi (.get i k)
 | set (i v:Int) {k:Unit->Prog α}:lo<=i->i<hi->Sets lo hi (k ())->Sets lo hi (.set i v k)
 | note (m:Int) {k:Unit->Prog α}:Sets lo hi (k ())->Sets lo hi (.note m k)
theorem Prog.Sets.bind {α β:Type}{lo hi:Int}{p:Prog α}{f:α->Prog β}(h:p.Sets lo hi)(hf:∀ a,(f a).Sets lo hi):(p.bind f).Sets lo hi:=by
 induction h with
 | ret a=>exact hf a
 | read c _ ih=>exact .read c fun x=>ih x
 | write c v _ ih=>exact .write c v ih
 | get c _ ih=>exact .get c fun x=>ih x
 | set c v h1 h2 _ ih=>exact .set c v h1 h2 ih
 | note m _ ih=>exact .note m ih
theorem Prog.Sets.mono {α:Type}{lo hi lo' hi':Int}{p:Prog α}(h:p.Sets lo hi)(h1:lo'<=lo)(h2:hi<=hi'):p.Sets lo' hi':=by
 induction h with
 | ret a=>exact .ret a
 | read c _ ih=>exact .read c fun x=>ih x
 | write c v _ ih=>exact .write c v ih
 | get c _ ih=>exact .get c fun x=>ih x
 | set c v h3 h4 _ ih=>exact .set c v (by omega) (by omega) ih
 | note m _ ih=>exact .note m ih
theorem Prog.Sets.got {α:Type}{lo hi i:Int}{p:Prog α}(h:p.Sets lo hi)(hi2:i<lo∨hi<=i):∀ S:TS,(p.run S).2.got i=S.got i:=by
 induction h with
 | ret a=>intro S;rfl
 | read c _ ih =>
   intro S
   simp only [Prog.run]
   cases S.next with
   | none=>rfl
   | some v=>exact (ih v _).trans rfl
 | write c v _ ih =>
   intro S
   simp only [Prog.run]
   cases S.next with
   | none=>rfl
   | some _=>exact (ih _).trans rfl
 | get c _ ih=>intro S;exact ih _ _
 | set j v h1 h2 _ ih =>
   intro S
   refine (ih (S.upd j v)).trans ?_
   unfold TS.got TS.upd
   split
   · rfl
   · split
     · simp only
       rw [if_neg (by omega)]
     · rfl
 | note m _ ih=>intro S;exact (ih _).trans rfl
theorem ranks_mem {but:Int}:∀ (n:Nat) (i:Int) {a:Int},a∈ranksFrom but n i->i<=a/\a<i+n/\a≠but
 | 0,i,a,h=>by cases h
 | n+1,i,a,h=>by
   unfold ranksFrom at h
   split at h
   · have:=ranks_mem n (i+1) h
     omega
   · rcases List.mem_cons.1 h with rfl | h
     · omega
     · have:=ranks_mem n (i+1) h
       omega
theorem tells_bd {k a b:Int}(ha:0<=a)(ha2:a<k)(hb:0<=b)(hb2:b<k)(hab:a≠b):0<=tellsM k a b/\tellsM k a b<k*k:=by
 unfold tellsM
 have h1:a*(k-1)<=(k-1)*(k-1):=Int.mul_le_mul_of_nonneg_right (by omega) (by omega)
 have h0:0<=a*(k-1):=Int.mul_nonneg ha (by omega)
 have h2:(k-1)*(k-1)=k*k-2*k+1:=by
  rw [Int.sub_mul,Int.mul_sub,Int.mul_one,Int.one_mul];omega
 split
 · omega
 · rename_i h
   by_cases e:a=k-1
   · omega
   · have h3:a*(k-1)<=(k-2)*(k-1):=Int.mul_le_mul_of_nonneg_right (by omega) (by omega)
     have h4:(k-2)*(k-1)=k*k-3*k+2:=by
      rw [Int.sub_mul,Int.mul_sub,Int.mul_one];omega
     omega
def regAt (l:List Reg) (i:Int):Reg:=l.getD i.toNat ⟨1,0,0,1,-1,-1,1⟩
theorem regAt_of {l:List Reg}{i:Int}{k:Nat}{r:Reg}(hi:i=k)(h:l[k]?=some r):regAt l i=r:=by
 unfold regAt
 rw [hi,Int.toNat_natCast,List.getD_eq_getElem?_getD,h];rfl
end Kv
namespace Go.Proofs.YtbphlkaihfbgeaaGreat
open Go.RowKit Kv
theorem cells_bd (n:Int)(h1:1<=n)(h2:n<=8):(0<=16*(n-1)/\16*(n-1)<=112)/\(0<=16*(n-1)*(n-1)/\16*(n-1)*(n-1)<=784)/\(0<=16*(n-1)*(n-1)*n/\16*(n-1)*(n-1)*n<=6272):=by
 have a1:0<=16*(n-1)*(n-1):=Int.mul_nonneg (by omega) (by omega)
 have a2:16*(n-1)*(n-1)<=112*7:=Int.mul_le_mul (by omega) (by omega) (by omega) (by omega)
 have a3:0<=16*(n-1)*(n-1)*n:=Int.mul_nonneg a1 (by omega)
 have a4:16*(n-1)*(n-1)*n<=784*8:=Int.mul_le_mul (by omega) (by omega) (by omega) (by omega)
 omega
theorem locals_bd (n:Int)(h1:1<=n)(h2:n<=8):(0<=18*(n-1)/\18*(n-1)<=126)/\(0<=18*(n-1)*(n-1)/\18*(n-1)*(n-1)<=882)/\(0<=n*(2+18*(n-1)*(n-1))/\n*(2+18*(n-1)*(n-1))<=7072):=by
 have a1:0<=18*(n-1)*(n-1):=Int.mul_nonneg (by omega) (by omega)
 have a2:18*(n-1)*(n-1)<=126*7:=Int.mul_le_mul (by omega) (by omega) (by omega) (by omega)
 have a3:0<=n*(2+18*(n-1)*(n-1)):=Int.mul_nonneg (by omega) (by omega)
 have a4:n*(2+18*(n-1)*(n-1))<=8*884:=Int.mul_le_mul (by omega) (by omega) (by omega) (by omega)
 omega
theorem cells_r (r:Reg)(w:World)(hk:r.kind=1∨r.kind=6∨r.kind=7)(hn:1<=r.n/\r.n<=8):Calls Tryz.prog 59 #[encR r] w fun e w'=>e=.returned (.int .i64 (cellsM r))/\Ext w w':=by
 obtain⟨kind,base,loc,n,wr,rd,top⟩:=r
 simp only at hk hn
 have hb:=cells_bd n hn.1 hn.2
 unfold encR cellsM
 simp only
 have hX:=Ext.refl w
 have b1:=Blk.new w (.cells #[.int .i64 kind,.int .i64 base,.int .i64 loc,.int .i64 n,.int .i64 wr,.int .i64 rd,.int .i64 top] 87)
 replace hX:=hX.alloc (.cells #[.int .i64 kind,.int .i64 base,.int .i64 loc,.int .i64 n,.int .i64 wr,.int .i64 rd,.int .i64 top] 87)
 have c_b1:=b1.cells
 go_enter Tryz.func59,Tryz.ntmps59
 go_wp2_with fail
 refine (rn_r ⟨kind,base,loc,n,wr,rd,top⟩ _ hn.1 hn.2).mono ?_
 rintro e w2 ⟨rfl,hx⟩
 clear c_b1
 replace b1:=b1.ext hx
 have c_b1:=b1.cells
 replace hX:=hX.trans hx
 clear hx
 rcases hk with rfl | rfl | rfl
 · go_wp2_with fail
   go_ret
   exact⟨rfl,hX⟩
 · go_wp2_with fail
   go_ret
   exact⟨rfl,hX⟩
 · go_wp2_with fail
   go_ret
   exact⟨rfl,hX⟩
theorem locals_r (r:Reg)(w:World)(hk:r.kind=1∨r.kind=6∨r.kind=7)(hn:1<=r.n/\r.n<=8):Calls Tryz.prog 60 #[encR r] w fun e w'=>e=.returned (.int .i64 (localsM r))/\Ext w w':=by
 obtain⟨kind,base,loc,n,wr,rd,top⟩:=r
 simp only at hk hn
 have hb:=locals_bd n hn.1 hn.2
 unfold encR localsM
 simp only
 have hX:=Ext.refl w
 have b1:=Blk.new w (.cells #[.int .i64 kind,.int .i64 base,.int .i64 loc,.int .i64 n,.int .i64 wr,.int .i64 rd,.int .i64 top] 87)
 replace hX:=hX.alloc (.cells #[.int .i64 kind,.int .i64 base,.int .i64 loc,.int .i64 n,.int .i64 wr,.int .i64 rd,.int .i64 top] 87)
 have c_b1:=b1.cells
 go_enter Tryz.func60,Tryz.ntmps60
 go_wp2_with fail
 refine (rn_r ⟨kind,base,loc,n,wr,rd,top⟩ _ hn.1 hn.2).mono ?_
 rintro e w2 ⟨rfl,hx⟩
 clear c_b1
 replace b1:=b1.ext hx
 have c_b1:=b1.cells
 replace hX:=hX.trans hx
 clear hx
 rcases hk with rfl | rfl | rfl
 · go_wp2_with fail
   go_ret
   exact⟨rfl,hX⟩
 · go_wp2_with fail
   go_ret
   exact⟨rfl,hX⟩
 · go_wp2_with fail
   go_ret
   exact⟨rfl,hX⟩
theorem thread_in (n t:Int)(must:Bool)(w:World)(h:0<=t/\t<n):Calls Tryz.prog 69 #[.int .i64 n,.int .i64 t,.bool must] w fun e w'=>e=.returned (.bool true)/\w=w':=by
 obtain⟨h1,h2⟩:=h
 go_enter Tryz.func69,Tryz.ntmps69
 go_wp2_with fail
 go_ret
 exact⟨rfl,rfl⟩
theorem thread_none (n:Int)(w:World):Calls Tryz.prog 69 #[.int .i64 n,.int .i64 (-1),.bool false] w fun e w'=>e=.returned (.bool true)/\w=w':=by
 go_enter Tryz.func69,Tryz.ntmps69
 go_wp2_with fail
 go_ret
 exact⟨rfl,rfl⟩
theorem thread_any (n t:Int)(must:Bool)(w:World)(h:(0<=t/\t<n)∨(t=-1/\must=false)):Calls Tryz.prog 69 #[.int .i64 n,.int .i64 t,.bool must] w fun e w'=>e=.returned (.bool true)/\w=w':=by
 rcases h with h | ⟨rfl,rfl⟩
 · exact thread_in n t must w h
 · exact thread_none n w
end Go.Proofs.YtbphlkaihfbgeaaGreat
