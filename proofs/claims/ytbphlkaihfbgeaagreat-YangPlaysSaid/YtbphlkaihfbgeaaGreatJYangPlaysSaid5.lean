/-
  YangPlaysSaid: part 5 of its proof.
-/
import Derived.Test.YtbphlkaihfbgeaaGreatJYangPlaysSaid4
import Derived.ProofKit
import Derived.OpenShut
import Derived.Deep.DeepHandedRow
import Derived.WideKeyArgs
import Derived.Carry
import Derived.ChangeSame
import Derived.Lib.SmallJoins
import Derived.Test.YtbphlkaihfbgeaaGreatRows
import Derived.Deep.DeepCutAuto
import Derived.Deep.RegionHeld2
import Derived.ScopeJumps
import Derived.WalkMore
import Derived.Shelf.Strconv.Itoa0
import Derived.Shelf.Bits.Mul64
import Derived.Ground.Names2Prog
import Derived.Shelf.Slices.Clone
import Derived.Ground.SlgnProg
import Derived.Shelf.SlicesE.Clone
import Derived.Test.YtbphlkaihfbgeaaGreatProg
import Derived.Lib.LaidTab
import Derived.Laws.EntriesVeiled
import Derived.Shelf.Abstract
namespace Go.Proofs.YtbphlkaihfbgeaaGreat
open Go.RowKit Kv
set_option maxRecDepth 100000 in
set_option maxHeartbeats 1000000 in
theorem same_r (va vb:Value)(d:Bool)(S:TS)(w:World)(ha:Outs w va d S)(hb:Outs w vb d S) :
  Calls Tryz.prog 21 #[va,vb] w fun e w'=>e=.returned (.bool true)/\Ext w w':=by
 obtain⟨A,c,A',c',vs,L,rfl,ha⟩:=ha
 obtain⟨D,k,D',k',vt,M,rfl,hb⟩:=hb
 have hs:=shortL_eq (L:=L) (L':=M) (fun i=>(ha.is i).symm.trans (hb.is i))
 unfold outV
 obtain⟨As,cs,rfl,r1,r2⟩:=ha.locs.slice
 obtain⟨Bs,ds,rfl,r3,r4⟩:=hb.locs.slice
 have q1:=ha.accc
 have q2:=ha.ntsc
 have q3:=hb.accc
 have q4:=hb.ntsc
 have hX:=Ext.refl w
 have b1:=Blk.new w (.cells #[.bool d,.slice A S.acc.length c,.slice A' S.nts.length c',.slice As (shortL L).length cs] 36)
 replace hX:=hX.alloc (.cells #[.bool d,.slice A S.acc.length c,.slice A' S.nts.length c',.slice As (shortL L).length cs] 36)
 have b2:=Blk.new (w.alloc (.cells #[.bool d,.slice A S.acc.length c,.slice A' S.nts.length c',.slice As (shortL L).length cs] 36)) (.cells #[.bool d,.slice D S.acc.length k,.slice D' S.nts.length k',.slice Bs (shortL M).length ds] 36)
 simp only [World.size_alloc] at b2
 replace b1:=b1.alloc (.cells #[.bool d,.slice D S.acc.length k,.slice D' S.nts.length k',.slice Bs (shortL M).length ds] 36)
 replace hX:=hX.alloc (.cells #[.bool d,.slice D S.acc.length k,.slice D' S.nts.length k',.slice Bs (shortL M).length ds] 36)
 have c_b1:=b1.cells
 have c_b2:=b2.cells
 have ha1:=Lib.hid (ha.ext hX)
 have hb1:=Lib.hid (hb.ext hX)
 have hdd:(d != d)=false:=by cases d <;> rfl
 have hsh:=Lib.hid hs
 clear ha hb hs
 go_enter Tryz.func21,Tryz.ntmps21
 go_wp2_with fail
 refine (ints_r _ _ _ _ _ ha1.out.locs hb1.out.locs).mono ?_
 rintro e w1 ⟨rfl,hd1⟩
 rw [show decide (shortL L=shortL M)=true from by rw [hsh.out];simp]
 have hx1:=hd1.ext
 have ha2:=Lib.hid (ha1.out.ext hx1)
 have hb2:=Lib.hid (hb1.out.ext hx1)
 clear c_b1 c_b2 ha1 hb1 hsh
 replace b1:=b1.ext hx1
 replace b2:=b2.ext hx1
 replace hX:=hX.trans hx1
 clear hx1 hd1
 have c_b1:=b1.cells
 have c_b2:=b2.cells
 go_wp2_with fail
 go_loopw [5] (fun i wr=>∃ j:Nat,i=.int .i64 j/\j<=S.acc.length/\Drew w1 wr) (fun i _=>S.acc.length-(intOf i).toNat)
 case atStart=>exact⟨0,rfl,by omega,Drew.rfl' _⟩
 case round =>
  obtain⟨j,rfl,hj,n,rfl⟩:=hrel
  by_cases hl:j<S.acc.length
  · obtain⟨x,hxj⟩:∃ x,S.acc[j]?=some x:=⟨_,List.getElem?_eq_getElem hl⟩
    obtain⟨p1,rfl,hp1,e1,e2,e3⟩:=ha2.out.accs.at_ hxj
    obtain⟨p2,rfl,hp2,e4,e5,e6⟩:=hb2.out.accs.at_ hxj
    obtain⟨x1,x2,x3⟩:=x
    simp only at e1 e2 e3 e4 e5 e6
    clear hxj
    go_wp2_with fail
    go_quiet (fail)
    go_wp2_with fail
    refine⟨⟨j+1,by go_num,by omega,by first | exact Drew.mk' _ _ | exact (Drew.mk' w1 n).trans (Drew.mk' _ _)⟩,?_⟩
    simp [intOf];omega
  · have hD:Drew w1 (w1.drewN n):=Drew.mk' _ _
    go_wp2_with fail
    go_loopw [6] (fun i wr=>∃ j:Nat,i=.int .i64 j/\j<=S.nts.length/\Drew w1 wr) (fun i _=>S.nts.length-(intOf i).toNat)
    case atStart=>exact⟨0,rfl,by omega,hD⟩
    case round =>
     obtain⟨j,rfl,hj,n,rfl⟩:=hrel
     by_cases hl:j<S.nts.length
     · obtain⟨x,hxj⟩:∃ x,S.nts[j]?=some x:=⟨_,List.getElem?_eq_getElem hl⟩
       obtain⟨p1,rfl,hp1,e1,e2⟩:=ha2.out.nts.at_ hxj
       obtain⟨p2,rfl,hp2,e4,e5⟩:=hb2.out.nts.at_ hxj
       obtain⟨x1,x2⟩:=x
       simp only at e1 e2 e4 e5
       clear hxj
       go_wp2_with fail
       go_quiet (fail)
       go_wp2_with fail
       refine⟨⟨j+1,by go_num,by omega,by first | exact Drew.mk' _ _ | exact (Drew.mk' w1 n).trans (Drew.mk' _ _)⟩,?_⟩
       simp [intOf];omega
     · go_wp2_with fail
       go_ret
       exact⟨rfl,hX.trans (Drew.mk' w1 n).ext⟩
end Go.Proofs.YtbphlkaihfbgeaaGreat
namespace Go.Proofs.YtbphlkaihfbgeaaGreat
open Go.RowKit Go.WideShapes Go.ChangeShapes
section
variable {H:Type} {enc:TypeId × Value->H} {P:Program}
theorem post_of_below {f:Func}{s:ChangeSpec}{apart fresh handsOn again:Bool}{W W':World}{args:Array Value}{v:Value}{ds gs:List (DataW H)}{before pa pv:List MemPlace}
  (hW:DataW.Whole enc P f.params.toList s.vars apart W args.toList ds gs before)
  (hres:∀ (b:Nat) (sp:Nat->Bool) (hd:Bool),DataW.TrodAll enc P W' b sp hd f.resultTypes.toList (v.resultList f.resultTypes.size) (s.fn H (ds++gs)).results [])
  (hargs:∀ sp:Nat->Bool,(∀ p∈before,sp p.block=true)->DataW.TrodAll enc P W' 0 sp true f.params.toList args.toList (s.fn H (ds++gs)).args pa)
  (hvars:∀ sp:Nat->Bool,(∀ p∈before,sp p.block=true)->DataW.TrodVars enc P W' sp s.vars (s.fn H (ds++gs)).vars pv)
  (hps:before=pa++pv)(hb:Below W.heap.size W W')
  (hok:∀ (j:Nat) (t:TypeId) (r:Value),f.resultTypes[j]?=some t->(v.resultList f.resultTypes.size)[j]?=some r->Value.okWide P W' .any 0 t r) :
  s.post enc P f apart fresh handsOn again W args v W':=by
 have hlt:∀ p∈before,p.block<W.heap.size:=fun p hp=>hW.lt p hp
 have hold:∀ p∈before,(fun b=>decide (b<W.heap.size)) p.block=true:=fun p hp=>by simpa using hlt p hp
 refine⟨ds,gs,before,[],pa,pv,hW,hres _ _ _,hargs _ hold,hvars _ hold,World.keptBut_mono (fun p hp=>⟨hp,?_⟩) (hb.frame (·∈before)),fun _=>?_⟩
 · rw [hps,List.mem_append] at hp
   exact Or.inr hp
 · obtain⟨_,_,_,_,_,hz,hn⟩:=hW
   refine⟨hok,_,_,([]++pa)++pv,⟨[]++pa,pv,trodAll_append (hargs _ (fun _ _=>rfl)) (hres _ _ _),hvars _ (fun _ _=>rfl),rfl,?_,?_⟩,?_⟩
   · intro b off hp
     have hin:MemPlace.cell b off∈before:=by rw [hps];simpa using hp
     rw [hb.frozen (hlt _ hin)]
     exact hz b off hin
   · intro ha
     have:=hn ha
     rw [hps] at this
     simpa using this
   · intro p hp _
     rw [hps]
     simpa using hp
end
section
variable {H:Type} {enc:TypeId × Value->H} {P:Program}
theorem trodAll_stays (hl:laidOutB P=true):∀ (ts:List TypeId),(∀ t∈ts,P.readableRec t=true/\t<P.types.size)->∀ {W W':World} {sp:Nat->Bool} {vs:List Value} {ds:List (DataW H)} {ps:List MemPlace},
  DataW.TrodAll enc P W 0 (fun _=>true) true ts vs ds ps->(∀ p∈ps,W.sameAt W' p)->(∀ p∈ps,sp p.block=true)->DataW.TrodAll enc P W' 0 sp true ts vs ds ps
 | [],_,W,W',sp,vs,ds,ps,h,_,_=>by
   cases vs <;> cases ds <;> simp_all [DataW.TrodAll]
 | t :: ts,ht,W,W',sp,vs,ds,ps,h,hs,hsp=>by
   obtain⟨v,vs',d,ds',p,q,rfl,rfl,rfl,hp,hq⟩:=trodAll_cons h
   have h1:=ht t (by simp)
   refine trodAll_cons_mk (WideElems.Trod_stays hl h1.1 h1.2 hp (fun x hx=>hs x (by simp [hx])) (fun x hx=>hsp x (by simp [hx]))) ?_
   exact trodAll_stays hl ts (fun t' h'=>ht t' (by simp [h'])) hq (fun x hx=>hs x (by simp [hx])) (fun x hx=>hsp x (by simp [hx]))
theorem trodAll_length:∀ (ts:List TypeId) {W:World} {b:Nat} {sp:Nat->Bool} {held:Bool} {vs:List Value} {ds:List (DataW H)} {ps:List MemPlace},DataW.TrodAll enc P W b sp held ts vs ds ps->ds.length=ts.length
 | [],W,b,sp,held,vs,ds,ps,h=>by cases vs <;> cases ds <;> simp_all [DataW.TrodAll]
 | t :: ts,W,b,sp,held,vs,ds,ps,h=>by
   obtain⟨v,vs',d,ds',p,q,rfl,rfl,rfl,hp,hq⟩:=trodAll_cons h
   simp [trodAll_length ts hq]
theorem law_post {f:Func}{s:ChangeSpec}{W W':World}{args:Array Value}{ds gs:List (DataW H)}{before:List MemPlace}{tb:TypeId}
  (hl:laidOutB P=true)(hr:∀ t∈f.params.toList,P.readableRec t=true/\t<P.types.size)(hres:f.resultTypes=#[tb])(htb:P.underlying tb=some .bool)
  (hvars:s.vars=[])(hspec:∀ ds:List (DataW H),ds.length=f.params.size->s.fn H ds={ results:=[.lit (.bool true)],args:=ds })
  (hW:DataW.Whole enc P f.params.toList s.vars false W args.toList ds gs before)(hx:Ext W W') :
  s.post enc P f false true false false W args (.bool true) W':=by
 have hWlt:∀ p∈before,p.block<W.heap.size:=fun p hp=>hW.lt p hp
 obtain⟨p,q,hA,hV,hpq,hfz,hnd⟩:=hW
 rw [hvars] at hV
 have hgs:gs=[]/\q=[]:=trodVars_none hV
 obtain⟨rfl,rfl⟩:=hgs
 have hlen:=trodAll_length _ hA
 have hsp:=hspec ds (by rw [hlen];simp)
 have hb:before=p:=by rw [hpq];simp
 subst hb
 have hn:f.resultTypes.size=1:=by rw [hres];rfl
 have hlo:(Value.bool true).resultList f.resultTypes.size=[Value.bool true]:=by rw [hn];rfl
 have e0:ds++([]:List (DataW H))=ds:=List.append_nil _
 refine post_of_below (pa:=before) (pv:=[]) (ds:=ds) (gs:=[]) ⟨before,[],hA,by rw [hvars];exact hV,hpq,hfz,hnd⟩ ?_ ?_ ?_ hpq hx ?_
 · intro b sp hd
   rw [e0,hsp,hlo,hres]
   exact trodAll_cons_mk (shut_bool htb _) trodAll_mk0
 · intro sp hsp'
   rw [e0,hsp]
   exact trodAll_stays hl _ hr hA (fun p hp=>Below.same hx (hWlt p hp)) hsp'
 · intro sp _
   rw [e0,hsp,hvars]
   rfl
 · intro j t r ht hr'
   rw [hres] at ht
   rw [hlo] at hr'
   cases j with
   | zero =>
     obtain rfl:tb=t:=by simpa using ht
     obtain rfl:Value.bool true=r:=by simpa using hr'
     exact okWide_bool_mk htb _
   | succ j=>simp at ht
end
end Go.Proofs.YtbphlkaihfbgeaaGreat
namespace Go.Proofs.YtbphlkaihfbgeaaGreat
open Go.ChangeShapes Go.WideShapes Go.ChangeAt Go.RowKit Kv
theorem cellsInt:Tryz.prog.cellsOf 3=1:=by kernel_rfl
theorem cell_lt {w:World}{a:Addr}{v:Value}(h:w.cell? a=some v):a.block<w.heap.size:=by
 rcases Nat.lt_or_ge a.block w.heap.size with hlt | hge
 · exact hlt
 · simp [World.cell?,Array.getElem?_eq_none hge] at h
set_option maxRecDepth 100000 in
theorem ints_trod {H:Type}{enc:TypeId × Value->H}{W:World}{v:Value}{fuel:Nat}{x:DataW H × List MemPlace}
  (hf:DataW.trod enc Tryz.prog W 0 (fun _=>true) true fuel 22 [v]=some x) :
  ∃ l,Ints W v l/\∀ x∈l,-9223372036854775808<=x/\x<=9223372036854775807:=by
 rcases open_ints Tryz.underlying22 Tryz.underlying3 cellsInt hf with⟨hcs,hx⟩ | ⟨a,len',cap',zs,hcs,_,hl,hm,hz,hx,hcell,hwz⟩
 · obtain rfl:v=.slice none 0 0:=by simpa using hcs
   exact⟨[],Ints.nil W,by simp⟩
 · obtain rfl:v=.slice (some a) len' cap':=by simpa using hcs
   simp only [if_true] at hz
   refine⟨zs.take len',?_,fun x hx=>bounds_i64 (hwz x (List.mem_of_mem_take hx))⟩
   have hlen:(zs.take len').length=len':=by rw [List.length_take];omega
   refine⟨some a,cap',by rw [hlen],by omega,by unfold maxLen at hm;exact hm,fun hne=>?_⟩
   have hpos:0<zs.length:=by
    rcases Nat.eq_zero_or_pos zs.length with h0 | h0
    · have:zs=[]:=List.eq_nil_of_length_eq_zero h0
      subst this
      simp at hne
    · exact h0
   obtain⟨b,off,rfl,hc⟩:=ints_at hcell hpos
   refine⟨b,off,rfl,cell_lt (hc 0 hpos),fun i x hi=>?_⟩
   have hi2:i<zs.length:=by
    have:=(List.getElem?_eq_some_iff.1 hi).1
    rw [List.length_take] at this
    omega
   rw [hc i hi2]
   have hi3:i<len':=by
    have:=(List.getElem?_eq_some_iff.1 hi).1
    omega
   rw [List.getElem?_take,if_pos hi3] at hi
   rw [List.getD_eq_getElem?_getD,hi]
   rfl
end Go.Proofs.YtbphlkaihfbgeaaGreat
namespace Go.Proofs.YtbphlkaihfbgeaaGreat
open Go.Joins Go.ChangeShapes Go.WideShapes Go.RowKit Go.Deep
section
variable {H:Type} {enc:TypeId × Value->H} {P:Program} {w:World} {base:Nat} {spare:Nat->Bool} {held:Bool}
theorem open_agg6 {r:Reach}{b0:Nat}{t:TypeId}{f0 f1 f2 f3 f4 f5:Field}{v:Value}{d:DataW H}{p:List MemPlace}(hs:P.underlying t=some (.struct #[f0,f1,f2,f3,f4,f5]))(hone:oneCellFields P #[f0,f1,f2,f3,f4,f5]=true)(hC:P.cellsOf t=6)
  (hv:Value.okWide P w r b0 t v)(h:DataW.Trod enc P w base spare held t v d p) :
  ∃ (v0 v1 v2 v3 v4 v5:Value) (y0 y1 y2 y3 y4 y5:DataW H × List MemPlace) (n:Nat),v=.agg #[v0,v1,v2,v3,v4,v5] /\
   DataW.trod enc P w base spare held n f0.type [v0]=some y0/\DataW.trod enc P w base spare held n f1.type [v1]=some y1/\DataW.trod enc P w base spare held n f2.type [v2]=some y2/\DataW.trod enc P w base spare held n f3.type [v3]=some y3/\DataW.trod enc P w base spare held n f4.type [v4]=some y4/\DataW.trod enc P w base spare held n f5.type [v5]=some y5:=by
 obtain⟨cs,rfl,hsz⟩:=okWide_struct hs hv
 obtain⟨l⟩:=cs
 match l,hsz.trans hC with
 | [c0,c1,c2,c3,c4,c5],_ =>
   obtain⟨fuel,hf⟩:=h
   obtain⟨xs,n,_,hx,_,hlen,hg⟩:=DataW.trod_struct hs hf
   obtain⟨o0,k0⟩:=hone_of hone 0 f0 rfl
   obtain⟨o1,k1⟩:=hone_of hone 1 f1 rfl
   obtain⟨o2,k2⟩:=hone_of hone 2 f2 rfl
   obtain⟨o3,k3⟩:=hone_of hone 3 f3 rfl
   obtain⟨o4,k4⟩:=hone_of hone 4 f4 rfl
   obtain⟨o5,k5⟩:=hone_of hone 5 f5 rfl
   match xs,hlen with
   | [y0,y1,y2,y3,y4,y5],_ =>
     exact⟨c0,c1,c2,c3,c4,c5,y0,y1,y2,y3,y4,y5,n,rfl,by simpa [Value.cells,o0,k0] using hg 0 f0 rfl,by simpa [Value.cells,o1,k1] using hg 1 f1 rfl,by simpa [Value.cells,o2,k2] using hg 2 f2 rfl,by simpa [Value.cells,o3,k3] using hg 3 f3 rfl,by simpa [Value.cells,o4,k4] using hg 4 f4 rfl,by simpa [Value.cells,o5,k5] using hg 5 f5 rfl⟩
end
end Go.Proofs.YtbphlkaihfbgeaaGreat
namespace Go.Proofs.YtbphlkaihfbgeaaGreat
theorem own:ownKnob Tryz.prog.godebug=none:=by kernel_rfl
end Go.Proofs.YtbphlkaihfbgeaaGreat
namespace Go.Proofs.YtbphlkaihfbgeaaGreat
open Go.RowKit Kv
theorem regsP {w0 w1:World}{B p b:Nat}{S:TS}{rs:List Reg}(hb:b<w0.heap.size)(hc:∀ (i:Nat) u,(rs.flatMap regVals)[i]?=some u->w0.cell? ⟨b,i,none⟩=some u)(hx:Ext w0 w1)(hP:Plays B w1 p S)(hB:w0.heap.size<=B):RegsAt [2,3,4] w1 p b rs:=by
 refine⟨Nat.lt_of_lt_of_le hb hx.size,fun ho=>?_,fun j u hu=>(hx.cell (p:=⟨b,j,none⟩) hb).trans (hc j u hu)⟩
 obtain⟨_,_,_,_,_,_,h⟩:=hP
 have:=(h.own ho).1
 omega
theorem regsR {w0 w1:World}{B p b:Nat}{o:Bool}{S:TS}{rs:List Reg}(hb:b<w0.heap.size)(hc:∀ (i:Nat) u,(rs.flatMap regVals)[i]?=some u->w0.cell? ⟨b,i,none⟩=some u)(hx:Ext w0 w1)(hP:RAt B w1 p o S)(hB:w0.heap.size<=B):RegsAt [3,4,5] w1 p b rs:=by
 refine⟨Nat.lt_of_lt_of_le hb hx.size,fun ho=>?_,fun j u hu=>(hx.cell (p:=⟨b,j,none⟩) hb).trans (hc j u hu)⟩
 obtain⟨_,_,_,_,_,_,h,_⟩:=hP
 have:=(h.own ho).1
 omega
theorem ints_new (w:World)(l:List Int)(h:l.length<=9223372036854775807):Ints (w.alloc (.cells (l.map (Value.int .i64)).toArray 3)) (.slice (some ⟨w.heap.size,0,none⟩) l.length l.length) l:=by
 refine⟨_,_,rfl,Nat.le_refl _,h,fun _=>⟨w.heap.size,0,rfl,by simp,fun i x hi=>?_⟩⟩
 have hh:=World.alloc_heap_new w (.cells (l.map (Value.int .i64)).toArray 3)
 simp only [World.cell?,hh,Nat.zero_add]
 simp [hi]
theorem Outs.parts {w:World}{v:Value}{d:Bool}{S:TS}(h:Outs w v d S):∃ A c A' c' As k n,v=.agg #[.bool d,.slice A S.acc.length c,.slice A' S.nts.length c',.slice As n k]:=by
 obtain⟨A,c,A',c',vs,L,rfl,hO⟩:=h
 obtain⟨As,k,rfl,_,_⟩:=hO.locs.slice
 exact⟨A,c,A',c',As,k,_,rfl⟩
end Go.Proofs.YtbphlkaihfbgeaaGreat
namespace Kv
theorem Prog.bind_some {α β:Type}{p:Prog α}{f:α->Prog β}{S S':TS}{b:β}(h:(p.bind f).run S=(some b,S')):∃ a S1,p.run S=(some a,S1)/\(f a).run S1=(some b,S'):=by
 rw [Prog.run_bind] at h
 rcases hr:p.run S with⟨o,S1⟩
 rw [hr] at h
 cases o with
 | none=>simp [thenR] at h
 | some a=>exact⟨a,S1,rfl,h⟩
end Kv
namespace Go.Proofs.YtbphlkaihfbgeaaGreat
open Kv
end Go.Proofs.YtbphlkaihfbgeaaGreat
namespace Kv
theorem unLo_bd (x:Int){top:Int}(h:0<=room top):0<=unLo x top/\unLo x top<=room top:=by
 unfold unLo
 have h1:=Int.emod_nonneg (unX x) (show room top+1≠0 by omega)
 have h2:=Int.emod_lt_of_pos (unX x) (show 0<room top+1 by omega)
 omega
def TameA (S:TS):Prop:=∀ v∈S.ans,0<=v/\v<=1048576
theorem TameA.run {α:Type}{S S':TS}{p:Prog α}{a:Option α}(h:TameA S)(hr:p.run S=(a,S')):TameA S':=by
 have:=Prog.run_ans p S
 rw [hr] at this
 unfold TameA
 rw [this]
 exact h
theorem rd_bd {c v:Int}{S S':TS}(h:TameA S)(hr:(rd c).run S=(some v,S')):0<=v/\v<=1048576:=by
 unfold rd at hr
 simp only [Prog.run] at hr
 cases hn:S.next with
 | none=>rw [hn] at hr;simp at hr
 | some u =>
   rw [hn] at hr
   simp only [Prod.mk.injEq,Option.some.injEq] at hr
   rw [<- hr.1]
   exact h u (List.mem_of_getElem? hn)
theorem ret_run {α:Type}{a b:α}{S S':TS}(h:(Prog.ret a).run S=(some b,S')):a=b/\S=S':=by
 simpa [Prog.run] using h
theorem tableR_bd {b l n wr top me v:Int}{S S':TS}(hne:me≠wr)(hr:(tableR b l n wr top me).run S=(some v,S')):0<=v/\v<=1048576:=by
 unfold tableR at hr
 rw [if_neg hne] at hr
 obtain⟨x1,S1,-,hr⟩:=Prog.bind_some hr
 obtain⟨x2,S2,-,hr⟩:=Prog.bind_some hr
 obtain⟨x3,S3,-,hr⟩:=Prog.bind_some hr
 obtain⟨rfl,-⟩:=ret_run hr
 have h1:=room_bd (clamp top 1048576)
 have h2:=unLo_bd x2 (top:=clamp top 1048576) h1.1
 omega
theorem manyRs_bd {b l n top me:Int}:∀ (k:Nat) (j s v:Int) {S S':TS} {p:Int × Int},0<=v->v<=1048576->(manyRs b l n top me k j s v).run S=(some p,S')->0<=p.2/\p.2<=1048576
 | 0,j,s,v,S,S',p,h1,h2,hr=>by
   unfold manyRs at hr
   obtain⟨rfl,-⟩:=ret_run hr
   exact⟨h1,h2⟩
 | k+1,j,s,v,S,S',p,h1,h2,hr=>by
   unfold manyRs at hr
   obtain⟨y,S1,-,hr⟩:=Prog.bind_some hr
   split at hr
   · have h3:=room_bd (clamp top 255)
     have h4:=unLo_bd y (top:=clamp top 255) h3.1
     exact manyRs_bd k _ _ _ (by omega) (by omega) hr
   · exact manyRs_bd k _ _ _ h1 h2 hr
theorem regR_bd {r:Reg}{me v:Int}{S S':TS}(_hok:r.ok)(ht:r.kind=6->me≠r.wr)(h:TameA S)(hr:(regR r me).run S=(some v,S')):0<=v/\v<=1048576:=by
 unfold regR at hr
 split at hr
 · exact rd_bd h hr
 · split at hr
   · rename_i h6
     exact tableR_bd (ht h6) hr
   · unfold manyR at hr
     obtain⟨p,S1,hp,hr⟩:=Prog.bind_some hr
     obtain⟨rfl,-⟩:=ret_run hr
     exact manyRs_bd _ _ _ _ (by omega) (by omega) hp
def yReg (rs:List Reg) (o:Nat) (i:Int):Reg:=regAt rs ((o:Int)+i)
def ySpin (c:Int->Bool) (r:Reg) (me:Int):Nat->Prog Unit
 | 0=>.ret ()
 | n+1=>(regR r me).bind fun x=>if c x=true then ySpin c r me n else .ret ()
def yEnd2 (D:Nat) (rs:List Reg) (o me:Nat):Prog Unit :=
 (regR (yReg rs o 2) me).bind fun u=>if u=(me:Int)+1 then ySpin (fun x=>decide (x<=1)) (yReg rs o (3+me)) me D else .ret ()
def yEnd (D:Nat) (rs:List Reg) (o me:Nat):Prog Unit:=(ySpin (fun x=>x==0) (yReg rs o (3+me)) me D).bind fun _=>yEnd2 D rs o me
theorem ySpin_bind {α:Type}(c:Int->Bool)(r:Reg)(me:Int)(n:Nat)(F:Unit->Prog α):(ySpin c r me (n+1)).bind F=(regR r me).bind fun x=>if c x=true then (ySpin c r me n).bind F else F ():=by
 show ((regR r me).bind fun x=>if c x=true then ySpin c r me n else .ret ()).bind F=_
 rw [Prog.bind_assoc]
 congr 1
 funext x
 split <;> rfl
theorem ySpin_one (c:Int->Bool)(r:Reg)(me:Int)(n:Nat):ySpin c r me (n+1)=(regR r me).bind fun x=>if c x=true then ySpin c r me n else .ret ():=rfl
def yEnter (D:Nat) (rs:List Reg) (o n me sd:Nat):Prog Unit :=
 (regW (yReg rs o sd) me (me+1)).bind fun _=>(regW (yReg rs o 2) me (me+1)).bind fun _=>(regW (yReg rs o (3+me)) me 0).bind fun _ =>
   (regR (yReg rs o (1-sd:Nat)) me).bind fun v=>if v=0 then .ret () else (regR (yReg rs o 2) me).bind fun u =>
     if u=(me:Int)+1/\1<=v/\v<=n then (regR (yReg rs o (2+v)) me).bind fun x=>if x=0 then (regW (yReg rs o (2+v)) me 1).bind fun _=>yEnd D rs o me else yEnd D rs o me else .ret ()
def yLeave (rs:List Reg) (o n me sd:Nat):Prog Unit :=
 (regW (yReg rs o sd) me 0).bind fun _=>(regR (yReg rs o 2) me).bind fun u=>if u≠(me:Int)+1/\1<=u/\u<=n then regW (yReg rs o (2+u)) me 2 else .ret ()
def YRegs (rs:List Reg) (o n:Nat):Prop:=∀ i,i<n+3->∃ r,rs[o+i]?=some r/\r.ok/\r.n=n/\(∀ me,r.told me)/\0<cellsM r
theorem YRegs.told {rs:List Reg}{o n:Nat}(h:YRegs rs o n){i:Nat}{k:Int}(hi:i<n+3)(hk:k=(i:Int))(me:Int):(yReg rs o k).told me:=by
 obtain⟨r,q1,_,_,q4,_⟩:=h i hi
 have e:yReg rs o k=r:=by
  unfold yReg
  exact regAt_of (show (o:Int)+k=((o+i:Nat):Int) by omega) q1
 rw [e]
 exact q4 me
theorem yReg_of {rs:List Reg}{o i:Nat}{k:Int}{r:Reg}(hk:k=(i:Int))(h:rs[o+i]?=some r):yReg rs o k=r:=by
 unfold yReg
 exact regAt_of (show (o:Int)+k=((o+i:Nat):Int) by omega) h
end Kv
namespace Go.Proofs.YtbphlkaihfbgeaaGreat
open Go.RowKit Kv
theorem yfine_p (n:Nat)(w:World)(h1:1<=n)(hn:n<=8):Calls Tryz.prog 28 #[.int .i64 n] w fun e w'=>e=.returned (.bool true)/\w=w':=by
 have d1:decide ((1:Int)<=(n:Int))=true:=by rw [decide_eq_true_eq];omega
 have d2:decide ((n:Int)<=(8:Int))=true:=by rw [decide_eq_true_eq];omega
 go_enter Tryz.func28,Tryz.ntmps28
 go_wp2_with fail
 go_ret
 exact⟨rfl,rfl⟩
theorem ysides_p (s:Int)(w:World):Calls Tryz.prog 47 #[.int .i64 s] w fun e w'=>e=.returned (.tuple #[.int .i64 ((if s=0 then 0 else 1:Nat):Int),.int .i64 ((1-(if s=0 then 0 else 1):Nat):Int)])/\w=w':=by
 go_enter Tryz.func47,Tryz.ntmps47
 by_cases hs:s=0
 · have d:(s != 0)=false:=by simp [hs]
   subst hs
   go_wp2_with fail
   refine bodyPost_ret (v:=.tuple #[.int .i64 0,.int .i64 1]) (by simp [results,Tryz.results47,go_sem]) rfl ?_
   exact⟨rfl,rfl⟩
 · have d:(s != 0)=true:=by simp [hs]
   rw [if_neg hs]
   clear hs
   go_wp2_with fail
   refine bodyPost_ret (v:=.tuple #[.int .i64 1,.int .i64 0]) (by simp [results,Tryz.results47,go_sem]) rfl ?_
   exact⟨rfl,rfl⟩
theorem yis_p (n:Nat)(v:Int)(A B C:Value)(w:World):Calls Tryz.prog 50 #[.agg #[A,B,.int .i64 n,C],.int .i64 v] w fun e w'=>e=.returned (.bool (decide (0<=v)&&decide (v<n)))/\Ext w w':=by
 have b1:=Blk.new w (.cells #[A,B,.int .i64 n,C] 79)
 have hx:=(Ext.refl w).alloc (.cells #[A,B,.int .i64 n,C] 79)
 have c_b1:=b1.cells
 go_enter Tryz.func50,Tryz.ntmps50
 by_cases h0:0<=v
 · have d1:decide (0<=v)=true:=by rw [decide_eq_true_eq];exact h0
   clear h0
   go_wp2_with fail
   go_ret
   exact⟨by rw [d1];rfl,hx⟩
 · have d1:decide (0<=v)=false:=by rw [decide_eq_false_iff_not];exact h0
   clear h0
   go_wp2_with fail
   go_ret
   exact⟨by rw [d1];rfl,hx⟩
set_option maxRecDepth 100000 in
set_option maxHeartbeats 1000000 in
theorem yread_p (B p n me o i:Nat)(S:TS)(rs:List Reg)(b c:Nat)(r:Reg)(w:World)(h:Plays B w p S)(hl:RegsAt [2,3,4] w p b rs)(hi:i<n+3)(hr:rs[o+i]?=some r)(hok:r.ok)(hme:(me:Int)<r.n)(hn:n<=8) :
  Calls Tryz.prog 49 #[.agg #[.pointer (some ⟨p,0,none⟩),.slice (some ⟨b,o*7,none⟩) (n+3) c,.int .i64 n,.int .i64 me],.int .i64 i] w (Post encI B p w ((regR r me).run S)):=by
 have hq0:∀ W,Plays B W p S->Calls Tryz.prog 63 #[.pointer (some ⟨p,0,none⟩),.agg #[.int .i64 r.kind,.int .i64 r.base,.int .i64 r.loc,.int .i64 r.n,.int .i64 r.wr,.int .i64 r.rd,.int .i64 r.top],.int .i64 me] W (Post encI B p W ((regR r me).run S)):=fun W hP=>reg_read_p B p S r me W hP hok ⟨by omega,hme⟩
 have hq:=Lib.hid hq0
 clear hq0 hok hme
 generalize hR:Post encI B p w ((regR r me).run S)=R
 have hO:Owes R encI B p w ((regR r me).run S):=hR▸owes _ _ _ _ _
 clear hR
 obtain⟨b1,hK,hP⟩:=h.entry (.cells #[.pointer (some ⟨p,0,none⟩),.slice (some ⟨b,o*7,none⟩) (n+3) c,.int .i64 n,.int .i64 me] 79)
 have c_b1:=b1.cells
 replace hl:=hl.extL ((Ext.refl w).alloc (.cells #[.pointer (some ⟨p,0,none⟩),.slice (some ⟨b,o*7,none⟩) (n+3) c,.int .i64 n,.int .i64 me] 79)) h.lt
 clear h
 have hi0:(0:Int)<=(i:Int):=by omega
 have hi1:(i:Int)<(n:Int)+3:=by omega
 have he:(o+i)*7=o*7+i*7:=by omega
 go_enter Tryz.func49,Tryz.ntmps49
 go_wp2_with fail
 generalize World.alloc w _=W0 at *
 have hlt:=hP.lt
 replace hP:=hP.drew
 replace hK:=hK.drew
 replace b1:=b1.drew
 replace hl:=hl.extL (Ext.refl _).drew hlt
 obtain⟨a0,a1,a2,a3,a4,a5,a6⟩:=hl.nth hr
 rw [he] at a0 a1 a2 a3 a4 a5 a6
 clear c_b1
 have hS:((_:World).cell? ⟨w.heap.size,0,none⟩=some (.pointer (some ⟨p,0,none⟩))/\(_:World).cell? ⟨w.heap.size,1,none⟩=some (.slice (some ⟨b,o*7,none⟩) (n+3) c)/\(_:World).cell? ⟨w.heap.size,2,none⟩=some (.int .i64 n)/\(_:World).cell? ⟨w.heap.size,3,none⟩=some (.int .i64 me))/\((_:World).cell? ⟨b,o*7+i*7,none⟩=some (.int .i64 r.kind)/\(_:World).cell? ⟨b,o*7+i*7+1,none⟩=some (.int .i64 r.base)/\(_:World).cell? ⟨b,o*7+i*7+2,none⟩=some (.int .i64 r.loc)/\(_:World).cell? ⟨b,o*7+i*7+3,none⟩=some (.int .i64 r.n)/\(_:World).cell? ⟨b,o*7+i*7+4,none⟩=some (.int .i64 r.wr)/\(_:World).cell? ⟨b,o*7+i*7+5,none⟩=some (.int .i64 r.rd)/\(_:World).cell? ⟨b,o*7+i*7+6,none⟩=some (.int .i64 r.top)):=⟨⟨b1.cells 0,b1.cells 1,b1.cells 2,b1.cells 3⟩,a0,a1,a2,a3,a4,a5,a6⟩
 clear a0 a1 a2 a3 a4 a5 a6
 refine wp_region_held_drew (S:=fun w'=>(w'.cell? ⟨w.heap.size,0,none⟩=some (.pointer (some ⟨p,0,none⟩))/\w'.cell? ⟨w.heap.size,1,none⟩=some (.slice (some ⟨b,o*7,none⟩) (n+3) c)/\w'.cell? ⟨w.heap.size,2,none⟩=some (.int .i64 n)/\w'.cell? ⟨w.heap.size,3,none⟩=some (.int .i64 me))/\(w'.cell? ⟨b,o*7+i*7,none⟩=some (.int .i64 r.kind)/\w'.cell? ⟨b,o*7+i*7+1,none⟩=some (.int .i64 r.base)/\w'.cell? ⟨b,o*7+i*7+2,none⟩=some (.int .i64 r.loc)/\w'.cell? ⟨b,o*7+i*7+3,none⟩=some (.int .i64 r.n)/\w'.cell? ⟨b,o*7+i*7+4,none⟩=some (.int .i64 r.wr)/\w'.cell? ⟨b,o*7+i*7+5,none⟩=some (.int .i64 r.rd)/\w'.cell? ⟨b,o*7+i*7+6,none⟩=some (.int .i64 r.top))) rfl hS (fun hHeld=>?_)
 refine tkb 0 ?_
 iterate 9
  refine tkn (v:=?_) rfl (by kernel_rfl) (fun _ _ _ h=>h) (by assumption) ?_ ?_
  rotate_left
  · (intro w hSw;(try dsimp only at hSw);go_simp;try with_reducible rfl)
  try simp only [put_pack]
 refine tke ?_
 refine wpAnyH_ready (rs:=[9]) (by kernel_rfl) (by simp) ?_
 refine AllReadyH.cons rfl (fun K hKK=>?_) (AllReadyH.nil)
 go_simp
 refine tlast hO hK (hq.out _ hP) (fun _ h=>⟨rfl,h⟩) ?_
 clear hO hK hP hS
 intro v S1 w1 hrun hP hk1 hK hO
 replace b1:=b1.keep hk1
 replace hl:=hl.keep hk1
 obtain⟨a0,a1,a2,a3,a4,a5,a6⟩:=hl.nth hr
 rw [he] at a0 a1 a2 a3 a4 a5 a6
 refine hKK.out _ _ ⟨⟨b1.cells 0,b1.cells 1,b1.cells 2,b1.cells 3⟩,a0,a1,a2,a3,a4,a5,a6⟩ (fun hHeld=>?_)
 clear hKK K a0 a1 a2 a3 a4 a5 a6
 try dsimp only
 refine tk 10 (v:=?_) rfl (by kernel_rfl) (fun _ _ _ h=>h) (by assumption) ?_ ?_
 rotate_left
 · (intro w hSw;(try dsimp only at hSw);go_simp;try with_reducible rfl)
 try simp only [put_pack]
 refine wpAnyH_done (by kernel_rfl) ?_ _
 go_simp
 have hf:=hO.done hP hK
 clear hO hP hK b1 hl
 go_wp2_with fail
 first | with_reducible exact hf | (go_simp;exact hf) | (go_ret;exact hf) | (go_ret2;exact hf)
set_option maxRecDepth 100000 in
set_option maxHeartbeats 1000000 in
theorem ywrite_p (B p n me o i:Nat)(u:Int)(S:TS)(rs:List Reg)(b c:Nat)(r:Reg)(w:World)(h:Plays B w p S)(hl:RegsAt [2,3,4] w p b rs)(hi:i<n+3)(hr:rs[o+i]?=some r)(hok:r.ok)(hme:(me:Int)<r.n)(hn:n<=8) :
  Calls Tryz.prog 48 #[.agg #[.pointer (some ⟨p,0,none⟩),.slice (some ⟨b,o*7,none⟩) (n+3) c,.int .i64 n,.int .i64 me],.int .i64 i,.int .i64 u] w (Post encU B p w ((regW r me u).run S)):=by
 have hq0:∀ W,Plays B W p S->Calls Tryz.prog 62 #[.pointer (some ⟨p,0,none⟩),.agg #[.int .i64 r.kind,.int .i64 r.base,.int .i64 r.loc,.int .i64 r.n,.int .i64 r.wr,.int .i64 r.rd,.int .i64 r.top],.int .i64 me,.int .i64 u] W (Post encU B p W ((regW r me u).run S)):=fun W hP=>reg_write_p B p S r me u W hP hok ⟨by omega,hme⟩
 have hq:=Lib.hid hq0
 clear hq0 hok hme
 generalize hR:Post encU B p w ((regW r me u).run S)=R
 have hO:Owes R encU B p w ((regW r me u).run S):=hR▸owes _ _ _ _ _
 clear hR
 obtain⟨b1,hK,hP⟩:=h.entry (.cells #[.pointer (some ⟨p,0,none⟩),.slice (some ⟨b,o*7,none⟩) (n+3) c,.int .i64 n,.int .i64 me] 79)
 have c_b1:=b1.cells
 replace hl:=hl.extL ((Ext.refl w).alloc (.cells #[.pointer (some ⟨p,0,none⟩),.slice (some ⟨b,o*7,none⟩) (n+3) c,.int .i64 n,.int .i64 me] 79)) h.lt
 clear h
 have hi0:(0:Int)<=(i:Int):=by omega
 have hi1:(i:Int)<(n:Int)+3:=by omega
 have he:(o+i)*7=o*7+i*7:=by omega
 go_enter Tryz.func48,Tryz.ntmps48
 go_wp2_with fail
 generalize World.alloc w _=W0 at *
 have hlt:=hP.lt
 replace hP:=hP.drew
 replace hK:=hK.drew
 replace b1:=b1.drew
 replace hl:=hl.extL (Ext.refl _).drew hlt
 obtain⟨a0,a1,a2,a3,a4,a5,a6⟩:=hl.nth hr
 rw [he] at a0 a1 a2 a3 a4 a5 a6
 clear c_b1
 have hS:((_:World).cell? ⟨w.heap.size,0,none⟩=some (.pointer (some ⟨p,0,none⟩))/\(_:World).cell? ⟨w.heap.size,1,none⟩=some (.slice (some ⟨b,o*7,none⟩) (n+3) c)/\(_:World).cell? ⟨w.heap.size,2,none⟩=some (.int .i64 n)/\(_:World).cell? ⟨w.heap.size,3,none⟩=some (.int .i64 me))/\((_:World).cell? ⟨b,o*7+i*7,none⟩=some (.int .i64 r.kind)/\(_:World).cell? ⟨b,o*7+i*7+1,none⟩=some (.int .i64 r.base)/\(_:World).cell? ⟨b,o*7+i*7+2,none⟩=some (.int .i64 r.loc)/\(_:World).cell? ⟨b,o*7+i*7+3,none⟩=some (.int .i64 r.n)/\(_:World).cell? ⟨b,o*7+i*7+4,none⟩=some (.int .i64 r.wr)/\(_:World).cell? ⟨b,o*7+i*7+5,none⟩=some (.int .i64 r.rd)/\(_:World).cell? ⟨b,o*7+i*7+6,none⟩=some (.int .i64 r.top)):=⟨⟨b1.cells 0,b1.cells 1,b1.cells 2,b1.cells 3⟩,a0,a1,a2,a3,a4,a5,a6⟩
 clear a0 a1 a2 a3 a4 a5 a6
 refine wp_region_held_drew (S:=fun w'=>(w'.cell? ⟨w.heap.size,0,none⟩=some (.pointer (some ⟨p,0,none⟩))/\w'.cell? ⟨w.heap.size,1,none⟩=some (.slice (some ⟨b,o*7,none⟩) (n+3) c)/\w'.cell? ⟨w.heap.size,2,none⟩=some (.int .i64 n)/\w'.cell? ⟨w.heap.size,3,none⟩=some (.int .i64 me))/\(w'.cell? ⟨b,o*7+i*7,none⟩=some (.int .i64 r.kind)/\w'.cell? ⟨b,o*7+i*7+1,none⟩=some (.int .i64 r.base)/\w'.cell? ⟨b,o*7+i*7+2,none⟩=some (.int .i64 r.loc)/\w'.cell? ⟨b,o*7+i*7+3,none⟩=some (.int .i64 r.n)/\w'.cell? ⟨b,o*7+i*7+4,none⟩=some (.int .i64 r.wr)/\w'.cell? ⟨b,o*7+i*7+5,none⟩=some (.int .i64 r.rd)/\w'.cell? ⟨b,o*7+i*7+6,none⟩=some (.int .i64 r.top))) rfl hS (fun hHeld=>?_)
 refine tkb 0 ?_
 iterate 10
  refine tkn (v:=?_) rfl (by kernel_rfl) (fun _ _ _ h=>h) (by assumption) ?_ ?_
  rotate_left
  · (intro w hSw;(try dsimp only at hSw);go_simp;try with_reducible rfl)
  try simp only [put_pack]
 refine tke ?_
 refine wpAnyH_ready (rs:=[10]) (by kernel_rfl) (by simp) ?_
 refine AllReadyH.cons rfl (fun K hKK=>?_) (AllReadyH.nil)
 go_simp
 refine tlast hO hK (hq.out _ hP) (fun _ h=>⟨rfl,h⟩) ?_
 clear hO hK hP hS
 intro v S1 w1 hrun hP hk1 hK hO
 replace b1:=b1.keep hk1
 replace hl:=hl.keep hk1
 obtain⟨a0,a1,a2,a3,a4,a5,a6⟩:=hl.nth hr
 rw [he] at a0 a1 a2 a3 a4 a5 a6
 refine hKK.out _ _ ⟨⟨b1.cells 0,b1.cells 1,b1.cells 2,b1.cells 3⟩,a0,a1,a2,a3,a4,a5,a6⟩ (fun hHeld=>?_)
 clear hKK K a0 a1 a2 a3 a4 a5 a6
 try dsimp only
 refine wpAnyH_done (by kernel_rfl) ?_ _
 go_simp
 have hf:=hO.done hP hK
 clear hO hP hK b1 hl
 go_wp2_with fail
 first | exact hf | (refine bodyPost_end (results_none rfl _ _ _) rfl ?_;exact hf) | (refine bodyPost_ret (results_none rfl _ _ _) rfl ?_;exact hf) | (go_ret;exact hf)
theorem yread_q (B p n me o i:Nat)(k:Int)(S:TS)(rs:List Reg)(b c:Nat)(w:World)(h:Plays B w p S)(hl:RegsAt [2,3,4] w p b rs)(he:YRegs rs o n)(hk:k=(i:Int))(hi:i<n+3)(hme:me<n)(hn:n<=8) :
  Calls Tryz.prog 49 #[.agg #[.pointer (some ⟨p,0,none⟩),.slice (some ⟨b,o*7,none⟩) (n+3) c,.int .i64 n,.int .i64 me],.int .i64 k] w (Post encI B p w ((regR (yReg rs o k) me).run S)):=by
 obtain⟨r,q1,q2,q3,_,_⟩:=he i hi
 rw [yReg_of hk q1,hk]
 exact yread_p B p n me o i S rs b c r w h hl hi q1 q2 (by omega) hn
theorem ywrite_q (B p n me o i:Nat)(k u:Int)(S:TS)(rs:List Reg)(b c:Nat)(w:World)(h:Plays B w p S)(hl:RegsAt [2,3,4] w p b rs)(he:YRegs rs o n)(hk:k=(i:Int))(hi:i<n+3)(hme:me<n)(hn:n<=8) :
  Calls Tryz.prog 48 #[.agg #[.pointer (some ⟨p,0,none⟩),.slice (some ⟨b,o*7,none⟩) (n+3) c,.int .i64 n,.int .i64 me],.int .i64 k,.int .i64 u] w (Post encU B p w ((regW (yReg rs o k) me u).run S)):=by
 obtain⟨r,q1,q2,q3,_,_⟩:=he i hi
 rw [yReg_of hk q1,hk]
 exact ywrite_p B p n me o i u S rs b c r w h hl hi q1 q2 (by omega) hn
theorem yat_p (p b o c n me:Nat)(w:World)(h1:1<=n)(h8:n<=8)(hme:me<n) :
  Calls Tryz.prog 46 #[.pointer (some ⟨p,0,none⟩),.slice (some ⟨b,o*7,none⟩) (n+3) c,.int .i64 n,.int .i64 me] w fun e w'=>e=.returned (.tuple #[.agg #[.pointer (some ⟨p,0,none⟩),.slice (some ⟨b,o*7,none⟩) (n+3) c,.int .i64 n,.int .i64 me],.bool true])/\Ext w w':=by
 have d3:decide ((me:Int)<0)=false:=by rw [decide_eq_false_iff_not];omega
 have d4:decide ((n:Int)<=(me:Int))=false:=by rw [decide_eq_false_iff_not];omega
 have hw:=IntWalk.i64_in ((n:Int)+3) (by omega)
 have d5:decide (n<=me)=false:=by rw [decide_eq_false_iff_not];omega
 go_enter Tryz.func46,Tryz.ntmps46
 go_wp2_with fail
 refine (yfine_p n _ h1 h8).mono ?_
 rintro e w1 ⟨rfl,rfl⟩
 go_wp2_with fail
 refine bodyPost_ret (v:=.tuple #[.agg #[.pointer (some ⟨p,0,none⟩),.slice (some ⟨b,o*7,none⟩) (n+3) c,.int .i64 n,.int .i64 me],.bool true]) (by simp [results,Tryz.results46,go_sem]) rfl ?_
 exact⟨rfl,(Ext.refl w).alloc _⟩
end Go.Proofs.YtbphlkaihfbgeaaGreat
namespace Kv
open Go
def Jumps (J:Nat->Act->World->Prop) (Q:Exit->Act->World->Prop):Exit->Act->World->Prop
 | .goto l,a,w=>J l a w
 | e,a,w=>Q e a w
section
variable {P:Program} {a:Act} {w:World} {J:Nat->Act->World->Prop} {Q:Exit->Act->World->Prop}
@[go_sem] theorem jumps_normal:Jumps J Q .normal a w=Q .normal a w:=rfl
@[go_sem] theorem jumps_exit (id:Nat):Jumps J Q (.exit id) a w=Q (.exit id) a w:=rfl
@[go_sem] theorem jumps_ret:Jumps J Q .ret a w=Q .ret a w:=rfl
@[go_sem] theorem jumps_panic (c:List PanicEntry):Jumps J Q (.panic c) a w=Q (.panic c) a w:=rfl
@[go_sem] theorem jumps_goto (l:Nat):Jumps J Q (.goto l) a w=J l a w:=rfl
end
end Kv
namespace Kv
end Kv
namespace Go.Proofs.YtbphlkaihfbgeaaGreat
open Go.RowKit Kv
theorem tstepA {α β:Type}{B p:Nat}{w0 w:World}{S:TS}{R:Ending->World->Prop}{P:Program}{f:FuncId}{args:Array Value}{K:Ending->World->Prop}{enc:α->Value}{enc':β->Value}{T:Prog α}{g:α->Prog β}{k:Nat}(hN:T.Notes k)
  (hO:Owes R enc' B p w0 ((T.bind g).run S))(hB:KeepP B p w0 w)(h:Calls P f args w (Post enc B p w (T.run S)))(hp:∀ w',R (stopE p) w'->K (stopE p) w')
  (hk:∀ v S1 w1,T.run S=(some v,S1)->S1.left<=S.left->(T.Asks->S1.left<S.left)->S1.nts.length<=S.nts.length+k->Plays B w1 p S1->KeepP B p w w1->KeepP B p w0 w1->Owes R enc' B p w0 ((g v).run S1)->K (.returned (enc v)) w1):Calls P f args w K:=by
 refine tstep hO hB h hp fun v S1 w1 hr hP hk1 hk2 hO1=>hk v S1 w1 hr ?_ (fun ha=>ha.left hr hP.1) ?_ hP hk1 hk2 hO1
 · have:=Prog.run_left T S
   rw [hr] at this
   exact this
 · have:=hN.run S
   rw [hr] at this
   exact this
end Go.Proofs.YtbphlkaihfbgeaaGreat
namespace Kv
end Kv
namespace Go.Proofs.YtbphlkaihfbgeaaGreat
open Go.RowKit Kv
theorem YRegs.bd {rs:List Reg}{o n:Nat}(h:YRegs rs o n){i:Nat}{k me v:Int}{S S':TS}(hi:i<n+3)(hk:k=(i:Int))(hr:TameA S/\(regR (yReg rs o k) me).run S=(some v,S')):0<=v/\v<=1048576:=by
 obtain⟨r,q1,q2,_,q4,_⟩:=h i hi
 rw [yReg_of hk q1] at hr
 refine regR_bd q2 (fun h6=>?_) hr.1 hr.2
 rcases q4 r.wr with q | ⟨_,q⟩ | ⟨q,_⟩
 · omega
 · exact absurd rfl q
 · omega
set_option maxRecDepth 100000 in
set_option maxHeartbeats 4000000 in
theorem yenter_p (B p n me sd D o:Nat)(s:Int)(S:TS)(rs:List Reg)(b c:Nat)(w:World)(h:Plays B w p S)(hl:RegsAt [2,3,4] w p b rs)(he:YRegs rs o n)(h1:1<=n)(hn:n<=8)(hme:me<n)(hsd:(if s=0 then 0 else 1)=sd)(hta:TameA S)(hD:S.left<D) :
  Calls Tryz.prog 24 #[.pointer (some ⟨p,0,none⟩),.slice (some ⟨b,o*7,none⟩) (n+3) c,.int .i64 s,.int .i64 n,.int .i64 me] w (Post encU B p w ((yEnter D rs o n me sd).run S)):=by
 generalize hR:Post encU B p w ((yEnter D rs o n me sd).run S)=R
 have hO:Owes R encU B p w ((yEnter D rs o n me sd).run S):=hR▸owes _ _ _ _ _
 clear hR
 have hK:=Keep.refl [2,3,4] B p w
 have hP:=h
 clear h
 have heh:=Lib.hid he
 have hOh:=Lib.hid hO
 have hwm:=IntWalk.i64_in ((me:Int)+1) (by omega)
 have hw3:=IntWalk.i64_in (3+(me:Int)) (by omega)
 have hsdh:=Lib.hid hsd
 clear he hO hsd
 go_enter Tryz.func24,Tryz.ntmps24
 go_wp2_with fail
 refine (yat_p p b o c n me _ (by omega) hn hme).mono ?_
 rintro e w1 ⟨rfl,hx⟩
 replace hK:=hK.trans (Keep.of_ext hx hP.lt hP.le)
 replace hl:=hl.extL hx hP.lt
 replace hP:=hP.ext hx
 have b1:=hP.held (.cells #[.pointer (some ⟨p,0,none⟩),.slice (some ⟨b,o*7,none⟩) (n+3) c,.int .i64 n,.int .i64 me] 79)
 replace hl:=hl.extL ((Ext.refl w1).alloc (.cells #[.pointer (some ⟨p,0,none⟩),.slice (some ⟨b,o*7,none⟩) (n+3) c,.int .i64 n,.int .i64 me] 79)) hP.lt
 replace hK:=hK.trans (Keep.alloc (.cells #[.pointer (some ⟨p,0,none⟩),.slice (some ⟨b,o*7,none⟩) (n+3) c,.int .i64 n,.int .i64 me] 79) hP.lt hP.le)
 replace hP:=hP.alloc (.cells #[.pointer (some ⟨p,0,none⟩),.slice (some ⟨b,o*7,none⟩) (n+3) c,.int .i64 n,.int .i64 me] 79)
 clear hx
 go_wp2_with fail
 generalize hz:w1.heap.size=z at *
 generalize World.alloc w1 _=W1 at *
 clear hz
 refine (ysides_p s _).mono ?_
 rintro e w2 ⟨rfl,rfl⟩
 rw [hsdh.out]
 have hO:=hOh.out
 have hsd2:sd<2:=by rw [<- hsdh.out];split <;> omega
 clear hOh hsdh
 unfold yEnter at hO
 replace hta:=Lib.hid hta
 have c_b1:=b1.cells
 have hOh:=Lib.hid hO
 clear hO
 go_wp2_with fail
 refine tstepA (notes_regW _ _ _) hOh.out hK (ywrite_q B p n me o sd (sd:Int) ((me:Int)+1) S rs b c _ hP hl heh.out rfl (by omega) hme hn) (fun _ h=>⟨rfl,h⟩) ?_
 clear hOh hK hP c_b1
 intro _ S2 wn hr hleS2 _ _ hP hk hK hO
 replace b1:=b1.keep hk
 replace hl:=hl.keep hk
 clear hk
 have hdS2:S2.left<D:=by omega
 replace hta:=Lib.hid (hta.out.run hr)
 clear hr
 have c_b1:=b1.cells
 have hOh:=Lib.hid hO
 clear hO
 go_wp2_with fail
 refine tstepA (notes_regW _ _ _) hOh.out hK (ywrite_q B p n me o 2 2 ((me:Int)+1) S2 rs b c _ hP hl heh.out rfl (by omega) hme hn) (fun _ h=>⟨rfl,h⟩) ?_
 clear hOh hK hP c_b1
 intro _ S3 wn hr hleS3 _ _ hP hk hK hO
 replace b1:=b1.keep hk
 replace hl:=hl.keep hk
 clear hk
 have hdS3:S3.left<D:=by omega
 replace hta:=Lib.hid (hta.out.run hr)
 clear hr
 have c_b1:=b1.cells
 have hOh:=Lib.hid hO
 clear hO
 go_wp2_with fail
 refine tstepA (notes_regW _ _ _) hOh.out hK (ywrite_q B p n me o (3+me) (3+(me:Int)) 0 S3 rs b c _ hP hl heh.out (by omega) (by omega) hme hn) (fun _ h=>⟨rfl,h⟩) ?_
 clear hOh hK hP c_b1
 intro _ S4 wn hr hleS4 _ _ hP hk hK hO
 replace b1:=b1.keep hk
 replace hl:=hl.keep hk
 clear hk
 have hdS4:S4.left<D:=by omega
 replace hta:=Lib.hid (hta.out.run hr)
 clear hr
 have c_b1:=b1.cells
 have hOh:=Lib.hid hO
 clear hO
 go_wp2_with fail
 refine tstepA (notes_regR _ _) hOh.out hK (yread_q B p n me o (1-sd) ((1-sd:Nat):Int) S4 rs b c _ hP hl heh.out rfl (by omega) hme hn) (fun _ h=>⟨rfl,h⟩) ?_
 clear hOh hK hP c_b1
 intro v S5 wn hr hleS5 _ _ hP hk hK hO
 replace b1:=b1.keep hk
 replace hl:=hl.keep hk
 clear hk
 have hdS5:S5.left<D:=by omega
 have hvb:=YRegs.bd heh.out (i:=(1-sd)) (by omega) rfl ⟨hta.out,hr⟩
 replace hta:=Lib.hid (hta.out.run hr)
 clear hr
 by_cases hv:v=0
 · have dv:(v==0)=true:=by simpa using hv
   rw [if_pos hv] at hO
   clear hv hvb
   have hf:=hO.done hP hK
   clear hO hP hK b1 hl
   go_wp2_with fail
   first | exact hf | (refine bodyPost_end (results_none rfl _ _ _) rfl ?_;exact hf) | (refine bodyPost_ret (results_none rfl _ _ _) rfl ?_;exact hf) | (go_ret;exact hf) | (go_end0;exact hf)
 have dv:(v==0)=false:=by simpa using hv
 rw [if_neg hv] at hO
 have hv1:1<=v:=by omega
 have hwv:=IntWalk.i64_in (v-1) (by omega)
 have hwv3:=IntWalk.i64_in (3+v) (by omega)
 have hwv4:=(IntWalk.i64_in (3+v-1) (by omega)).trans (show 3+v-1=2+v by omega)
 have hvm:=hvb.2
 clear hv hvb hta
 have c_b1:=b1.cells
 have hOh:=Lib.hid hO
 clear hO
 go_wp2_with fail
 refine tstepL hOh.out hK (yread_q B p n me o 2 2 S5 rs b c _ hP hl heh.out rfl (by omega) hme hn) (fun _ h=>⟨rfl,h⟩) ?_
 clear hOh hK hP c_b1
 intro u Sa wn hleSa hltSa hP hk hK hO
 replace b1:=b1.keep hk
 replace hl:=hl.keep hk
 clear hk
 have hdSa:Sa.left<D:=by omega
 by_cases hu:u=(me:Int)+1
 rotate_left
 · have du:(u != (me:Int)+1)=true:=by simpa using hu
   rw [if_neg fun q=>hu q.1] at hO
   clear hu
   have hf:=hO.done hP hK
   clear hO hP hK b1 hl
   go_wp2_with fail
   first | exact hf | (refine bodyPost_end (results_none rfl _ _ _) rfl ?_;exact hf) | (refine bodyPost_ret (results_none rfl _ _ _) rfl ?_;exact hf) | (go_ret;exact hf) | (go_end0;exact hf)
 have du:(u != (me:Int)+1)=false:=by simpa using hu
 have c_b1:=b1.cells
 by_cases hvr:v<=n
 rotate_left
 · rw [if_neg fun q=>hvr q.2.2] at hO
   have dt:(decide (0<=v-1)&&decide (v-1<n))=false:=by
    rw [Bool.and_eq_false_iff,decide_eq_false_iff_not,decide_eq_false_iff_not]
    omega
   have hOh:=Lib.hid hO
   clear hO hu hvr
   go_wp2_with fail
   refine (yis_p n _ _ _ _ _).mono ?_
   rintro e w5 ⟨rfl,hx⟩
   rw [dt]
   replace hK:=hK.trans (Keep.of_ext hx hP.lt hP.le)
   replace hP:=hP.ext hx
   have hf:=hOh.out.done hP hK
   clear hOh hP hK b1 hl hx dt
   go_wp2_with fail
   first | exact hf | (refine bodyPost_end (results_none rfl _ _ _) rfl ?_;exact hf) | (refine bodyPost_ret (results_none rfl _ _ _) rfl ?_;exact hf) | (go_ret;exact hf) | (go_end0;exact hf)
 rw [if_pos ⟨hu,hv1,hvr⟩] at hO
 have dt:(decide (0<=v-1)&&decide (v-1<n))=true:=by
  rw [Bool.and_eq_true,decide_eq_true_eq,decide_eq_true_eq]
  omega
 have hOh:=Lib.hid hO
 clear hO hu
 go_wp2_with fail
 refine (yis_p n _ _ _ _ _).mono ?_
 rintro e w5 ⟨rfl,hx⟩
 rw [dt]
 replace hK:=hK.trans (Keep.of_ext hx hP.lt hP.le)
 replace hl:=hl.extL hx hP.lt
 replace b1:=b1.keep (Keep.of_ext (B:=B) hx hP.lt hP.le)
 replace hP:=hP.ext hx
 have hO:=hOh.out
 clear hOh hx dt c_b1
 obtain⟨q,hq⟩:∃ q:Nat,v=(q:Int):=⟨v.toNat,by omega⟩
 have hqn:q<=n:=by omega
 have hqh:=Lib.hid hq
 clear hq
 have c_b1:=b1.cells
 have hOh:=Lib.hid hO
 clear hO
 go_wp2_with fail
 refine tstepL hOh.out hK (yread_q B p n me o (2+q) (2+v) Sa rs b c _ hP hl heh.out (by have:=hqh.out;omega) (by omega) hme hn) (fun _ h=>⟨rfl,h⟩) ?_
 clear hOh hK hP c_b1
 intro x Sb wn hleSb hltSb hP hk hK hO
 replace b1:=b1.keep hk
 replace hl:=hl.keep hk
 clear hk
 have hdSb:Sb.left<D:=by omega
 by_cases hx0:x=0
 · have dx0:(x==0)=true:=by simpa using hx0
   rw [if_pos hx0] at hO
   clear hx0
   have c_b1:=b1.cells
   have hOh:=Lib.hid hO
   clear hO
   go_wp2_with fail
   refine tstepL hOh.out hK (ywrite_q B p n me o (2+q) (2+v) 1 Sb rs b c _ hP hl heh.out (by have:=hqh.out;omega) (by omega) hme hn) (fun _ h=>⟨rfl,h⟩) ?_
   clear hOh hK hP c_b1
   intro _ Sc wn hleSc hltSc hP hk hK hO
   replace b1:=b1.keep hk
   replace hl:=hl.keep hk
   clear hk
   have hdSc:Sc.left<D:=by omega
   unfold yEnd at hO
   clear dv hwv hwv3 hwv4 du hvr hv1 hvm hqh
   obtain⟨r,q1,q2,q3,q4,q5⟩:=heh.out (3+me) (by omega)
   obtain⟨a0,a1,a2,a3,a4,a5,a6⟩:=hl.nth q1
   rw [show (o+(3+me))*7=o*7+(3+me)*7 from by omega] at a0 a1 a2 a3 a4 a5 a6
   have hi0:(0:Int)<=3+(me:Int):=by omega
   have hi1:(3:Int)+(me:Int)<(n:Int)+3:=by omega
   have hit:(3+(me:Int)).toNat=3+me:=by omega
   have hqc:=Lib.hid (fun W=>cells_all r W q2.kind (by rw [q3];omega))
   have dq:decide ((0:Int)<cellsM r)=true:=by rw [decide_eq_true_eq];exact q5
   clear q1 q2 q3 q4 q5
   have hOh:=Lib.hid hO
   clear hO
   go_wp2_with fail
   refine (hqc.out _).mono ?_
   rintro e w5 ⟨rfl,hx⟩
   replace hK:=hK.trans (Keep.of_ext hx hP.lt hP.le)
   replace hl:=hl.extL hx hP.lt
   replace b1:=b1.keep (Keep.of_ext (B:=B) hx hP.lt hP.le)
   replace hP:=hP.ext hx
   clear hx a0 a1 a2 a3 a4 a5 a6 hi0 hi1 hit hqc
   go_wp2_with fail
   clear dq
   generalize cellsM r=cm at *
   go_loopw [] (fun wr=>∃ (k:Nat) (S1:TS),Plays B wr p S1/\KeepP B p w wr/\HeldP wr p z (.cells #[.pointer (some ⟨p,0,none⟩),.slice (some ⟨b,o*7,none⟩) (n+3) c,.int .i64 n,.int .i64 me] 79)/\RegsAt [2,3,4] wr p b rs/\Hid (Owes R encU B p w (((ySpin (fun x=>x==0) (yReg rs o (3+me)) me k).bind fun _=>yEnd2 D rs o me).run S1))/\S1.left<k/\S1.left<D) (fun wr=>leftW 1 3 wr p)
   case atStart=>exact⟨D,_,hP,hK,b1,hl,hOh,by omega,by omega⟩
   case round =>
    clear hP hK b1 hl hOh
    obtain⟨k,S6,hP,hK,b1,hl,hOh,hkk,hD6⟩:=hrel
    have hO:=hOh.out
    clear hOh
    have hlw:=Lib.hid hP.left
    obtain⟨k,rfl⟩:∃ k',k=k'+1:=⟨k-1,by omega⟩
    rw [ySpin_bind] at hO
    have c_b1:=b1.cells
    have hOh:=Lib.hid hO
    clear hO
    go_wp2_with fail
    refine tstepL hOh.out hK (yread_q B p n me o (3+me) (3+(me:Int)) S6 rs b c _ hP hl heh.out (by omega) (by omega) hme hn) (fun _ h=>⟨rfl,h⟩) ?_
    clear hOh hK hP c_b1
    intro x S7 wn hleS7 hltS7 hP hk hK hO
    replace b1:=b1.keep hk
    replace hl:=hl.keep hk
    clear hk
    have hdS7:S7.left<D:=by omega
    have hll:=hltS7 (asks_regR _ _ (heh.out.told (i:=3+me) (by omega) (by omega) _))
    by_cases hx:x=0
    · have dx:(x==0)=true:=by simpa using hx
      rw [if_pos dx] at hO
      have hOh:=Lib.hid hO
      clear hO hx
      have hlv:=Lib.hid hP.left
      go_wp2_with fail
      refine⟨⟨k,S7,hP,hK,b1,hl,hOh,by omega,hdS7⟩,?_⟩
      rw [hlw.out,hlv.out]
      omega
    · have dx:(x==0)=false:=by simpa using hx
      rw [if_neg (by rw [dx];decide)] at hO
      unfold yEnd2 at hO
      clear hx hll hlw
      have c_b1:=b1.cells
      have hOh:=Lib.hid hO
      clear hO
      go_wp2_with fail
      refine tstepL hOh.out hK (yread_q B p n me o 2 2 S7 rs b c _ hP hl heh.out rfl (by omega) hme hn) (fun _ h=>⟨rfl,h⟩) ?_
      clear hOh hK hP c_b1
      intro u S8 wn hleS8 hltS8 hP hk hK hO
      replace b1:=b1.keep hk
      replace hl:=hl.keep hk
      clear hk
      have hdS8:S8.left<D:=by omega
      by_cases hu:u=(me:Int)+1
      · have du:(u != (me:Int)+1)=false:=by simpa using hu
        rw [if_pos hu] at hO
        clear hu
        have hOh:=Lib.hid hO
        clear hO
        go_wp2_with fail
        go_loopw [] (fun wr=>∃ (k:Nat) (S1:TS),Plays B wr p S1/\KeepP B p w wr/\HeldP wr p z (.cells #[.pointer (some ⟨p,0,none⟩),.slice (some ⟨b,o*7,none⟩) (n+3) c,.int .i64 n,.int .i64 me] 79)/\RegsAt [2,3,4] wr p b rs/\Hid (Owes R encU B p w ((ySpin (fun x=>decide (x<=1)) (yReg rs o (3+me)) me k).run S1))/\S1.left<k/\S1.left<D) (fun wr=>leftW 1 3 wr p)
        case atStart=>exact⟨D,_,hP,hK,b1,hl,hOh,by omega,by omega⟩
        case round =>
         clear hP hK b1 hl hOh
         obtain⟨k,S9,hP,hK,b1,hl,hOh,hkk,hD9⟩:=hrel
         have hO:=hOh.out
         clear hOh
         have hlw:=Lib.hid hP.left
         obtain⟨k,rfl⟩:∃ k',k=k'+1:=⟨k-1,by omega⟩
         rw [ySpin_one] at hO
         have c_b1:=b1.cells
         have hOh:=Lib.hid hO
         clear hO
         go_wp2_with fail
         refine tstepL hOh.out hK (yread_q B p n me o (3+me) (3+(me:Int)) S9 rs b c _ hP hl heh.out (by omega) (by omega) hme hn) (fun _ h=>⟨rfl,h⟩) ?_
         clear hOh hK hP c_b1
         intro y S10 wn hleS10 hltS10 hP hk hK hO
         replace b1:=b1.keep hk
         replace hl:=hl.keep hk
         clear hk
         have hdS10:S10.left<D:=by omega
         have hll:=hltS10 (asks_regR _ _ (heh.out.told (i:=3+me) (by omega) (by omega) _))
         by_cases hx:y<=1
         · have dy:decide (y<=1)=true:=by simpa using hx
           rw [if_pos dy] at hO
           have hOh:=Lib.hid hO
           clear hO hx
           have hlv:=Lib.hid hP.left
           go_wp2_with fail
           refine⟨⟨k,S10,hP,hK,b1,hl,hOh,by omega,hdS10⟩,?_⟩
           rw [hlw.out,hlv.out]
           omega
         · have dy:decide (y<=1)=false:=by simpa using hx
           rw [if_neg (by rw [dy];decide)] at hO
           clear hx
           have hf:=hO.done hP hK
           clear hO hP hK b1 hl
           go_wp2_with fail
           first | exact hf | (refine bodyPost_end (results_none rfl _ _ _) rfl ?_;exact hf) | (refine bodyPost_ret (results_none rfl _ _ _) rfl ?_;exact hf) | (go_ret;exact hf) | (go_end0;exact hf)
      · have du:(u != (me:Int)+1)=true:=by simpa using hu
        rw [if_neg hu] at hO
        clear hu
        have hf:=hO.done hP hK
        clear hO hP hK b1 hl
        go_wp2_with fail
        first | exact hf | (refine bodyPost_end (results_none rfl _ _ _) rfl ?_;exact hf) | (refine bodyPost_ret (results_none rfl _ _ _) rfl ?_;exact hf) | (go_ret;exact hf) | (go_end0;exact hf)
 · have dx0:(x==0)=false:=by simpa using hx0
   rw [if_neg hx0] at hO
   unfold yEnd at hO
   clear hx0 dv hwv hwv3 hwv4 du hvr hv1 hvm hqh
   obtain⟨r,q1,q2,q3,q4,q5⟩:=heh.out (3+me) (by omega)
   obtain⟨a0,a1,a2,a3,a4,a5,a6⟩:=hl.nth q1
   rw [show (o+(3+me))*7=o*7+(3+me)*7 from by omega] at a0 a1 a2 a3 a4 a5 a6
   have hi0:(0:Int)<=3+(me:Int):=by omega
   have hi1:(3:Int)+(me:Int)<(n:Int)+3:=by omega
   have hit:(3+(me:Int)).toNat=3+me:=by omega
   have hqc:=Lib.hid (fun W=>cells_all r W q2.kind (by rw [q3];omega))
   have dq:decide ((0:Int)<cellsM r)=true:=by rw [decide_eq_true_eq];exact q5
   clear q1 q2 q3 q4 q5
   have hOh:=Lib.hid hO
   clear hO
   go_wp2_with fail
   refine (hqc.out _).mono ?_
   rintro e w5 ⟨rfl,hx⟩
   replace hK:=hK.trans (Keep.of_ext hx hP.lt hP.le)
   replace hl:=hl.extL hx hP.lt
   replace b1:=b1.keep (Keep.of_ext (B:=B) hx hP.lt hP.le)
   replace hP:=hP.ext hx
   clear hx a0 a1 a2 a3 a4 a5 a6 hi0 hi1 hit hqc
   go_wp2_with fail
   clear dq
   generalize cellsM r=cm at *
   go_loopw [] (fun wr=>∃ (k:Nat) (S1:TS),Plays B wr p S1/\KeepP B p w wr/\HeldP wr p z (.cells #[.pointer (some ⟨p,0,none⟩),.slice (some ⟨b,o*7,none⟩) (n+3) c,.int .i64 n,.int .i64 me] 79)/\RegsAt [2,3,4] wr p b rs/\Hid (Owes R encU B p w (((ySpin (fun x=>x==0) (yReg rs o (3+me)) me k).bind fun _=>yEnd2 D rs o me).run S1))/\S1.left<k/\S1.left<D) (fun wr=>leftW 1 3 wr p)
   case atStart=>exact⟨D,_,hP,hK,b1,hl,hOh,by omega,by omega⟩
   case round =>
    clear hP hK b1 hl hOh
    obtain⟨k,S6,hP,hK,b1,hl,hOh,hkk,hD6⟩:=hrel
    have hO:=hOh.out
    clear hOh
    have hlw:=Lib.hid hP.left
    obtain⟨k,rfl⟩:∃ k',k=k'+1:=⟨k-1,by omega⟩
    rw [ySpin_bind] at hO
    have c_b1:=b1.cells
    have hOh:=Lib.hid hO
    clear hO
    go_wp2_with fail
    refine tstepL hOh.out hK (yread_q B p n me o (3+me) (3+(me:Int)) S6 rs b c _ hP hl heh.out (by omega) (by omega) hme hn) (fun _ h=>⟨rfl,h⟩) ?_
    clear hOh hK hP c_b1
    intro x S7 wn hleS7 hltS7 hP hk hK hO
    replace b1:=b1.keep hk
    replace hl:=hl.keep hk
    clear hk
    have hdS7:S7.left<D:=by omega
    have hll:=hltS7 (asks_regR _ _ (heh.out.told (i:=3+me) (by omega) (by omega) _))
    by_cases hx:x=0
    · have dx:(x==0)=true:=by simpa using hx
      rw [if_pos dx] at hO
      have hOh:=Lib.hid hO
      clear hO hx
      have hlv:=Lib.hid hP.left
      go_wp2_with fail
      refine⟨⟨k,S7,hP,hK,b1,hl,hOh,by omega,hdS7⟩,?_⟩
      rw [hlw.out,hlv.out]
      omega
    · have dx:(x==0)=false:=by simpa using hx
      rw [if_neg (by rw [dx];decide)] at hO
      unfold yEnd2 at hO
      clear hx hll hlw
      have c_b1:=b1.cells
      have hOh:=Lib.hid hO
      clear hO
      go_wp2_with fail
      refine tstepL hOh.out hK (yread_q B p n me o 2 2 S7 rs b c _ hP hl heh.out rfl (by omega) hme hn) (fun _ h=>⟨rfl,h⟩) ?_
      clear hOh hK hP c_b1
      intro u S8 wn hleS8 hltS8 hP hk hK hO
      replace b1:=b1.keep hk
      replace hl:=hl.keep hk
      clear hk
      have hdS8:S8.left<D:=by omega
      by_cases hu:u=(me:Int)+1
      · have du:(u != (me:Int)+1)=false:=by simpa using hu
        rw [if_pos hu] at hO
        clear hu
        have hOh:=Lib.hid hO
        clear hO
        go_wp2_with fail
        go_loopw [] (fun wr=>∃ (k:Nat) (S1:TS),Plays B wr p S1/\KeepP B p w wr/\HeldP wr p z (.cells #[.pointer (some ⟨p,0,none⟩),.slice (some ⟨b,o*7,none⟩) (n+3) c,.int .i64 n,.int .i64 me] 79)/\RegsAt [2,3,4] wr p b rs/\Hid (Owes R encU B p w ((ySpin (fun x=>decide (x<=1)) (yReg rs o (3+me)) me k).run S1))/\S1.left<k/\S1.left<D) (fun wr=>leftW 1 3 wr p)
        case atStart=>exact⟨D,_,hP,hK,b1,hl,hOh,by omega,by omega⟩
        case round =>
         clear hP hK b1 hl hOh
         obtain⟨k,S9,hP,hK,b1,hl,hOh,hkk,hD9⟩:=hrel
         have hO:=hOh.out
         clear hOh
         have hlw:=Lib.hid hP.left
         obtain⟨k,rfl⟩:∃ k',k=k'+1:=⟨k-1,by omega⟩
         rw [ySpin_one] at hO
         have c_b1:=b1.cells
         have hOh:=Lib.hid hO
         clear hO
         go_wp2_with fail
         refine tstepL hOh.out hK (yread_q B p n me o (3+me) (3+(me:Int)) S9 rs b c _ hP hl heh.out (by omega) (by omega) hme hn) (fun _ h=>⟨rfl,h⟩) ?_
         clear hOh hK hP c_b1
         intro y S10 wn hleS10 hltS10 hP hk hK hO
         replace b1:=b1.keep hk
         replace hl:=hl.keep hk
         clear hk
         have hdS10:S10.left<D:=by omega
         have hll:=hltS10 (asks_regR _ _ (heh.out.told (i:=3+me) (by omega) (by omega) _))
         by_cases hx:y<=1
         · have dy:decide (y<=1)=true:=by simpa using hx
           rw [if_pos dy] at hO
           have hOh:=Lib.hid hO
           clear hO hx
           have hlv:=Lib.hid hP.left
           go_wp2_with fail
           refine⟨⟨k,S10,hP,hK,b1,hl,hOh,by omega,hdS10⟩,?_⟩
           rw [hlw.out,hlv.out]
           omega
         · have dy:decide (y<=1)=false:=by simpa using hx
           rw [if_neg (by rw [dy];decide)] at hO
           clear hx
           have hf:=hO.done hP hK
           clear hO hP hK b1 hl
           go_wp2_with fail
           first | exact hf | (refine bodyPost_end (results_none rfl _ _ _) rfl ?_;exact hf) | (refine bodyPost_ret (results_none rfl _ _ _) rfl ?_;exact hf) | (go_ret;exact hf) | (go_end0;exact hf)
      · have du:(u != (me:Int)+1)=true:=by simpa using hu
        rw [if_neg hu] at hO
        clear hu
        have hf:=hO.done hP hK
        clear hO hP hK b1 hl
        go_wp2_with fail
        first | exact hf | (refine bodyPost_end (results_none rfl _ _ _) rfl ?_;exact hf) | (refine bodyPost_ret (results_none rfl _ _ _) rfl ?_;exact hf) | (go_ret;exact hf) | (go_end0;exact hf)
set_option maxRecDepth 100000 in
set_option maxHeartbeats 4000000 in
theorem yleave_p (B p n me sd D o:Nat)(s:Int)(S:TS)(rs:List Reg)(b c:Nat)(w:World)(h:Plays B w p S)(hl:RegsAt [2,3,4] w p b rs)(he:YRegs rs o n)(h1:1<=n)(hn:n<=8)(hme:me<n)(hsd:(if s=0 then 0 else 1)=sd)(hta:TameA S)(hD:S.left<D) :
  Calls Tryz.prog 25 #[.pointer (some ⟨p,0,none⟩),.slice (some ⟨b,o*7,none⟩) (n+3) c,.int .i64 s,.int .i64 n,.int .i64 me] w (Post encU B p w ((yLeave rs o n me sd).run S)):=by
 generalize hR:Post encU B p w ((yLeave rs o n me sd).run S)=R
 have hO:Owes R encU B p w ((yLeave rs o n me sd).run S):=hR▸owes _ _ _ _ _
 clear hR
 have hK:=Keep.refl [2,3,4] B p w
 have hP:=h
 clear h
 have heh:=Lib.hid he
 have hOh:=Lib.hid hO
 have hwm:=IntWalk.i64_in ((me:Int)+1) (by omega)
 have hw3:=IntWalk.i64_in (3+(me:Int)) (by omega)
 have hsdh:=Lib.hid hsd
 clear he hO hsd
 go_enter Tryz.func25,Tryz.ntmps25
 go_wp2_with fail
 refine (yat_p p b o c n me _ (by omega) hn hme).mono ?_
 rintro e w1 ⟨rfl,hx⟩
 replace hK:=hK.trans (Keep.of_ext hx hP.lt hP.le)
 replace hl:=hl.extL hx hP.lt
 replace hP:=hP.ext hx
 have b1:=hP.held (.cells #[.pointer (some ⟨p,0,none⟩),.slice (some ⟨b,o*7,none⟩) (n+3) c,.int .i64 n,.int .i64 me] 79)
 replace hl:=hl.extL ((Ext.refl w1).alloc (.cells #[.pointer (some ⟨p,0,none⟩),.slice (some ⟨b,o*7,none⟩) (n+3) c,.int .i64 n,.int .i64 me] 79)) hP.lt
 replace hK:=hK.trans (Keep.alloc (.cells #[.pointer (some ⟨p,0,none⟩),.slice (some ⟨b,o*7,none⟩) (n+3) c,.int .i64 n,.int .i64 me] 79) hP.lt hP.le)
 replace hP:=hP.alloc (.cells #[.pointer (some ⟨p,0,none⟩),.slice (some ⟨b,o*7,none⟩) (n+3) c,.int .i64 n,.int .i64 me] 79)
 clear hx
 go_wp2_with fail
 generalize hz:w1.heap.size=z at *
 generalize World.alloc w1 _=W1 at *
 clear hz
 refine (ysides_p s _).mono ?_
 rintro e w2 ⟨rfl,rfl⟩
 rw [hsdh.out]
 have hO:=hOh.out
 have hsd2:sd<2:=by rw [<- hsdh.out];split <;> omega
 clear hOh hsdh
 unfold yLeave at hO
 replace hta:=Lib.hid hta
 have c_b1:=b1.cells
 have hOh:=Lib.hid hO
 clear hO
 go_wp2_with fail
 refine tstepA (notes_regW _ _ _) hOh.out hK (ywrite_q B p n me o sd (sd:Int) 0 S rs b c _ hP hl heh.out rfl (by omega) hme hn) (fun _ h=>⟨rfl,h⟩) ?_
 clear hOh hK hP c_b1
 intro _ S2 wn hr hleS2 _ _ hP hk hK hO
 replace b1:=b1.keep hk
 replace hl:=hl.keep hk
 clear hk
 have hdS2:S2.left<D:=by omega
 replace hta:=Lib.hid (hta.out.run hr)
 clear hr
 have c_b1:=b1.cells
 have hOh:=Lib.hid hO
 clear hO
 go_wp2_with fail
 refine tstepA (notes_regR _ _) hOh.out hK (yread_q B p n me o 2 2 S2 rs b c _ hP hl heh.out rfl (by omega) hme hn) (fun _ h=>⟨rfl,h⟩) ?_
 clear hOh hK hP c_b1
 intro u S3 wn hr hleS3 _ _ hP hk hK hO
 replace b1:=b1.keep hk
 replace hl:=hl.keep hk
 clear hk
 have hdS3:S3.left<D:=by omega
 have hvb:=YRegs.bd heh.out (i:=2) (by omega) rfl ⟨hta.out,hr⟩
 replace hta:=Lib.hid (hta.out.run hr)
 clear hr
 have hwv:=IntWalk.i64_in (u-1) (by omega)
 have hwv3:=IntWalk.i64_in (3+u) (by omega)
 have hwv4:=(IntWalk.i64_in (3+u-1) (by omega)).trans (show 3+u-1=2+u by omega)
 obtain⟨q,hq⟩:∃ q:Nat,u=(q:Int):=⟨u.toNat,by omega⟩
 have hqh:=Lib.hid hq
 have hqn:u<=n->q<=n:=fun h=>by omega
 clear hta hvb hq
 by_cases hu:u=(me:Int)+1
 · have du:(u != (me:Int)+1)=false:=by simpa using hu
   rw [if_neg fun q=>q.1 hu] at hO
   clear hu
   have hf:=hO.done hP hK
   clear hO hP hK b1 hl
   go_wp2_with fail
   first | exact hf | (refine bodyPost_end (results_none rfl _ _ _) rfl ?_;exact hf) | (refine bodyPost_ret (results_none rfl _ _ _) rfl ?_;exact hf) | (go_ret;exact hf) | (go_end0;exact hf)
 have du:(u != (me:Int)+1)=true:=by simpa using hu
 have c_b1:=b1.cells
 by_cases hvr:1<=u/\u<=n
 rotate_left
 · rw [if_neg fun q=>hvr q.2] at hO
   have dt:(decide (0<=u-1)&&decide (u-1<n))=false:=by
    rw [Bool.and_eq_false_iff,decide_eq_false_iff_not,decide_eq_false_iff_not]
    omega
   have hOh:=Lib.hid hO
   clear hO hu hvr
   go_wp2_with fail
   refine (yis_p n _ _ _ _ _).mono ?_
   rintro e w5 ⟨rfl,hx⟩
   rw [dt]
   replace hK:=hK.trans (Keep.of_ext hx hP.lt hP.le)
   replace hP:=hP.ext hx
   have hf:=hOh.out.done hP hK
   clear hOh hP hK b1 hl hx dt
   go_wp2_with fail
   first | exact hf | (refine bodyPost_end (results_none rfl _ _ _) rfl ?_;exact hf) | (refine bodyPost_ret (results_none rfl _ _ _) rfl ?_;exact hf) | (go_ret;exact hf) | (go_end0;exact hf)
 rw [if_pos ⟨hu,hvr⟩] at hO
 have dt:(decide (0<=u-1)&&decide (u-1<n))=true:=by
  rw [Bool.and_eq_true,decide_eq_true_eq,decide_eq_true_eq]
  omega
 replace hqn:=hqn hvr.2
 have hOh:=Lib.hid hO
 clear hO hu hvr
 go_wp2_with fail
 refine (yis_p n _ _ _ _ _).mono ?_
 rintro e w5 ⟨rfl,hx⟩
 rw [dt]
 replace hK:=hK.trans (Keep.of_ext hx hP.lt hP.le)
 replace hl:=hl.extL hx hP.lt
 replace b1:=b1.keep (Keep.of_ext (B:=B) hx hP.lt hP.le)
 replace hP:=hP.ext hx
 have hO:=hOh.out
 clear hOh hx dt c_b1
 have c_b1:=b1.cells
 have hOh:=Lib.hid hO
 clear hO
 go_wp2_with fail
 refine tlast hOh.out hK (ywrite_q B p n me o (2+q) (2+u) 2 S3 rs b c _ hP hl heh.out (by have:=hqh.out;omega) (by omega) hme hn) (fun _ h=>⟨rfl,h⟩) ?_
 clear hOh hK hP c_b1
 intro _ S4 wn _ hP hk hK hO
 replace b1:=b1.keep hk
 replace hl:=hl.keep hk
 clear hk
 have hf:=hO.done hP hK
 clear hO hP hK b1 hl
 go_wp2_with fail
 first | exact hf | (refine bodyPost_end (results_none rfl _ _ _) rfl ?_;exact hf) | (refine bodyPost_ret (results_none rfl _ _ _) rfl ?_;exact hf) | (go_ret;exact hf) | (go_end0;exact hf)
end Go.Proofs.YtbphlkaihfbgeaaGreat
namespace Go.Proofs
open Go.Shelf
def Tryz.lays129_ren:Go.Shelf.Ren:=⟨fun | 129=>55 | n=>n,fun | 53=>91 | 3=>3 | 4=>4 | 46=>92 | 5=>5 | 9=>9 | n=>n,fun | n=>n⟩
theorem Tryz.lays129:Go.Proofs.Lays.n129 Tryz.prog Tryz.lays129_ren:={
 mixed:=by kernel_rfl
 f129:=Tryz.func55.trans (congrArg some (by kernel_rfl))
 t3:=Tryz.underlying3
 a3:=Tryz.isAgg3
 z3:=Tryz.sizeOf3
 v3:=Tryz.zeroValue3
 t4:=Tryz.underlying4
 a4:=Tryz.isAgg4
 z4:=Tryz.sizeOf4
 v4:=Tryz.zeroValue4
 t5:=Tryz.underlying5
 a5:=Tryz.isAgg5
 z5:=Tryz.sizeOf5
 v5:=Tryz.zeroValue5
 t9:=Tryz.underlying9
 a9:=Tryz.isAgg9
 z9:=Tryz.sizeOf9
 v9:=Tryz.zeroValue9
 t46:=Tryz.underlying92
 a46:=Tryz.isAgg92
 z46:=Tryz.sizeOf92
 v46:=Tryz.zeroValue92
 t53:=Tryz.underlying91
 a53:=Tryz.isAgg91
 z53:=Tryz.sizeOf91
 v53:=Tryz.zeroValue91 }
theorem Tryz.bits_Len64 (x:Int)(w:World)(h0:0<=x)(h1:x<=18446744073709551615) :
  Calls Tryz.prog 55 #[.int .u64 x] w fun e w'=>e=.returned (.int .i64 (Lib.bitLen x.toNat))/\w'=w:=Any.bits_Len64 Tryz.lays129 x w h0 h1
def Tryz.lays212_ren:Go.Shelf.Ren:=⟨fun | 212=>56 | 263=>67 | 264=>68 | n=>n,fun | 46=>92 | 51=>103 | 146=>104 | 53=>91 | 148=>106 | n=>n,fun | n=>n⟩
theorem Tryz.lays212:Go.Proofs.Lays.n212 Tryz.prog Tryz.lays212_ren:={
 mixed:=by kernel_rfl
 f212:=Tryz.func56.trans (congrArg some (by kernel_rfl))
 f263:=Tryz.func67.trans (congrArg some (by kernel_rfl))
 f264:=Tryz.func68.trans (congrArg some (by kernel_rfl))
 t46:=Tryz.underlying92
 a46:=Tryz.isAgg92
 z46:=Tryz.sizeOf92
 v46:=Tryz.zeroValue92
 t51:=Tryz.underlying103
 a51:=Tryz.isAgg103
 z51:=Tryz.sizeOf103
 v51:=Tryz.zeroValue103
 t53:=Tryz.underlying91
 a53:=Tryz.isAgg91
 z53:=Tryz.sizeOf91
 v53:=Tryz.zeroValue91
 t146:=Tryz.underlying104
 a146:=Tryz.isAgg104
 z146:=Tryz.sizeOf104
 v146:=Tryz.zeroValue104
 t148:=Tryz.underlying106
 a148:=Tryz.isAgg106
 z148:=Tryz.sizeOf106
 v148:=Tryz.zeroValue106 }
open Go.RowKit Go.Lib in
theorem Tryz.bits_Mul (x y:Nat)(hx:x<18446744073709551616)(hy:y<18446744073709551616)(w:World) :
  Calls Tryz.prog 56 #[.int .u64 x,.int .u64 y] w fun e w'=>e=.returned (.tuple #[.int .u64 ((x*y / 18446744073709551616:Nat):Int),.int .u64 ((x*y % 18446744073709551616:Nat):Int)])/\w'=w:=Any.bits_Mul Tryz.lays212 x y hx hy w
end Go.Proofs
namespace Go.Proofs.YtbphlkaihfbgeaaGreat
open Go.RowKit Kv
def deBruijn64:List Int:=[0,1,56,2,57,49,28,3,61,58,42,50,38,29,17,4,62,47,59,36,45,43,51,22,53,39,33,30,24,18,12,5,63,55,48,27,60,41,37,16,46,35,44,21,52,32,23,11,54,26,40,15,34,20,31,10,25,14,19,9,13,8,7,6]
structure Tabs (w:World):Prop where
 pow10:Lib.TabIs Tryz.prog w "internal/strconv.uint64pow10" .u64 Lib.pow10Tab
 bruijn:Lib.TabIs Tryz.prog w "math/bits.deBruijn64tab" .u8 deBruijn64
theorem Tabs.ext {w w':World}(h:Tabs w)(hx:Ext w w'):Tabs w' :=
 ⟨Lib.tabBelow_of_tabIs h.pow10 _ hx,Lib.tabBelow_of_tabIs h.bruijn _ hx⟩
theorem levels_p (n:Int)(hn:n<=9223372036854775807)(w:World) :
  Calls Tryz.prog 29 #[.int .i64 n] w fun e w'=>e=.returned (.int .i64 (levels n))/\w=w':=by
 by_cases h1:n<=1
 · have H:=Lib.hid (levels_small n h1)
   go_enter Tryz.func29,Tryz.ntmps29
   go_wp2
   go_ret
   exact⟨ret_int (by rw [H.out];rfl),rfl⟩
 · have H:=Lib.hid (levels_bitLen n (by omega))
   rw [show (n-1).toNat=n.toNat-1 from by omega] at H
   go_enter Tryz.func29,Tryz.ntmps29
   go_wp2_with (go_at_call 55;refine (Tryz.bits_Len64 _ _ (by omega) (by omega)).mono ?_;rintro e w' ⟨rfl,rfl⟩)
   go_ret
   exact⟨ret_int (by rw [H.out]),rfl⟩
end Go.Proofs.YtbphlkaihfbgeaaGreat
namespace Kv
end Kv
namespace Go.Proofs.YtbphlkaihfbgeaaGreat
open Go.RowKit Kv
theorem RegsAt.three {ix:List Nat}{p b:Nat}{w:World}{x y z:Reg}(h:RegsAt ix w p b [x,y,z]):RegCells w b 0 x/\RegCells w b 7 y/\RegCells w b 14 z :=
 ⟨⟨h.cells 0 _ rfl,h.cells 1 _ rfl,h.cells 2 _ rfl,h.cells 3 _ rfl,h.cells 4 _ rfl,h.cells 5 _ rfl,h.cells 6 _ rfl⟩,⟨h.cells 7 _ rfl,h.cells 8 _ rfl,h.cells 9 _ rfl,h.cells 10 _ rfl,h.cells 11 _ rfl,h.cells 12 _ rfl,h.cells 13 _ rfl⟩,
  ⟨h.cells 14 _ rfl,h.cells 15 _ rfl,h.cells 16 _ rfl,h.cells 17 _ rfl,h.cells 18 _ rfl,h.cells 19 _ rfl,h.cells 20 _ rfl⟩⟩
end Go.Proofs.YtbphlkaihfbgeaaGreat
namespace Kv
def pathN:Nat->Nat->List Int
 | 0,_=>[]
 | f+1,x=>if x<=1 then [] else (x:Int) :: pathN f (x / 2)
theorem pathN_fuel:∀ (f g x:Nat),x<=f->x<=g->pathN f x=pathN g x
 | 0,0,x,_,_=>rfl
 | 0,g+1,x,h,_=>by unfold pathN;rw [if_pos (by omega)]
 | f+1,0,x,_,h=>by unfold pathN;rw [if_pos (by omega)]
 | f+1,g+1,x,h1,h2=>by
   unfold pathN
   split
   · rfl
   · rw [pathN_fuel f g (x / 2) (by omega) (by omega)]
theorem pathN_cons {x:Nat}(h:1<x):pathN x x=(x:Int) :: pathN (x / 2) (x / 2):=by
 obtain⟨y,rfl⟩:∃ y,x=y+1:=⟨x-1,by omega⟩
 rw [show pathN (y+1) (y+1)=(if y+1<=1 then [] else ((y+1:Nat):Int) :: pathN y ((y+1) / 2)) from rfl,if_neg (by omega),pathN_fuel y ((y+1) / 2) _ (by omega) (by omega)]
theorem pathN_nil {x:Nat}(h:x<=1):pathN x x=[]:=by
 cases x with
 | zero=>rfl
 | succ x=>rw [show pathN (x+1) (x+1)=(if x+1<=1 then [] else ((x+1:Nat):Int) :: pathN x ((x+1) / 2)) from rfl,if_pos h]
theorem pathN_len:∀ (f x:Nat),(pathN f x).length<=f
 | 0,_=>by simp [pathN]
 | f+1,x=>by
   unfold pathN
   split
   · simp
   · have:=pathN_len f (x / 2)
     simp;omega
def pathL (m place:Nat):List Int:=pathN (2 ^ levels m+place) (2 ^ levels m+place)
theorem lev_le {m:Nat}(h:m<=64):levels m<=6:=by
 have:∀ m:Nat,m<65->levels m<=6:=by decide +kernel
 exact this m (by omega)
theorem pow_le {k:Nat}(h:k<=6):1<=2 ^ k/\2 ^ k<=64:=by
 have:∀ k:Nat,k<7->1<=2 ^ k/\2 ^ k<=64:=by decide
 exact this k (by omega)
end Kv
namespace Go.Proofs.YtbphlkaihfbgeaaGreat
open Go.RowKit Kv
set_option maxRecDepth 100000 in
set_option maxHeartbeats 1000000 in
theorem path_p (m place:Nat)(w:World)(h1:1<=m)(h2:m<=64)(h3:place<m) :
  Calls Tryz.prog 40 #[.int .i64 m,.int .i64 place] w fun e w'=>∃ v,e=.returned v/\IntRow w' w.heap.size v (pathL m place)/\Ext w w':=by
 have hlv:=fun w=>levels_p m (by omega) w
 have hle:=lev_le h2
 unfold pathL
 generalize levels m=L at *
 obtain⟨p1,p2⟩:=pow_le hle
 have hPi:(2:Int) ^ L=((2 ^ L:Nat):Int):=by rw [Int.natCast_pow];rfl
 generalize 2 ^ L=P at *
 have hsh:Op.shift .shl .i64 1 .i64 (L:Int)=pure (.int .i64 (P:Int)):=by
  rw [Go.shift_shl_i64 (x:=1) (y:=(L:Int)) (yk:=.i64) (by omega) (by omega),Int.one_mul,Int.toNat_natCast,hPi,IntWalk.i64_in _ (by omega)]
 clear hPi hle
 have d1:decide ((m:Int)<1)=false:=by rw [decide_eq_false_iff_not];omega
 have d2:decide ((64:Int)<(m:Int))=false:=by rw [decide_eq_false_iff_not];omega
 have d3:decide ((place:Int)<0)=false:=by rw [decide_eq_false_iff_not];omega
 have d4:decide (m<=place)=false:=by rw [decide_eq_false_iff_not];omega
 obtain⟨X,hX⟩:∃ X:Nat,P+place=X:=⟨_,rfl⟩
 rw [hX]
 have hw:IntKind.i64.wrap ((P:Int)+(place:Int))=(X:Int):=by rw [IntWalk.i64_in _ (by omega)];omega
 go_enter Tryz.func40,Tryz.ntmps40
 go_wp2_with fail
 refine (hlv _).mono ?_
 rintro e w' ⟨rfl,rfl⟩
 go_wp2_with fail
 go_loopw [5,6] (fun v i wr=>∃ (x:Nat) (l:List Int),i=.int .i64 x/\x<=128/\l.length+x<=X/\IntRow wr w.heap.size v l/\Hid (l++pathN x x=pathN X X)/\Ext w wr) (fun _ i _=>(intOf i).toNat)
 case atStart=>exact⟨X,[],rfl,by omega,by simp,IntRow.nil _ _,Lib.hid rfl,Ext.refl w⟩
 case round =>
  obtain⟨x,l,rfl,hx,hln,hown,hpath,hE⟩:=hrel
  by_cases hx1:1<x
  · have e1:decide ((1:Int)<(x:Int))=true:=by rw [decide_eq_true_eq];omega
    go_wp2_with (at_builtin;refine append_int rfl _ _ rfl w.heap.size _ l x hown rfl rfl (by omega) hE.size ?_)
    intro v' w' ho hg
    have hx':=hE.appended hown hg
    have hoh:=Lib.hid ho
    have hp2:Hid ((l++[(x:Int)])++pathN (x / 2) (x / 2)=pathN X X):=Lib.hid (by rw [<- hpath.out,pathN_cons hx1,List.append_assoc];rfl)
    clear hown ho hg hpath hE
    go_wp2_with fail
    refine⟨⟨x / 2,l++[(x:Int)],by go_num,by omega,by simp;omega,hoh.out,hp2,hx'⟩,?_⟩
    simp [intOf];omega
  · have e1:decide ((1:Int)<(x:Int))=false:=by rw [decide_eq_false_iff_not];omega
    have hp:=hpath.out
    rw [pathN_nil (by omega),List.append_nil] at hp
    have hf:=Lib.hid hown
    subst hp
    clear hown hpath
    go_wp2_with fail
    go_ret
    exact⟨_,rfl,hf.out,hE⟩
end Go.Proofs.YtbphlkaihfbgeaaGreat
namespace Kv
theorem pathN_mem:∀ (f x:Nat) {y:Int},y∈pathN f x->2<=y/\y<=x
 | 0,_,y,h=>by simp [pathN] at h
 | f+1,x,y,h=>by
   unfold pathN at h
   split at h
   · simp at h
   · rcases List.mem_cons.1 h with rfl | h
     · omega
     · have:=pathN_mem f (x / 2) h
       omega
theorem lev_ge {m:Nat}(h:m<=64):m<=2 ^ levels m:=by
 have:∀ m:Nat,m<65->m<=2 ^ levels m:=by decide +kernel
 exact this m (by omega)
theorem pathL_mem {m place:Nat}(h:m<=64)(hp:place<m){y:Int}(hy:y∈pathL m place):2<=y/\y<2*2 ^ levels m:=by
 have h1:=pathN_mem _ _ hy
 have h2:=lev_ge h
 have e:(2:Int) ^ levels m=((2 ^ levels m:Nat):Int):=by rw [Int.natCast_pow];rfl
 rw [e]
 generalize 2 ^ levels m=P at *
 omega
end Kv
namespace Go.Proofs.YtbphlkaihfbgeaaGreat
open Go.RowKit Kv
def RowH (ix:List Nat) (w:World) (p:Nat) (A:Option Addr) (l:List Int):Prop:=l≠[]->∃ g cur,A=some ⟨g,0,none⟩/\Held ix w p g (.cells cur 3)/\∀ (i:Nat) y,l[i]?=some y->cur[i]?=some (.int .i64 y)
theorem RowH.of_row {ix:List Nat}{w:World}{p base:Nat}{v:Value}{l:List Int}(h:IntRow w base v l)(hn:∀ b,base<=b->¬ ownR ix w p b):∃ A c,v=.slice A l.length c/\RowH ix w p A l:=by
 rcases h.2 with⟨rfl,h0⟩ | ⟨g,cap,cur,rfl,hb,hg,h1,h2,h3,h4⟩
 · exact⟨none,0,by rw [h0],fun hne=>absurd (List.length_eq_zero_iff.1 h0) hne⟩
 · refine⟨_,cap,rfl,fun _=>⟨g,cur,rfl,⟨hg,hn g hb⟩,fun i y hy=>?_⟩⟩
   have e:(cur.toList.take (l.length*1))[i]?=some (.int .i64 y):=by rw [h4,List.getElem?_map,hy];rfl
   rw [List.getElem?_take] at e
   split at e
   · rw [<- e];simp
   · cases e
theorem Held.at_ {ix:List Nat}{w:World}{p g:Nat}{cur:Array Value}{l:List Int}(h:Held ix w p g (.cells cur 3))(hc:∀ (i:Nat) y,l[i]?=some y->cur[i]?=some (.int .i64 y)){i:Nat}{y:Int}(hy:l[i]?=some y):w.cell? ⟨g,i,none⟩=some (.int .i64 y):=by
 rw [h.cells i];exact hc i y hy
end Go.Proofs.YtbphlkaihfbgeaaGreat
namespace Kv
def yo (n Y:Nat):Nat:=(Y / 2-1)*(n+3)
def yAcq (D:Nat) (rs:List Reg) (n me:Nat):Prog Unit:=forP (fun (x:Int) (_:Unit)=>yEnter D rs (yo n x.toNat) n me (x.toNat % 2)) (pathL n me) ()
def yRel (rs:List Reg) (n me:Nat):Prog Unit:=forP (fun (x:Int) (_:Unit)=>yLeave rs (yo n x.toNat) n me (x.toNat % 2)) (pathL n me).reverse ()
structure YAll (rs:List Reg) (n:Nat):Prop where
 len:rs.length=(2 ^ levels n-1)*(n+3)
 at_:∀ i,i<rs.length->∃ r,rs[i]?=some r/\r.ok/\r.n=n/\(∀ me,r.told me)/\0<cellsM r
theorem yo_le {n Y P:Nat}(h1:2<=Y)(h2:Y<2*P):yo n Y+(n+3)<=(P-1)*(n+3):=by
 unfold yo
 rw [<- Nat.succ_mul]
 exact Nat.mul_le_mul_right _ (by omega)
theorem YAll.node {rs:List Reg}{n Y:Nat}(h:YAll rs n)(h1:2<=Y)(h2:Y<2*2 ^ levels n):YRegs rs (yo n Y) n:=fun i hi=>by
 have:=yo_le (n:=n) h1 h2
 rw [<- h.len] at this
 exact h.at_ _ (by omega)
end Kv
namespace Go.Proofs.YtbphlkaihfbgeaaGreat
open Go.RowKit Kv
set_option maxRecDepth 100000 in
set_option maxHeartbeats 1000000 in
theorem ypart_p (b c n Y o len:Nat)(w:World)(h1:2<=Y)(hn:n<=8)(ho:yo n Y=o)(h2:o+(n+3)<=len)(h3:len<=c)(h4:c<=9223372036854775807)(h5:len<=1000000)(hY:Y<=1000) :
  Calls Tryz.prog 41 #[.slice (some ⟨b,0,none⟩) len c,.int .i64 n,.int .i64 ((Y / 2:Nat):Int)] w fun e w'=>∃ c',e=.returned (.slice (some ⟨b,o*7,none⟩) (n+3) c')/\w=w':=by
 obtain⟨k,hk⟩:∃ k,Y / 2=k+1:=⟨Y / 2-1,by omega⟩
 rw [hk]
 have ho2:k*(n+3)=o:=by rw [<- ho];unfold yo;rw [hk,Nat.add_sub_cancel]
 have hoI:(k:Int)*((n:Int)+3)=(o:Int):=by rw [<- ho2,Int.natCast_mul];rfl
 have w0:=IntWalk.i64_in ((n:Int)+3) (by omega)
 have w1:=IntWalk.i64_in (k:Int) (by omega)
 have w2:IntKind.i64.wrap ((k:Int)*((n:Int)+3))=(o:Int):=by rw [hoI,IntWalk.i64_in _ (by omega)]
 have w3:=IntWalk.i64_in ((o:Int)+((n:Int)+3)) (by omega)
 have d1:decide ((o:Int)<0)=false:=by rw [decide_eq_false_iff_not];omega
 have d2:decide ((len:Int)<(o:Int)+((n:Int)+3))=false:=by rw [decide_eq_false_iff_not];omega
 obtain⟨c,rfl⟩:∃ c',c=c'+o+1:=⟨c-o-1,by omega⟩
 have e1:(0:Int)<=(o:Int):=by omega
 have e2:(o:Int)<=(o:Int)+((n:Int)+3):=by omega
 have e3:(o:Int)+((n:Int)+3)<=(c:Int)+(o:Int)+1:=by omega
 have e4:(0:Int)<=(o:Int)+((n:Int)+3):=by omega
 have e5:((o:Int)+((n:Int)+3)).toNat=o+(n+3):=by omega
 clear ho ho2 hoI hk
 go_enter Tryz.func41,Tryz.ntmps41
 go_wp2_with fail
 go_ret
 exact⟨_,rfl,rfl⟩
theorem bind_ran {α β:Type}{T:Prog α}{g:α->Prog β}{S S1:TS}{v:α}(hr:T.run S=(some v,S1)):S1.left<=S.left:=by
 have:=Prog.run_left T S
 rw [hr] at this
 exact this
theorem yodd (Y:Nat):(if (Y:Int) % 2=0 then 0 else 1)=Y % 2:=by
 split <;> omega
set_option maxRecDepth 100000 in
set_option maxHeartbeats 2000000 in
theorem yacq_p (B p n me D:Nat)(S:TS)(rs:List Reg)(A:Option Addr)(c:Nat)(w:World)(h:Plays B w p S)(h1:1<=n)(hn:n<=8)(hme:me<n)(hall:YAll rs n)(hc1:rs.length<=c)(hc2:c<=9223372036854775807)
  (hreg:rs≠[]->∃ b,A=some ⟨b,0,none⟩/\RegsAt [2,3,4] w p b rs)(hta:TameA S)(hD:S.left<D) :
  Calls Tryz.prog 15 #[.pointer (some ⟨p,0,none⟩),.slice A rs.length c,.int .i64 n,.int .i64 me] w (Post encU B p w ((yAcq D rs n me).run S)):=by
 generalize hR:Post encU B p w ((yAcq D rs n me).run S)=R
 have hO:Owes R encU B p w ((yAcq D rs n me).run S):=hR▸owes _ _ _ _ _
 clear hR
 unfold yAcq at hO
 have hmem:=fun y (hy:y∈pathL n me)=>pathL_mem (show n<=64 by omega) hme hy
 have hPth:=fun w=>path_p n me w h1 (show n<=64 by omega) hme
 have hlv:levels n<=3:=by
  have:∀ n:Nat,n<9->levels n<=3:=by decide +kernel
  exact this n (by omega)
 have hlen:=hall.len
 have hnode:=fun Y (h1:2<=Y) (h2:Y<2*2 ^ levels n)=>hall.node h1 h2
 have hle:=fun Y (h1:2<=Y) (h2:Y<2*2 ^ levels n)=>yo_le (n:=n) h1 h2
 have hP8:1<=2 ^ levels n/\2 ^ levels n<=8:=by
  have:∀ k:Nat,k<4->1<=2 ^ k/\2 ^ k<=8:=by decide
  exact this _ (by omega)
 have e:(2:Int) ^ levels n=((2 ^ levels n:Nat):Int):=by rw [Int.natCast_pow];rfl
 rw [e] at hmem
 have hll:(pathL n me).length<=128:=by
  have:=pathN_len (2 ^ levels n+me) (2 ^ levels n+me)
  unfold pathL
  omega
 have hrl:rs.length<=77:=by
  rw [hlen]
  exact Nat.le_trans (Nat.mul_le_mul (show 2 ^ levels n-1<=7 by omega) (show n+3<=11 by omega)) (by decide)
 clear e hlv hall
 generalize 2 ^ levels n=P at *
 generalize pathL n me=l at *
 have hmemh:=Lib.hid hmem
 have hnodeh:=Lib.hid hnode
 have hleh:=Lib.hid hle
 have hlenh:=Lib.hid hlen
 have hOh:=Lib.hid hO
 clear hmem hnode hle hlen hO
 go_enter Tryz.func15,Tryz.ntmps15
 go_wp2_with fail
 refine (yfine_p n _ h1 hn).mono ?_
 rintro e w2 ⟨rfl,rfl⟩
 go_wp2_with fail
 refine (hPth _).mono ?_
 rintro e w3 ⟨v3,rfl,hrow,hx3⟩
 obtain⟨A3,c3,rfl,hR⟩:=RowH.of_row (p:=p) (ix:=[2,3,4]) hrow (fun b hb=>h.fresh hx3 hb)
 have hK:=Keep.of_ext (ix:=[2,3,4]) (B:=B) hx3 h.lt h.le
 have hreg3:rs≠[]->∃ b,A=some ⟨b,0,none⟩/\RegsAt [2,3,4] w3 p b rs:=fun hne=>by
  obtain⟨b,e1,e2⟩:=hreg hne
  exact⟨b,e1,e2.extL hx3 h.lt⟩
 have hP:=h.ext hx3
 clear hreg hx3 hrow hPth h
 by_cases hl0:l=[]
 · subst hl0
   have hf:=hOh.out.done (v:=()) hP hK
   clear hOh hmemh hR hreg3 hlenh
   go_wp2_with fail
   go_loopw [17] (fun i wr=>i=.int .i64 0/\w3=wr) (fun _ _=>0)
   case atStart=>exact⟨rfl,rfl⟩
   case round =>
    obtain⟨rfl,rfl⟩:=hrel
    go_wp2_with fail
    first | exact hf | (refine bodyPost_ret (results_none rfl _ _ _) rfl ?_;exact hf)
 obtain⟨g,cur,rfl,hg,hcur⟩:=hR hl0
 obtain⟨b,rfl,hl⟩:=hreg3 (by
  obtain⟨y,l',rfl⟩:∃ y l',l=y :: l':=by cases l with | nil=>exact absurd rfl hl0 | cons y l'=>exact⟨y,l',rfl⟩
  have h1:=hmemh.out y (List.mem_cons_self ..)
  have h2:=hlenh.out
  have h3:=hleh.out y.toNat (by omega) (by omega)
  intro hne
  rw [hne,List.length_nil] at h2
  omega)
 have hch:=Lib.hid hcur
 clear hreg3 hR hl0 hcur
 go_wp2_with fail
 go_loopw [9,17] (fun _ i wr=>∃ (j:Nat) (S2:TS),i=.int .i64 j/\j<=l.length/\Plays B wr p S2/\KeepP B p w wr/\HeldP wr p g (.cells cur 3)/\RegsAt [2,3,4] wr p b rs/\S2.left<D/\Hid (TameA S2)/\Hid (Owes R encU B p w ((forP (fun (x:Int) (_:Unit)=>yEnter D rs (yo n x.toNat) n me (x.toNat % 2)) (l.drop j) ()).run S2))) (fun _ i _=>l.length-(intOf i).toNat)
 case atStart=>exact⟨0,S,rfl,by omega,hP,hK,hg,hl,hD,Lib.hid hta,hOh⟩
 case round =>
  clear hP hK hg hl hD hOh hta
  obtain⟨j,S2,rfl,hj,hP,hK,hg,hl,hD,hta,hOh⟩:=hrel
  by_cases hjl:j<l.length
  · obtain⟨y,hy⟩:∃ y,l[j]?=some y:=⟨_,List.getElem?_eq_getElem hjl⟩
    have hym:=hmemh.out y (List.mem_of_getElem? hy)
    obtain⟨Y,rfl⟩:∃ Y:Nat,y=(Y:Int):=⟨y.toNat,by omega⟩
    have c_g:=hg.at_ hch.out hy
    have hO:=hOh.out
    rw [List.drop_eq_getElem_cons hjl,show l[j]=(Y:Int) from by rw [List.getElem?_eq_getElem hjl] at hy;exact Option.some.inj hy] at hO
    have hOk:Hid (Owes R encU B p w (((yEnter D rs (yo n Y) n me (Y % 2)).bind fun _=>forP (fun (x:Int) (_:Unit)=>yEnter D rs (yo n x.toNat) n me (x.toNat % 2)) (l.drop (j+1)) ()).run S2)):=Lib.hid hO
    clear hO hOh hy
    have hY2:2<=Y:=by omega
    have hYP:Y<2*P:=by omega
    obtain⟨o,ho⟩:∃ o,yo n Y=o:=⟨_,rfl⟩
    have hol:o+(n+3)<=rs.length:=by
     have:=hleh.out Y hY2 hYP
     rw [<- hlenh.out,ho] at this
     exact this
    have hnd:=Lib.hid (hnodeh.out Y hY2 hYP)
    rw [ho] at hnd hOk
    have hpr:=fun w=>ypart_p b c n Y o rs.length w hY2 hn ho hol hc1 hc2 (by omega) (by omega)
    have hq1:IntKind.i64.wrap ((Y:Int) / 2)=((Y / 2:Nat):Int):=by rw [IntWalk.i64_in _ (by omega)];omega
    have hq2:(Y:Int).tmod 2=(Y:Int) % 2:=Int.tmod_eq_emod_of_nonneg (by omega)
    clear ho hol
    go_wp2_with fail
    refine (hpr _).mono ?_
    rintro e w4 ⟨c',rfl,rfl⟩
    clear hpr c_g
    go_wp2_with fail
    refine tstep hOk.out hK (yenter_p B p n me (Y % 2) D o _ S2 rs b c' _ hP hl hnd.out h1 hn hme (yodd Y) hta.out hD) (fun _ h=>⟨rfl,h⟩) ?_
    clear hK hP hOk
    intro u S3 w5 hr hP hk1 hK hO
    replace hD:=Nat.lt_of_le_of_lt (bind_ran (g:=fun u=>Prog.ret u) hr) hD
    replace hta:=Lib.hid (hta.out.run hr)
    replace hg:=hg.keep hk1
    replace hl:=hl.keep hk1
    clear hk1 hr hnd
    have hf:=Lib.hid hO
    clear hO
    go_wp2_with fail
    refine⟨⟨j+1,S3,by go_num,by omega,hP,hK,hg,hl,hD,hta,hf⟩,?_⟩
    simp [intOf];omega
  · obtain rfl:j=l.length:=by omega
    have hO:=hOh.out
    rw [List.drop_length] at hO
    have hf:=hO.done (v:=()) hP hK
    clear hO hOh hP hK hl hg
    go_wp2_with fail
    first | exact hf | (refine bodyPost_ret (results_none rfl _ _ _) rfl ?_;exact hf)
end Go.Proofs.YtbphlkaihfbgeaaGreat
namespace Kv
def downFrom:Nat->List Int
 | 0=>[]
 | k+1=>(k:Int) :: downFrom k
theorem downFrom_mem:∀ (k:Nat) (y:Int),y∈downFrom k->0<=y/\y<k
 | 0,_,h=>by cases h
 | k+1,y,h=>by
   rcases List.mem_cons.1 (show y∈(k:Int) :: downFrom k from h) with rfl | h
   · omega
   · have:=downFrom_mem k y h
     omega
theorem forP_down {σ:Type}(T:Int->σ->Prog σ)(l:List Int):∀ (k:Nat) (x:σ),k<=l.length->forP (fun i s=>T (l.getD i.toNat 0) s) (downFrom k) x=forP T (l.take k).reverse x
 | 0,_,_=>by simp [downFrom,forP]
 | k+1,x,h=>by
   have e:(l.take (k+1)).reverse=l.getD k 0 :: (l.take k).reverse:=by
    rw [List.take_add_one,List.getElem?_eq_getElem (show k<l.length by omega)]
    simp [List.getD_eq_getElem?_getD,List.getElem?_eq_getElem (show k<l.length by omega)]
   rw [e]
   show ((T (l.getD (k:Int).toNat 0) x).bind fun y=>forP (fun i s=>T (l.getD i.toNat 0) s) (downFrom k) y)=(T (l.getD k 0) x).bind fun y=>forP T (l.take k).reverse y
   rw [Int.toNat_natCast]
   congr 1
   funext y
   exact forP_down T l k y (by omega)
end Kv
namespace Go.Proofs.YtbphlkaihfbgeaaGreat
open Go.RowKit Kv
attribute [local go_sem] Oper.semAt_some
def Gives2 (P:Program) (gf:Nat) (lb:Array Value) (fv:Int->Int) (xs:List Int) (Ok:World->Prop):Prop :=
 ∀ (l:Nat) (J:List Int->World->Prop) (Jp:List PanicEntry->World->Prop) (W:World),(∀ ys W',J ys W'->Ok W') ->
  (∀ y ys W',J (y :: ys) W'->YieldAt Fence.wide 0 P l #[.int .i64 y,.int .i64 (fv y)] W' fun e W2=>(e=.returned (.bool true)/\J ys W2)∨(∃ c,e=.panicked c/\Jp c W2)) ->
  J xs W->CallsIn Fence.wide 0 P gf (#[.func (.yield l) #[] #[]]++lb) W fun e W'=>(∃ v,e=.returned v/\J [] W')∨(∃ c,e=.panicked c/\Jp c W')
set_option maxHeartbeats 1000000 in
set_option maxRecDepth 100000 in
theorem back_gives (l:List Int)(A:Option Addr)(c bs:Nat)(hll:l.length<=1000000) :
  Gives2 Tryz.prog 61 #[.pointer (some ⟨bs,0,none⟩)] (fun i=>l.getD i.toNat 0) (downFrom l.length) (fun W=>W.cell? ⟨bs,0,none⟩=some (.slice A l.length c)/\(l≠[]->∃ g,A=some ⟨g,0,none⟩/\∀ (i:Nat) y,l[i]?=some y->W.cell? ⟨g,i,none⟩=some (.int .i64 y))):=by
 intro lp J Jp W hOk hY h0
 show CallsIn Fence.wide 0 Tryz.prog 61 #[.func (.yield lp) #[] #[],.pointer (some ⟨bs,0,none⟩)] W _
 have c0:=(hOk _ _ h0).1
 have hw0:=IntWalk.i64_in ((l.length:Int)-1) (by omega)
 refine callsIn_of_wp Tryz.func61 rfl trivial ?_ rfl
 simp only [Tryz.ntmps61,List.size_toArray,List.length_cons,List.length_nil,Nat.reduceAdd,Nat.reduceSub,Array.replicate_succ,Array.replicate_zero,List.push_toArray,List.append_toArray,List.nil_append,List.cons_append]
 gi_wp2
 gi_loopw [3] (fun q wr=>∃ k:Nat,q=.int .i64 ((k:Int)-1)/\k<=l.length/\J (downFrom k) wr) (fun q _=>(intOf q+1).toNat)
 case atStart=>exact⟨l.length,rfl,by omega,h0⟩
 case round =>
  obtain⟨k,rfl,hk,hJ⟩:=hrel
  cases k with
  | zero =>
    have dk:decide ((0:Int)<=((0:Nat):Int)-1)=false:=by decide
    have hJh:J [] wr:=hJ
    clear hY h0 hOk hJ
    gi_wp2_with fail
    first | go_end0 | refine bodyPost_ret (results_none rfl _ _ _) rfl ?_
    exact .inl ⟨_,rfl,hJh⟩
  | succ k =>
    have hkl:k<l.length:=by omega
    have hkI:(((k+1:Nat):Int)-1)=(k:Int):=by omega
    rw [hkI]
    have dk:decide ((0:Int)<=(k:Int))=true:=by rw [decide_eq_true_eq];omega
    obtain⟨y,hy⟩:∃ y,l[k]?=some y:=⟨_,List.getElem?_eq_getElem hkl⟩
    have c1:=(hOk _ _ hJ).1
    obtain⟨g,rfl,hg⟩:=(hOk _ _ hJ).2 (by rintro rfl;simp at hkl)
    have c2:=hg k y hy
    have hfy:l.getD (k:Int).toNat 0=y:=by rw [Int.toNat_natCast,List.getD_eq_getElem?_getD,hy];rfl
    obtain⟨fn,tmps,assign,body,hyy,hR⟩:=hY _ _ _ (show J ((k:Int) :: downFrom k) wr from hJ)
    rw [hfy] at hyy
    have hk0:(0:Int)<=(k:Int):=by omega
    have hkI2:(k:Int)<(l.length:Int):=by omega
    have hw1:=IntWalk.i64_in ((k:Int)-1) (by omega)
    clear hJ hY h0 hOk hg hfy hy hkI
    gi_wp2_with fail
    refine⟨rfl,hR.mono ?_⟩
    rintro e W3 (⟨rfl,hJ3⟩ | ⟨c,rfl,hJ3⟩)
    · gi_wp2_with fail
      exact⟨⟨k,by first | rfl | go_num,by omega,hJ3⟩,by simp [intOf]⟩
    · exact⟨rfl,.inr ⟨c,rfl,hJ3⟩⟩
theorem tape_range2 {σ α:Type}{P:Program}{f gf:FuncId}{fn:Func}{lb:Array Value}{g:Operand}{ps:Array Tmp}{assign body:Code}{Q:Exit->Act->World->Prop}{tmps:Array Value}{w:World}
  {B p:Nat}{w0:World}{S:TS}{R:Ending->World->Prop}{enc:α->Value}{T:Int->σ->Prog σ}{fin:σ->Prog α}{xs:List Int}{fv:Int->Int}{Inv:TS->Prop}{x:σ}{Ok:World->Prop}{ds:List Deferred}
  (hf:P.funcs[f]?=some fn)(hg:({ tmps:=tmps,defers:=ds }:Act).eval g=.func (.func gf) #[] lb)(eg:∀ args w,(callFunc gf args).run P w=.ok (.enter gf args) w)(hps:ps.size=2)(hG:Gives2 P gf lb fv xs Ok)
  (X:Nat->Prop)(Js:σ->World->Prop)(hX:∀ b,X b->w.heap.size > b/\w0.heap.size<=b)(hB:B<=w.heap.size)
  (hOk:∀ W,KeepX X [2,3,4] B p w W->Ok W)(hJa:∀ x W o,p<W.heap.size->Js x W->Js x (W.alloc o))(hJp:∀ x W l o,w.heap.size<=l->¬ ownR [2,3,4] W p l->Js x W->Js x (W.putObj l o))
  (hO:Owes R enc B p w0 (((forP T xs x).bind fin).run S))(_hK:KeepP B p w0 w)(hP:Plays B w p S)(hJ:Js x w)(hI0:Inv S)(hIr:∀ y x S x' S',(T y x).run S=(some x',S')->Inv S->Inv S')
  (a₁:Int->Act)
  (hassign:∀ (l:Nat) (y:Int) (W:World) (K:Act->World->Prop),K (a₁ y) W->assign.wpIn (Fence.wide.inRound l) 0 P (Exit.then K (fun _ _ _=>False)) { tmps:=(ps.zip #[.int .i64 y,.int .i64 (fv y)]).foldl (fun t (p,v)=>t.setIfInBounds p v) tmps,defers:=[] } W)
  (hbody:∀ (l:Nat) (y:Int) (x:σ) (S:TS) (W:World),y∈xs->Inv S->Plays B W p S->KeepX X [2,3,4] B p w W->Js x W->body.wpIn (Fence.wide.inRound l) 0 P (roundQ X B p Js ((T y x).run S) W) (a₁ y) W)
  (hdone:∀ x S W,Owes R enc B p w0 ((fin x).run S)->KeepX X [2,3,4] B p w W->Plays B W p S->Js x W->HeldP W p w.heap.size (.deferred (some []))->Q .normal { tmps:=tmps,defers:={ target:=.collected w.heap.size,args:=#[] } :: ds } W)
  (hpan:∀ S W c,stopE p=.panicked c->Owes R enc B p w0 (none,S)->KeepX X [2,3,4] B p w W->Stops B W p S->HeldP W p w.heap.size (.deferred (some []))->Q (.panic c) { tmps:=tmps,defers:={ target:=.collected w.heap.size,args:=#[] } :: ds } W) :
  WpF P f (Code.rangeFunc g ps assign body) Q { tmps:=tmps,defers:=ds } w:=by
 obtain⟨rec,hrec⟩:∃ rec:LoopState->Loop,rec=fun st=>{ state:=st,pending:=none,fn:=f,tmps:=tmps,params:=ps,assign,body,defers:=w.heap.size }:=⟨_,rfl⟩
 obtain⟨W1,hW1⟩:∃ W1,(w.alloc (.deferred (some []))).alloc (.loop (rec .ready))=W1:=⟨_,rfl⟩
 have hlt:=hP.lt
 have hP1:Plays B W1 p S:=by rw [<- hW1];exact (hP.alloc _).alloc _
 have hD1:HeldP W1 p w.heap.size (.deferred (some [])):=by
  rw [<- hW1];exact Held.alloc (hP.held _) _ (hP.alloc _).lt
 have hL1:HeldP W1 p (w.heap.size+1) (.loop (rec .ready)):=by
  rw [<- hW1];have:=(hP.alloc (.deferred (some []))).held (.loop (rec .ready));rwa [World.size_alloc] at this
 have hJ1:Js x W1:=by rw [<- hW1];exact hJa _ _ _ (hP.alloc _).lt (hJa _ _ _ hlt hJ)
 have hX1:KeepX X [2,3,4] B p w W1:=by
  rw [<- hW1];exact (Keep.trans (Keep.alloc _ hlt hB) (Keep.alloc _ (hP.alloc _).lt (hP.alloc _).le)).x X
 refine wpF_range ⟨w.heap.size+1,[{ target:=.collected w.heap.size,args:=#[] }],W1,{ target:=.fn (.func gf) lb,args:=#[.func (.yield (w.heap.size+1)) #[] #[]] },W1,gf,
  #[.func (.yield (w.heap.size+1)) #[] #[]]++lb,W1,?_,?_,?_,?_⟩
 · rw [<- hW1,hrec];exact run_enterLoop_outer _ _ _ _ _
 · simp only [resolve,hg]
   simp [go_sem]
 · simp [invoke,go_sem,eg]
 · refine (hG (w.heap.size+1)
    (fun ys W=>(∀ y∈ys,y∈xs)/\HeldP W p (w.heap.size+1) (.loop (rec .ready))/\HeldP W p w.heap.size (.deferred (some []))/\KeepX X [2,3,4] B p w W/\∃ x S,Owes R enc B p w0 (((forP T ys x).bind fin).run S)/\Plays B W p S/\Js x W/\Inv S)
    (fun c W=>stopE p=.panicked c/\HeldP W p w.heap.size (.deferred (some []))/\KeepX X [2,3,4] B p w W/\∃ S,Owes R enc B p w0 (none,S)/\Stops B W p S)
    W1 (fun ys W h=>hOk W h.2.2.2.1) ?_ ⟨fun _ h=>h,hL1,hD1,hX1,x,S,hO,hP1,hJ1,hI0⟩).mono ?_
   · rintro y ys W ⟨hys,hl,hd,hk,x,S,ho,hpl,hj,hI⟩
     have hy:=run_yield (P:=P) (args:=#[.int .i64 y,.int .i64 (fv y)]) hl.1 (by rw [hrec];exact hps.symm)
     rw [hrec] at hy
     refine⟨f,_,assign,body,hy,roundIn_p hf (hassign _ y W _ ⟨_,run_beginRound hl.1 (by rw [hrec]),?_⟩)⟩
     have hBl:B<=w.heap.size+1:=by omega
     have hl2:HeldP (W.putObj (w.heap.size+1) (.loop { rec .ready with state:=.busy })) p (w.heap.size+1) (.loop { rec .ready with state:=.busy }):=hl.put_same
     have hd2:HeldP (W.putObj (w.heap.size+1) (.loop { rec .ready with state:=.busy })) p w.heap.size (.deferred (some [])):=hd.put (by omega) hl.2
     have hk2:=hk.put (o:=.loop { rec .ready with state:=.busy }) (Nat.le_succ w.heap.size) hl.2 hB
     have hpl2:=hpl.put (.loop { rec .ready with state:=.busy }) hl.2 hBl
     have hj2:=hJp x W (w.heap.size+1) (.loop { rec .ready with state:=.busy }) (Nat.le_succ _) hl.2 hj
     generalize W.putObj (w.heap.size+1) (.loop { rec .ready with state:=.busy })=W2 at *
     have hnX:∀ b,w.heap.size<=b->¬ X b:=fun b hb hx=>by have:=(hX b hx).1;omega
     refine wpIn_mono (hbody _ y x S W2 (hys y (by simp)) hI hpl2 hk2 hj2) ?_
     rintro e a3 W3 hq
     cases e with
     | normal =>
       obtain⟨x',S',hr,hp3,hk3,hj3⟩:=hq
       have hl3:=KeepX.held hl2 hk3 (hnX _ (Nat.le_succ _))
       have hd3:=KeepX.held hd2 hk3 (hnX _ (Nat.le_refl _))
       have hend:=run_endRound (P:=P) none hl3.1
       refine⟨_,_,hend,.inl ⟨rfl,fun z hz=>hys z (by simp [hz]),?_,?_,?_,x',S',?_,?_,?_,hIr _ _ _ _ _ hr hI⟩⟩
       · have:=hl3.put_same (o':=.loop (rec .ready))
         rw [hrec] at this ⊢
         exact this
       · exact hd3.put (by omega) hl3.2
       · exact (hk2.trans hk3).put (Nat.le_succ _) hl3.2 hB
       · have e:((forP T (y :: ys) x).bind fin)=(T y x).bind fun z=>(forP T ys z).bind fin:=by
          simp only [forP];rw [Prog.bind_assoc]
         rw [e,Prog.run_bind_some hr] at ho
         exact ho
       · exact hp3.put _ hl3.2 hBl
       · exact hJp _ _ _ _ (Nat.le_succ _) hl3.2 hj3
     | panic c =>
       obtain⟨hdf,hc,S',hr,hp3,hk3⟩:=hq
       refine⟨hdf,.inr ⟨c,rfl,hc,KeepX.held hd2 hk3 (hnX _ (Nat.le_refl _)),hk2.trans hk3,S',?_,hp3⟩⟩
       have e:((forP T (y :: ys) x).bind fin)=(T y x).bind fun z=>(forP T ys z).bind fin:=by
        simp only [forP];rw [Prog.bind_assoc]
       rw [e,Prog.run_bind_none hr] at ho
       exact ho
     | exit id=>exact hq.elim
     | goto t=>exact hq.elim
     | ret=>exact hq.elim
     | outgrown=>exact hq.elim
   · rintro e W2 (⟨v,rfl,_,hl,hd,hk,x,S,ho,hpl,hj,_⟩ | ⟨c,rfl,hc,hd,hk,S,ho,hst⟩)
     · have hend:=run_endLoop (P:=P) hl.1 (by rw [hrec];simp)
       refine⟨_,by rw [hrec] at hend;exact hend,?_⟩
       refine hdone x S _ ho ?_ ?_ ?_ ?_
       · rw [hrec] at hl;exact hk.put (Nat.le_succ _) hl.2 hB
       · exact hpl.put _ hl.2 (by omega)
       · exact hJp _ _ _ _ (Nat.le_succ _) hl.2 hj
       · exact hd.put (by omega) hl.2
     · exact hpan S W2 c hc ho hk hst hd
end Go.Proofs.YtbphlkaihfbgeaaGreat
namespace Go.Proofs.YtbphlkaihfbgeaaGreat
open Go.RowKit Kv
attribute [local go_sem] Oper.semAt_some
theorem back_p (A:Option Addr)(len c:Nat)(w:World):Calls Tryz.prog 43 #[.slice A len c] w fun e w'=>e=.returned (.func (.func 61) #[] #[.pointer (some ⟨w.heap.size,0,none⟩)])/\w'=w.alloc (.cells #[.slice A len c] 22):=by
 go_enter Tryz.func43,Tryz.ntmps43
 go_wp2_with fail
 go_ret
 exact⟨rfl,rfl⟩
theorem RegsAt.keepX {X:Nat->Prop}{ix:List Nat}{B p b:Nat}{w w':World}{l:List Reg}(h:RegsAt ix w p b l)(k:KeepX X ix B p w w')(hx:¬ X b):RegsAt ix w' p b l:=by
 obtain⟨h1,h2⟩:=k.rest b h.lt h.own hx
 exact⟨Nat.lt_of_lt_of_le h.lt k.below.size,h2,fun j u hu=>(World.cell?_of_block (w:=w) (a:=⟨b,j,none⟩) h1).trans (h.cells j u hu)⟩
set_option maxRecDepth 100000 in
set_option maxHeartbeats 4000000 in
theorem yrel_p (B p n me D:Nat)(S:TS)(rs:List Reg)(A:Option Addr)(c:Nat)(w:World)(h:Plays B w p S)(h1:1<=n)(hn:n<=8)(hme:me<n)(hall:YAll rs n)(hc1:rs.length<=c)(hc2:c<=9223372036854775807)
  (hreg:rs≠[]->∃ b,A=some ⟨b,0,none⟩/\RegsAt [2,3,4] w p b rs)(hta:TameA S)(hD:S.left<D) :
  Calls Tryz.prog 19 #[.pointer (some ⟨p,0,none⟩),.slice A rs.length c,.int .i64 n,.int .i64 me] w (Post encU B p w ((yRel rs n me).run S)):=by
 generalize hR:Post encU B p w ((yRel rs n me).run S)=R
 have hO:Owes R encU B p w ((yRel rs n me).run S):=hR▸owes _ _ _ _ _
 clear hR
 have hmem:=fun y (hy:y∈pathL n me)=>pathL_mem (show n<=64 by omega) hme hy
 have hPth:=fun w=>path_p n me w h1 (show n<=64 by omega) hme
 have hlv:levels n<=3:=by
  have:∀ n:Nat,n<9->levels n<=3:=by decide +kernel
  exact this n (by omega)
 have hlen:=hall.len
 have hnode:=fun Y (h1:2<=Y) (h2:Y<2*2 ^ levels n)=>hall.node h1 h2
 have hle:=fun Y (h1:2<=Y) (h2:Y<2*2 ^ levels n)=>yo_le (n:=n) h1 h2
 have hP8:1<=2 ^ levels n/\2 ^ levels n<=8:=by
  have:∀ k:Nat,k<4->1<=2 ^ k/\2 ^ k<=8:=by decide
  exact this _ (by omega)
 have e:(2:Int) ^ levels n=((2 ^ levels n:Nat):Int):=by rw [Int.natCast_pow];rfl
 rw [e] at hmem
 have hll:(pathL n me).length<=128:=by
  have:=pathN_len (2 ^ levels n+me) (2 ^ levels n+me)
  unfold pathL
  omega
 have hrl:rs.length<=77:=by
  rw [hlen]
  exact Nat.le_trans (Nat.mul_le_mul (show 2 ^ levels n-1<=7 by omega) (show n+3<=11 by omega)) (by decide)
 have hfd:forP (fun (i:Int) (_:Unit)=>yLeave rs (yo n ((pathL n me).getD i.toNat 0).toNat) n me (((pathL n me).getD i.toNat 0).toNat % 2)) (downFrom (pathL n me).length) ()=yRel rs n me:=by
  have:=forP_down (fun (x:Int) (_:Unit)=>yLeave rs (yo n x.toNat) n me (x.toNat % 2)) (pathL n me) _ () (Nat.le_refl _)
  rw [List.take_length] at this
  exact this
 have hO2:Owes R encU B p w (((forP (fun (i:Int) (_:Unit)=>yLeave rs (yo n ((pathL n me).getD i.toNat 0).toNat) n me (((pathL n me).getD i.toNat 0).toNat % 2)) (downFrom (pathL n me).length) ()).bind fun u=>Prog.ret u).run S):=by
  rw [Prog.bind_id,hfd]
  exact hO
 clear hfd
 clear e hlv hall hO
 generalize 2 ^ levels n=P at *
 generalize pathL n me=l at *
 have hmemh:=Lib.hid hmem
 have hnodeh:=Lib.hid hnode
 have hleh:=Lib.hid hle
 have hlenh:=Lib.hid hlen
 have hOh:=Lib.hid hO2
 clear hmem hnode hle hlen hO2
 have hK:=Keep.refl [2,3,4] B p w
 have hP:=h
 have b1:=hP.held (.cells #[.pointer (some ⟨p,0,none⟩)] 39)
 replace hK:=hK.trans (Keep.alloc (.cells #[.pointer (some ⟨p,0,none⟩)] 39) hP.lt hP.le)
 replace hP:=hP.alloc (.cells #[.pointer (some ⟨p,0,none⟩)] 39)
 have b2:=hP.held (.cells #[.slice A rs.length c] 29)
 simp only [World.size_alloc] at b2
 replace b1:=b1.alloc (.cells #[.slice A rs.length c] 29) hP.lt
 replace hK:=hK.trans (Keep.alloc (.cells #[.slice A rs.length c] 29) hP.lt hP.le)
 replace hP:=hP.alloc (.cells #[.slice A rs.length c] 29)
 have b3:=hP.held (.cells #[.int .i64 n] 3)
 simp only [World.size_alloc] at b3
 replace b1:=b1.alloc (.cells #[.int .i64 n] 3) hP.lt
 replace b2:=b2.alloc (.cells #[.int .i64 n] 3) hP.lt
 replace hK:=hK.trans (Keep.alloc (.cells #[.int .i64 n] 3) hP.lt hP.le)
 replace hP:=hP.alloc (.cells #[.int .i64 n] 3)
 have b4:=hP.held (.cells #[.int .i64 me] 3)
 simp only [World.size_alloc] at b4
 replace b1:=b1.alloc (.cells #[.int .i64 me] 3) hP.lt
 replace b2:=b2.alloc (.cells #[.int .i64 me] 3) hP.lt
 replace b3:=b3.alloc (.cells #[.int .i64 me] 3) hP.lt
 replace hK:=hK.trans (Keep.alloc (.cells #[.int .i64 me] 3) hP.lt hP.le)
 replace hP:=hP.alloc (.cells #[.int .i64 me] 3)
 have c_b1:=b1.cells
 have c_b2:=b2.cells
 have c_b3:=b3.cells
 have c_b4:=b4.cells
 have hBw:=Lib.hid h.le
 have hreg2:rs≠[]->∃ b,A=some ⟨b,0,none⟩/\RegsAt [2,3,4] ((((w.alloc (.cells #[.pointer (some ⟨p,0,none⟩)] 39)).alloc (.cells #[.slice A rs.length c] 29)).alloc (.cells #[.int .i64 n] 3)).alloc (.cells #[.int .i64 me] 3)) p b rs:=fun hne=>by
  obtain⟨b,e1,e2⟩:=hreg hne
  exact⟨b,e1,e2.extL (((((Ext.refl w).alloc _).alloc _).alloc _).alloc _) h.lt⟩
 clear h hreg
 refine calls_of_wpF Tryz.func19 rfl ?_
 simp only [Tryz.ntmps19,List.size_toArray,List.length_cons,List.length_nil,Nat.reduceAdd,Nat.reduceSub,Array.replicate_succ,Array.replicate_zero,List.push_toArray,List.append_toArray,List.nil_append,List.cons_append]
 refine wpF_step fun K hK2=>?_
 go_wp2_with fail
 refine wpF_step fun K hK2=>?_
 generalize World.alloc (World.alloc (World.alloc (World.alloc w _) _) _) _=W1 at *
 go_wp2_with fail
 refine (yfine_p n _ h1 hn).mono ?_
 rintro e w2 ⟨rfl,rfl⟩
 go_wp2_with fail
 refine wpF_step fun K hK2=>?_
 go_wp2_with fail
 refine (hPth _).mono ?_
 rintro e w3 ⟨v3,rfl,hrow,hx3⟩
 obtain⟨A3,c3,rfl,hR⟩:=RowH.of_row (p:=p) (ix:=[2,3,4]) hrow (fun b hb=>hP.fresh hx3 hb)
 replace hK:=hK.trans (Keep.of_ext hx3 hP.lt hP.le)
 replace b1:=b1.ext hx3 hP.lt
 replace b2:=b2.ext hx3 hP.lt
 replace b3:=b3.ext hx3 hP.lt
 replace b4:=b4.ext hx3 hP.lt
 have hreg3:rs≠[]->∃ b,A=some ⟨b,0,none⟩/\RegsAt [2,3,4] w3 p b rs:=fun hne=>by
  obtain⟨b,e1,e2⟩:=hreg2 hne
  exact⟨b,e1,e2.extL hx3 hP.lt⟩
 replace hP:=hP.ext hx3
 clear hreg2 hx3 hrow hPth c_b1 c_b2 c_b3 c_b4
 go_wp2_with fail
 refine (back_p _ _ _ _).mono ?_
 rintro e w4 ⟨rfl,rfl⟩
 have bz:=hP.held (.cells #[.slice A3 l.length c3] 22)
 have xz:=(Ext.refl w3).alloc (.cells #[.slice A3 l.length c3] 22)
 have hR4:l≠[]->∃ g cur,A3=some ⟨g,0,none⟩/\HeldP (w3.alloc (.cells #[.slice A3 l.length c3] 22)) p g (.cells cur 3)/\∀ (i:Nat) y,l[i]?=some y->cur[i]?=some (.int .i64 y):=fun hne=>by
  obtain⟨g,cur,e1,e2,e3⟩:=hR hne
  exact⟨g,cur,e1,e2.ext xz hP.lt,e3⟩
 have hreg4:rs≠[]->∃ b,A=some ⟨b,0,none⟩/\RegsAt [2,3,4] (w3.alloc (.cells #[.slice A3 l.length c3] 22)) p b rs:=fun hne=>by
  obtain⟨b,e1,e2⟩:=hreg3 hne
  exact⟨b,e1,e2.extL xz hP.lt⟩
 replace b1:=b1.ext xz hP.lt
 replace b2:=b2.ext xz hP.lt
 replace b3:=b3.ext xz hP.lt
 replace b4:=b4.ext xz hP.lt
 replace hK:=hK.trans (Keep.of_ext xz hP.lt hP.le)
 replace hP:=hP.ext xz
 clear xz hR hreg3
 generalize w3.heap.size=z at *
 generalize World.alloc w3 _=W0 at *
 go_wp2_with fail
 have hsz:=Lib.hid hK.size
 have hO:=hOh.out
 refine wpF_block ?_
 refine' tape_range2 (Inv:=TameA) (T:=fun i _=>yLeave rs (yo n (l.getD i.toNat 0).toNat) n me ((l.getD i.toNat 0).toNat % 2)) (fin:=fun u=>Prog.ret u) (xs:=downFrom l.length) (x:=()) Tryz.func19 rfl (enters_of Tryz.func61 (by kernel_rfl) rfl) rfl (back_gives l A3 c3 z (by omega))
  (fun _=>False) (fun _ _=>True) (fun _ h=>h.elim) hP.le (fun W hX=>⟨(KeepX.held bz hX id).cells 0,fun hne=>?gives⟩) (fun _ _ _ _ h=>h) (fun _ _ _ _ _ _ h=>h) hO hK hP trivial hta (fun _ _ _ _ _ hr h=>h.run hr)
  _ ?assign ?body ?done ?pan
 case gives =>
  obtain⟨g,cur,e1,e2,e3⟩:=hR4 hne
  exact⟨g,e1,fun i y hy=>by rw [(KeepX.held e2 hX id).cells i];exact e3 i y hy⟩
 case assign =>
  intro lp y W K hK
  gi_wp2
  exact hK
 case body =>
  intro lp i u S W hi hta hPl hX _
  have hib:=downFrom_mem _ _ hi
  obtain⟨k,rfl⟩:∃ k:Nat,i=(k:Int):=⟨i.toNat,by omega⟩
  have hkl:k<l.length:=by omega
  obtain⟨y,hy⟩:∃ y,l[k]?=some y:=⟨_,List.getElem?_eq_getElem hkl⟩
  have hym:=hmemh.out y (List.mem_of_getElem? hy)
  obtain⟨Y,rfl⟩:∃ Y:Nat,y=(Y:Int):=⟨y.toNat,by omega⟩
  have hYe:l[(k:Int).toNat]?.getD 0=(Y:Int):=by rw [Int.toNat_natCast,hy];rfl
  rw [List.getD_eq_getElem?_getD,hYe,Int.toNat_natCast]
  have hY2:2<=Y:=by omega
  have hYP:Y<2*P:=by omega
  obtain⟨o,ho⟩:∃ o,yo n Y=o:=⟨_,rfl⟩
  have hol:o+(n+3)<=rs.length:=by
   have:=hleh.out Y hY2 hYP
   rw [<- hlenh.out,ho] at this
   exact this
  have hnd:=Lib.hid (hnodeh.out Y hY2 hYP)
  rw [ho] at hnd ⊢
  obtain⟨b,rfl,hl0⟩:=hreg4 (by
   intro hne
   rw [hne,List.length_nil] at hol
   omega)
  have hl:=RegsAt.keepX hl0 hX id
  have hpr:=fun w=>ypart_p b c n Y o rs.length w hY2 hn ho hol hc1 hc2 (by omega) (by omega)
  have hq1:IntKind.i64.wrap ((Y:Int) / 2)=((Y / 2:Nat):Int):=by rw [IntWalk.i64_in _ (by omega)];omega
  have hq2:(Y:Int).tmod 2=(Y:Int) % 2:=Int.tmod_eq_emod_of_nonneg (by omega)
  have c1:=KeepX.held b1 hX id
  have c2:=KeepX.held b2 hX id
  have c3':=KeepX.held b3 hX id
  have c4:=KeepX.held b4 hX id
  have hO:=owes encU B p W ((yLeave rs o n me (Y % 2)).run S)
  have hK:=Keep.refl [2,3,4] B p W
  have hP:=hPl
  have hl2:=hl.extL (Ext.refl W).drew hPl.lt
  clear hPl hX b1 b2 b3 b4 bz hR4 hreg4 hl0 hl hYe hy hib hi hOh ho hol
  have c_c1:=c1.cells
  have c_c2:=c2.cells
  have c_c3':=c3'.cells
  have c_c4:=c4.cells
  refine wpIn_block ?_
  replace hP:=hP.drew
  replace hK:=hK.drew
  replace c1:=c1.drew
  replace c2:=c2.drew
  replace c3':=c3'.drew
  replace c4:=c4.drew
  refine wpIn_region_held (S:=fun W'=>(∀ i:Nat,W'.cell? ⟨w.heap.size,i,none⟩=(#[.pointer (some ⟨p,0,none⟩)]:Array Value)[i]?)/\(∀ i:Nat,W'.cell? ⟨w.heap.size+1,i,none⟩=(#[.slice (some ⟨b,0,none⟩) rs.length c]:Array Value)[i]?)/\(∀ i:Nat,W'.cell? ⟨w.heap.size+1+1,i,none⟩=(#[.int .i64 n]:Array Value)[i]?)/\(∀ i:Nat,W'.cell? ⟨w.heap.size+1+1+1,i,none⟩=(#[.int .i64 me]:Array Value)[i]?)) (by kernel_rfl) (by kernel_rfl) (fun _ _ h=>h) ⟨c_c1,c_c2,c_c3',c_c4⟩ (fun hHeld=>?_)
  refine tkb 0 ?_
  iterate 5
   refine tkn (v:=?_) rfl (by kernel_rfl) (fun _ _ _ h=>h) (by assumption) ?_ ?_
   rotate_left
   · (intro w hSw;(try dsimp only at hSw);go_simp;try with_reducible rfl)
   try simp only [put_pack]
  refine tke ?_
  refine tkb 6 ?_
  iterate 4
   refine tkn (v:=?_) rfl (by kernel_rfl) (fun _ _ _ h=>h) (by assumption) ?_ ?_
   rotate_left
   · (intro w hSw;(try dsimp only at hSw);go_simp;try with_reducible rfl)
   try simp only [put_pack]
  refine tke ?_
  refine wpAnyH_ready (rs:=[5]) (by kernel_rfl) (by simp) ?_
  refine AllReadyH.cons rfl (fun K hKK=>?_) (AllReadyH.nil)
  go_simp
  refine (hpr _).mono ?_
  rintro e w4 ⟨c',rfl,rfl⟩
  refine hKK.out _ _ ⟨c_c1,c_c2,c_c3',c_c4⟩ (fun hHeld=>?_)
  clear hKK K hpr
  try dsimp only
  refine wpAnyH_ready (rs:=[10]) (by kernel_rfl) (by simp) ?_
  refine AllReadyH.cons rfl (fun K hKK=>?_) (AllReadyH.nil)
  go_simp
  refine tlast hO hK (yleave_p B p n me (Y % 2) (S.left+1) o _ S rs b c' _ hP hl2 hnd.out h1 hn hme (yodd Y) hta (by omega)) (fun w' h=>⟨rfl,rfl,(round_stop h).imp fun S hS=>⟨hS.1,hS.2.1,hS.2.2.x _⟩⟩) ?_
  intro u2 S1 w5 hr hP1 hk1 hK1 hO1
  refine hKK.out _ _ ⟨(c1.keep hk1).cells,(c2.keep hk1).cells,(c3'.keep hk1).cells,(c4.keep hk1).cells⟩ (fun hHeld=>?_)
  refine wpAnyH_done (by kernel_rfl) ?_ _
  exact⟨u2,S1,hr,hP1,hK1.x _,trivial⟩
 case done =>
  intro u S W hO1 hX hP _ hD
  have hK1:KeepP B p w W:=KeepX.after hK hX (fun _ h=>h.elim)
  have hO:=owes_shut hO1 hK1 hD hK.size hBw.out
  have hf:=hO.done hP (Keep.refl [2,3,4] B p W)
  exact leavesM_cons (fun hx=>nomatch hx) hf.1 (leavesM_ret0 (results_none rfl _ _ _) hf.2)
 case pan =>
  intro S W c hc hO1 hX hS hD
  have hK1:KeepP B p w W:=KeepX.after hK hX (fun _ h=>h.elim)
  refine leavesM_cons (fun hx=>nomatch hx) hD.1 (leavesM_panic0 ?_)
  rw [<- hc]
  exact hO1.stop (hS.put _ hD.2 (by have:=hP.le;omega)) (hK1.put hK.size hD.2 hBw.out)
end Go.Proofs.YtbphlkaihfbgeaaGreat
namespace Kv
def ystart (L ph:Nat):Option (Nat × LPc):=if ph=2 then some (L-1,.inn) else some (0,.out)
end Kv
namespace Go.Proofs.YtbphlkaihfbgeaaGreat
open Go.RowKit Kv
structure YInv (L n D j:Nat) (ph:Nat->Nat) (pl:Nat->Nat × LPc) (G:Nat->Nat->Int) (M:List Int) (ans:Nat->List Int):Prop where
 ok:YOk L n (fun t=>lev (pl t)) G
 cells:YCells L n M G
 pos:∀ t,t<n->(ans t).length<=j/\(pl t).1<L /\
  (ph t=0/\(pl t).2.lv=false/\MPos (yask L n t) D (some (0,.out)) (ans t) (some (pl t)) ∨
   ph t=1/\ans t=[]/\pl t=(L-1,.inn) ∨
   ph t=2/\(pl t).2.lv=true/\MPos (yask L n t) D (some (L-1,.inn)) (ans t) (some (pl t)))
section
variable {L n D j:Nat} {ph:Nat->Nat} {pl:Nat->Nat × LPc} {G:Nat->Nat->Int} {M:List Int} {ans:Nat->List Int}
theorem YInv.more (h:YInv L n D j ph pl G M ans):YInv L n D (j+1) ph pl G M ans :=
 ⟨h.ok,h.cells,fun s hs=>⟨by have:=(h.pos s hs).1;omega,(h.pos s hs).2⟩⟩
theorem YInv.alone (h:YInv L n D j ph pl G M ans)(hn:n<=2 ^ L)(hL:1<=L){t s:Nat}(ht:t<n)(hs:s<n)(hne:t≠s):¬ (ph t=1/\ph s=1):=fun e=>by
 have key:∀ r,r<n->ph r=1->lev (pl r) (L-1)=.inn:=fun r hr e=>by
  rcases (h.pos r hr).2.2 with q | ⟨_,_,q⟩ | q
  · omega
  · rw [q,lev_self]
  · omega
 exact h.ok.alone ht hs (by omega) (by omega) hne hL (key t ht e.1) (key s hs e.2)
end
end Go.Proofs.YtbphlkaihfbgeaaGreat
namespace Kv
theorem left_put {S:TS}{v:Int}(h:S.next=some v)(a:Acc):(S.put a).left+1=S.left:=by
 have h1:S.acc.length<S.ans.length:=(List.getElem?_eq_some_iff.1 (show S.ans[S.acc.length]?=some v from h)).1
 unfold TS.left TS.put
 simp only [List.length_append,List.length_cons,List.length_nil]
 omega
theorem treeM_fuel {σ:Type}(ask:σ->Todo σ):∀ (f g:Nat) (s:σ) (S:TS),S.left<f->S.left<g->(treeM ask f s).run S=(treeM ask g s).run S
 | 0,_,_,_,h,_=>absurd h (by omega)
 | _+1,0,_,_,_,h=>absurd h (by omega)
 | f+1,g+1,s,S,h1,h2=>by
   cases h:ask s with
   | rd c k =>
     rw [treeM_rd h,treeM_rd h]
     show Prog.run (.read c fun v=>treeM ask f (k v)) S=Prog.run (.read c fun v=>treeM ask g (k v)) S
     simp only [Prog.run]
     cases hn:S.next with
     | none=>rfl
     | some v =>
       have:=left_put hn ⟨1,c,0⟩
       exact treeM_fuel ask f g _ _ (by omega) (by omega)
   | wr c v s' =>
     rw [treeM_wr h,treeM_wr h]
     show Prog.run (.write c v fun _=>treeM ask f s') S=Prog.run (.write c v fun _=>treeM ask g s') S
     simp only [Prog.run]
     cases hn:S.next with
     | none=>rfl
     | some u =>
       have:=left_put hn ⟨2,c,v⟩
       exact treeM_fuel ask f g _ _ (by omega) (by omega)
   | fin a=>rw [treeM_fin h,treeM_fin h]
end Kv
namespace Go.Proofs.YtbphlkaihfbgeaaGreat
open Go.RowKit Kv
section
variable {σ β:Type} {ask:σ->Todo σ} {s:σ} {D B p:Nat} {w0 w:World} {S:TS} {R:Ending->World->Prop} {P:Program} {f:FuncId} {args:Array Value} {K:Ending->World->Prop} {enc':Int->Value}
end
end Go.Proofs.YtbphlkaihfbgeaaGreat
