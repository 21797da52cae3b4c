/-
  RwPlaysSaid: part 6 of its proof.
-/
import Derived.Test.YtbaajjkopdjbgaaGreatJRwPlaysSaid5
import Derived.Lib.SmallJoins
import Derived.Test.YtbaajjkopdjbgaaGreatRows
import Derived.ProofKit
import Derived.OpenShut
import Derived.Deep.DeepHandedRow
import Derived.Deep.DeepCutAuto
import Derived.Laws.EntriesVeiled
open Go.Value renaming int -> V
open Go.IntKind renaming i64 -> Z
namespace Go.Proofs.YtbaajjkopdjbgaaGreat
open Go.ChangeShapes Go.WideShapes Go.ChangeAt Go.RowKit Kv
theorem cellsInt:Tryz.prog.cellsOf 3=1:=by kernel_rfl
theorem cell_lt {w:World}{a:Addr}{v:Value}(h:w.cell? a=some v):a.block<w.heap.size:=by
 rcases Nat.lt_or_ge a.block w.heap.size with hlt | hge
 · exact hlt
 · simp [World.cell?,Array.getElem?_eq_none hge] at h
set_option maxRecDepth 100000 in
theorem ints_trod {H:Type}{enc:TypeId × Value->H}{W:World}{v:Value}{fuel:Nat}{x:DataW H × List MemPlace}
  (hf:DataW.trod enc Tryz.prog W 0 (fun _=>true) true fuel 25 [v]=some x) :
  ∃ l,Ints W v l/\∀ x∈l,-9223372036854775808<=x/\x<=9223372036854775807:=by
 rcases open_ints Tryz.underlying25 Tryz.underlying3 cellsInt hf with⟨hcs,hx⟩ | ⟨a,len',cap',zs,hcs,_,hl,hm,hz,hx,hcell,hwz⟩
 · obtain rfl:v=.slice none 0 0:=by simpa using hcs
   exact⟨[],Ints.nil W,by simp⟩
 · obtain rfl:v=.slice (some a) len' cap':=by simpa using hcs
   simp only [if_true] at hz
   refine⟨zs.take len',?_,fun x hx=>bounds_i64 (hwz x (List.mem_of_mem_take hx))⟩
   have hlen:(zs.take len').length=len':=by rw [List.length_take];omega
   refine⟨some a,cap',by rw [hlen],by omega,by unfold maxLen at hm;exact hm,fun hne=>?_⟩
   have hpos:0<zs.length:=by
    rcases Nat.eq_zero_or_pos zs.length with h0 | h0
    · have:zs=[]:=List.eq_nil_of_length_eq_zero h0
      subst this
      simp at hne
    · exact h0
   obtain⟨b,off,rfl,hc⟩:=ints_at hcell hpos
   refine⟨b,off,rfl,cell_lt (hc 0 hpos),fun i x hi=>?_⟩
   have hi2:i<zs.length:=by
    have:=(List.getElem?_eq_some_iff.1 hi).1
    rw [List.length_take] at this
    omega
   rw [hc i hi2]
   have hi3:i<len':=by
    have:=(List.getElem?_eq_some_iff.1 hi).1
    omega
   rw [List.getElem?_take,if_pos hi3] at hi
   rw [List.getD_eq_getElem?_getD,hi]
   rfl
end Go.Proofs.YtbaajjkopdjbgaaGreat
namespace Go.Proofs.YtbaajjkopdjbgaaGreat
theorem own:ownKnob Tryz.prog.godebug=none:=by kernel_rfl
end Go.Proofs.YtbaajjkopdjbgaaGreat
namespace Go.Proofs.YtbaajjkopdjbgaaGreat
open Go.RowKit Kv
theorem ints_new (w:World)(l:List Int)(h:l.length<=9223372036854775807):Ints (w.alloc (.cells (l.map (V Z)).toArray 3)) (.slice (some ⟨w.heap.size,0,none⟩) l.length l.length) l:=by
 refine⟨_,_,rfl,Nat.le_refl _,h,fun _=>⟨w.heap.size,0,rfl,by simp,fun i x hi=>?_⟩⟩
 have hh:=World.alloc_heap_new w (.cells (l.map (V Z)).toArray 3)
 simp only [World.cell?,hh,Nat.zero_add]
 simp [hi]
theorem Outs.parts {w:World}{v:Value}{d:Bool}{S:TS}(h:Outs w v d S):∃ A c A' c' As k n,v=.agg #[.bool d,.slice A S.acc.length c,.slice A' S.nts.length c',.slice As n k]:=by
 obtain⟨A,c,A',c',vs,L,rfl,hO⟩:=h
 obtain⟨As,k,rfl,_,_⟩:=hO.locs.slice
 exact⟨A,c,A',c',As,k,_,rfl⟩
theorem kwants_p (w:World):Calls Tryz.prog 232 #[] w fun e w'=>∃ v,e=.returned v/\WantsAt w' v (List.replicate 4 ⟨-1,1⟩)/\Ext w w':=by
 go_enter Tryz.func232,Tryz.ntmps232
 go_wp2_with fail
 go_loopw [1,2] (fun v i wr=>∃ j:Nat,i=V Z j/\j<=4/\wr.ownsRow w.heap.size 179 2 v j ((List.replicate j (⟨-1,1⟩:Want)).flatMap wantVals)/\Ext w wr) (fun _ i _=>4-(intOf i).toNat)
 case atStart=>exact⟨0,rfl,by omega,World.ownsRow_nil _ _ _ _,Ext.refl _⟩
 case round =>
  obtain⟨j,rfl,hj,hown,hE⟩:=hrel
  by_cases hl:j<4
  · go_wp2_with (at_builtin;refine append_rec info_want Tryz.underlying102 rfl (by decide) (by decide) rfl _ _ rfl _ j _ [V Z (-1),V Z 1] hE hown rfl rfl rfl (by simp [Value.oneCell']) (by omega) ?_)
    intro v' w' ho hx _
    have hoh:=Hd ho
    clear hown ho;go_wp2_with fail
    refine⟨⟨j+1,by go_num,by omega,?_,hx⟩,?_⟩
    · rw [List.replicate_succ',List.flatMap_append];exact hoh.out
    · simp [intOf];omega
  · obtain rfl:j=4:=by omega
    have hownh:=Hd hown
    clear hown;go_wp2_with fail
    go_ret
    exact⟨_,rfl,Recs.of_row hownh.out,hE⟩
end Go.Proofs.YtbaajjkopdjbgaaGreat
namespace Kv
def pathN:Nat->Nat->List Int
 | 0,_=>[]
 | f+1,x=>if x<=1 then [] else (x:Int) :: pathN f (x / 2)
theorem pathN_fuel:∀ (f g x:Nat),x<=f->x<=g->pathN f x=pathN g x
 | 0,0,x,_,_=>rfl
 | 0,g+1,x,h,_=>by unfold pathN;rw [if_pos (by omega)]
 | f+1,0,x,_,h=>by unfold pathN;rw [if_pos (by omega)]
 | f+1,g+1,x,h1,h2=>by
   unfold pathN
   split
   · rfl
   · rw [pathN_fuel f g (x / 2) (by omega) (by omega)]
theorem pathN_cons {x:Nat}(h:1<x):pathN x x=(x:Int) :: pathN (x / 2) (x / 2):=by
 obtain⟨y,rfl⟩:∃ y,x=y+1:=⟨x-1,by omega⟩
 rw [show pathN (y+1) (y+1)=(if y+1<=1 then [] else ((y+1:Nat):Int) :: pathN y ((y+1) / 2)) from rfl,if_neg (by omega),pathN_fuel y ((y+1) / 2) _ (by omega) (by omega)]
theorem pathN_nil {x:Nat}(h:x<=1):pathN x x=[]:=by
 cases x with
 | zero=>rfl
 | succ x=>rw [show pathN (x+1) (x+1)=(if x+1<=1 then [] else ((x+1:Nat):Int) :: pathN x ((x+1) / 2)) from rfl,if_pos h]
theorem pathN_len:∀ (f x:Nat),(pathN f x).length<=f
 | 0,_=>by simp [pathN]
 | f+1,x=>by
   unfold pathN
   split
   · simp
   · have:=pathN_len f (x / 2)
     simp;omega
def pathL (m place:Nat):List Int:=pathN (2 ^ levels m+place) (2 ^ levels m+place)
theorem lev_le {m:Nat}(h:m<=64):levels m<=6:=by
 have:∀ m:Nat,m<65->levels m<=6:=by decide +kernel
 exact this m (by omega)
theorem pow_le {k:Nat}(h:k<=6):1<=2 ^ k/\2 ^ k<=64:=by
 have:∀ k:Nat,k<7->1<=2 ^ k/\2 ^ k<=64:=by decide
 exact this k (by omega)
end Kv
namespace Go.Proofs.YtbaajjkopdjbgaaGreat
open Go.RowKit Kv
set_option maxRecDepth 100000 in
set_option maxHeartbeats 1000000 in
theorem path_p (m place:Nat)(w:World)(h1:1<=m)(h2:m<=64)(h3:place<m) :
  Calls Tryz.prog 172 #[V Z m,V Z place] w fun e w'=>∃ v,e=.returned v/\IntRow w' w.heap.size v (pathL m place)/\Ext w w':=by
 have hlv:=fun w=>levels_p m (by omega) w
 have hle:=lev_le h2
 unfold pathL
 generalize levels m=L at *
 obtain⟨p1,p2⟩:=pow_le hle
 have hPi:(2:Int) ^ L=((2 ^ L:Nat):Int):=by rw [Int.natCast_pow];rfl
 generalize 2 ^ L=P at *
 have hsh:Op.shift .shl .i64 1 .i64 (L:Int)=pure (V Z (P:Int)):=by
  rw [Go.shift_shl_i64 (x:=1) (y:=(L:Int)) (yk:=.i64) (by omega) (by omega),Int.one_mul,Int.toNat_natCast,hPi,IntWalk.i64_in _ (by omega)]
 clear hPi hle
 have d1:decide ((m:Int)<1)=false:=by rw [decide_eq_false_iff_not];omega
 have d2:decide ((64:Int)<(m:Int))=false:=by rw [decide_eq_false_iff_not];omega
 have d3:decide ((place:Int)<0)=false:=by rw [decide_eq_false_iff_not];omega
 have d4:decide (m<=place)=false:=by rw [decide_eq_false_iff_not];omega
 obtain⟨X,hX⟩:∃ X:Nat,P+place=X:=⟨_,rfl⟩
 rw [hX]
 have hw:IntKind.i64.wrap ((P:Int)+(place:Int))=(X:Int):=by rw [IntWalk.i64_in _ (by omega)];omega
 go_enter Tryz.func172,Tryz.ntmps172
 go_wp2_with fail
 refine (hlv _).mono ?_
 rintro e w' ⟨rfl,rfl⟩;go_wp2_with fail
 go_loopw [5,6] (fun v i wr=>∃ (x:Nat) (l:List Int),i=V Z x/\x<=128/\l.length+x<=X/\IntRow wr w.heap.size v l/\Hid (l++pathN x x=pathN X X)/\Ext w wr) (fun _ i _=>(intOf i).toNat)
 case atStart=>exact⟨X,[],rfl,by omega,by simp,IntRow.nil _ _,Hd rfl,Ext.refl w⟩
 case round =>
  obtain⟨x,l,rfl,hx,hln,hown,hpath,hE⟩:=hrel
  by_cases hx1:1<x
  · have e1:decide ((1:Int)<(x:Int))=true:=by rw [decide_eq_true_eq];omega
    go_wp2_with (at_builtin;refine append_int rfl _ _ rfl w.heap.size _ l x hown rfl rfl (by omega) hE.size ?_)
    intro v' w' ho hg
    have hx':=hE.appended hown hg
    have hoh:=Hd ho
    have hp2:Hid ((l++[(x:Int)])++pathN (x / 2) (x / 2)=pathN X X):=Hd (by rw [<- hpath.out,pathN_cons hx1,List.append_assoc];rfl)
    clear hown ho hg hpath hE;go_wp2_with fail
    refine⟨⟨x / 2,l++[(x:Int)],by go_num,by omega,by simp;omega,hoh.out,hp2,hx'⟩,?_⟩
    simp [intOf];omega
  · have e1:decide ((1:Int)<(x:Int))=false:=by rw [decide_eq_false_iff_not];omega
    have hp:=hpath.out
    rw [pathN_nil (by omega),List.append_nil] at hp
    have hf:=Hd hown
    subst hp;clear hown hpath;go_wp2_with fail
    go_ret
    exact⟨_,rfl,hf.out,hE⟩
def fnV (n:Nat):Value:=.func (.func n) #[] #[]
def eachK (kind:Int):Nat:=if kind=7 then 4 else 3
def nodeV (kind:Int):Value:=if kind=7 then .agg #[fnV 232,fnV 233,fnV 234] else .agg #[fnV 235,fnV 236,fnV 237]
set_option maxRecDepth 100000 in
theorem nodeOf_p (kind:Int)(w:World):Calls Tryz.prog 171 #[V Z kind] w fun e w'=>e=.returned (nodeV kind)/\Ext w w':=by
 unfold nodeV
 by_cases h:kind=7
 · have d:(kind==7)=true:=by simpa using h
   rw [if_pos h]
   clear h
   go_enter Tryz.func171,Tryz.ntmps171
   go_wp2_with fail
   refine bodyPost_ret (v:=.agg #[fnV 232,fnV 233,fnV 234]) (by simp [results,Tryz.results171,go_sem,fnV]) rfl ?_
   exact⟨rfl,(Ext.refl w).alloc _⟩
 · have d:(kind==7)=false:=by simpa using h
   rw [if_neg h]
   clear h
   go_enter Tryz.func171,Tryz.ntmps171
   go_wp2_with fail
   refine bodyPost_ret (v:=.agg #[fnV 235,fnV 236,fnV 237]) (by simp [results,Tryz.results171,go_sem,fnV]) rfl ?_
   exact⟨rfl,(Ext.refl w).alloc _⟩
set_option maxRecDepth 100000 in
set_option maxHeartbeats 1000000 in
theorem twants_p7 (kind:Int)(m:Nat)(w:World)(h1:1<=m)(h2:m<=64)(hk:kind=7) :
  Calls Tryz.prog 175 #[V Z kind,V Z m] w fun e w'=>∃ v,e=.returned v/\WantsAt w' v (List.replicate (4*(2 ^ levels m-1)) ⟨-1,1⟩)/\Ext w w':=by
 have hlv:=fun w=>levels_p m (by omega) w
 have hle:=lev_le h2
 generalize levels m=L at *
 obtain⟨p1,p2⟩:=pow_le hle
 have hPi:(2:Int) ^ L=((2 ^ L:Nat):Int):=by rw [Int.natCast_pow];rfl
 generalize 2 ^ L=P at *
 have hsh:Op.shift .shl .i64 1 .i64 (L:Int)=pure (V Z (P:Int)):=by
  rw [Go.shift_shl_i64 (x:=1) (y:=(L:Int)) (yk:=.i64) (by omega) (by omega),Int.one_mul,Int.toNat_natCast,hPi,IntWalk.i64_in _ (by omega)]
 clear hPi hle
 obtain⟨M,rfl⟩:∃ M,P=M+1:=⟨P-1,by omega⟩
 have hw:IntKind.i64.wrap (((M+1:Nat):Int)-1)=(M:Int):=by rw [IntWalk.i64_in _ (by omega)];omega
 rw [Nat.add_sub_cancel]
 generalize hQ:M+1=Q at *
 have hM:M<=63:=by omega
 have d1:decide ((m:Int)<1)=false:=by rw [decide_eq_false_iff_not];omega
 have d2:decide ((64:Int)<(m:Int))=false:=by rw [decide_eq_false_iff_not];omega
 have hn:nodeV kind=.agg #[.func (.func 232) #[] #[],.func (.func 233) #[] #[],.func (.func 234) #[] #[]]:=by unfold nodeV;rw [if_pos hk];rfl
 have hN:=fun w=>nodeOf_p kind w
 rw [hn] at hN
 have hfd:∀ w,(Instr.field 147 (.agg #[.func (.func 232) #[] #[],.func (.func 233) #[] #[],.func (.func 234) #[] #[]]) 0).run Tryz.prog w=.ok (.func (.func 232) #[] #[]) w:=fun w=>by kernel_rfl
 clear hn hk
 go_enter Tryz.func175,Tryz.ntmps175
 go_wp2_with fail
 refine (hlv _).mono ?_
 rintro e w' ⟨rfl,rfl⟩;clear hlv;go_wp2_with fail
 go_loopw [5,16] (fun v i wr=>∃ j:Nat,i=V Z j/\j<=M/\wr.ownsRow w.heap.size 179 2 v (4*j) ((List.replicate (4*j) (⟨-1,1⟩:Want)).flatMap wantVals)/\Ext w wr) (fun _ i _=>M-(intOf i).toNat)
 case atStart=>exact⟨0,rfl,by omega,World.ownsRow_nil _ _ _ _,Ext.refl _⟩
 case round =>
  obtain⟨j,rfl,hj,hown,hX⟩:=hrel
  by_cases hl:j<M
  · go_wp2_with fail
    refine (hN _).mono ?_
    rintro e w2 ⟨rfl,hx2⟩
    replace hown:=row_ext hown hx2;replace hX:=hX.trans hx2;clear hx2;go_wp2_with fail
    refine (kwants_p _).mono ?_
    rintro e w3 ⟨v2,rfl,hr2,hx3⟩
    replace hown:=row_ext hown hx3;replace hX:=hX.trans hx3
    obtain⟨A,c,rfl,r1,r2,hV⟩:=hr2
    obtain⟨b,rfl,hb,hc⟩:=hV (by simp [wantVals,List.replicate])
    rw [List.length_replicate] at *
    clear hV hx3
    go_wp2_with (at_builtin;refine append_recs info_want Tryz.underlying102 rfl (by decide) (by decide) rfl _ _ rfl _ (4*j) _ ((List.replicate 4 (⟨-1,1⟩:Want)).flatMap wantVals) ⟨b,0,none⟩ 4 c hX hown rfl rfl rfl (fun i u hu=>by rw [Addr.add_lit,Nat.zero_add];exact hc i u hu) (fun u hu=>by simp [List.replicate,wantVals] at hu;rcases hu with rfl | rfl | rfl | rfl | rfl | rfl | rfl | rfl <;> rfl) (by omega) (by omega) ?_)
    intro v' w' ho hx'
    have hoh:Hid (w'.ownsRow w.heap.size 179 2 v' (4*(j+1)) ((List.replicate (4*(j+1)) (⟨-1,1⟩:Want)).flatMap wantVals)):=Hd (by
     rw [Nat.mul_succ,<- List.replicate_append_replicate,List.flatMap_append];exact ho)
    clear hown ho hc;go_wp2_with fail
    refine⟨⟨j+1,by go_num,by omega,hoh.out,hx'⟩,?_⟩
    simp [intOf];omega
  · obtain rfl:j=M:=by omega
    have hownh:=Hd hown
    clear hown;go_wp2_with fail
    go_ret
    exact⟨_,rfl,by have:=Recs.of_row hownh.out;unfold WantsAt;rw [List.length_replicate];exact this,hX⟩
set_option maxRecDepth 100000 in
set_option maxHeartbeats 1000000 in
theorem twants_p3 (kind:Int)(m:Nat)(w:World)(h1:1<=m)(h2:m<=64)(hk:kind≠7) :
  Calls Tryz.prog 175 #[V Z kind,V Z m] w fun e w'=>∃ v,e=.returned v/\WantsAt w' v (List.replicate (3*(2 ^ levels m-1)) ⟨-1,1⟩)/\Ext w w':=by
 have hlv:=fun w=>levels_p m (by omega) w
 have hle:=lev_le h2
 generalize levels m=L at *
 obtain⟨p1,p2⟩:=pow_le hle
 have hPi:(2:Int) ^ L=((2 ^ L:Nat):Int):=by rw [Int.natCast_pow];rfl
 generalize 2 ^ L=P at *
 have hsh:Op.shift .shl .i64 1 .i64 (L:Int)=pure (V Z (P:Int)):=by
  rw [Go.shift_shl_i64 (x:=1) (y:=(L:Int)) (yk:=.i64) (by omega) (by omega),Int.one_mul,Int.toNat_natCast,hPi,IntWalk.i64_in _ (by omega)]
 clear hPi hle
 obtain⟨M,rfl⟩:∃ M,P=M+1:=⟨P-1,by omega⟩
 have hw:IntKind.i64.wrap (((M+1:Nat):Int)-1)=(M:Int):=by rw [IntWalk.i64_in _ (by omega)];omega
 rw [Nat.add_sub_cancel]
 generalize hQ:M+1=Q at *
 have hM:M<=63:=by omega
 have d1:decide ((m:Int)<1)=false:=by rw [decide_eq_false_iff_not];omega
 have d2:decide ((64:Int)<(m:Int))=false:=by rw [decide_eq_false_iff_not];omega
 have hn:nodeV kind=.agg #[.func (.func 235) #[] #[],.func (.func 236) #[] #[],.func (.func 237) #[] #[]]:=by unfold nodeV;rw [if_neg hk];rfl
 have hN:=fun w=>nodeOf_p kind w
 rw [hn] at hN
 have hfd:∀ w,(Instr.field 147 (.agg #[.func (.func 235) #[] #[],.func (.func 236) #[] #[],.func (.func 237) #[] #[]]) 0).run Tryz.prog w=.ok (.func (.func 235) #[] #[]) w:=fun w=>by kernel_rfl
 clear hn hk
 go_enter Tryz.func175,Tryz.ntmps175
 go_wp2_with fail
 refine (hlv _).mono ?_
 rintro e w' ⟨rfl,rfl⟩;clear hlv;go_wp2_with fail
 go_loopw [5,16] (fun v i wr=>∃ j:Nat,i=V Z j/\j<=M/\wr.ownsRow w.heap.size 179 2 v (3*j) ((List.replicate (3*j) (⟨-1,1⟩:Want)).flatMap wantVals)/\Ext w wr) (fun _ i _=>M-(intOf i).toNat)
 case atStart=>exact⟨0,rfl,by omega,World.ownsRow_nil _ _ _ _,Ext.refl _⟩
 case round =>
  obtain⟨j,rfl,hj,hown,hX⟩:=hrel
  by_cases hl:j<M
  · go_wp2_with fail
    refine (hN _).mono ?_
    rintro e w2 ⟨rfl,hx2⟩
    replace hown:=row_ext hown hx2;replace hX:=hX.trans hx2;clear hx2;go_wp2_with fail
    refine (awants_p _).mono ?_
    rintro e w3 ⟨v2,rfl,hr2,hx3⟩
    replace hown:=row_ext hown hx3;replace hX:=hX.trans hx3
    obtain⟨A,c,rfl,r1,r2,hV⟩:=hr2
    obtain⟨b,rfl,hb,hc⟩:=hV (by simp [wantVals,List.replicate])
    rw [List.length_replicate] at *
    clear hV hx3
    go_wp2_with (at_builtin;refine append_recs info_want Tryz.underlying102 rfl (by decide) (by decide) rfl _ _ rfl _ (3*j) _ ((List.replicate 3 (⟨-1,1⟩:Want)).flatMap wantVals) ⟨b,0,none⟩ 3 c hX hown rfl rfl rfl (fun i u hu=>by rw [Addr.add_lit,Nat.zero_add];exact hc i u hu) (fun u hu=>by simp [List.replicate,wantVals] at hu;rcases hu with rfl | rfl | rfl | rfl | rfl | rfl | rfl | rfl <;> rfl) (by omega) (by omega) ?_)
    intro v' w' ho hx'
    have hoh:Hid (w'.ownsRow w.heap.size 179 2 v' (3*(j+1)) ((List.replicate (3*(j+1)) (⟨-1,1⟩:Want)).flatMap wantVals)):=Hd (by
     rw [Nat.mul_succ,<- List.replicate_append_replicate,List.flatMap_append];exact ho)
    clear hown ho hc;go_wp2_with fail
    refine⟨⟨j+1,by go_num,by omega,hoh.out,hx'⟩,?_⟩
    simp [intOf];omega
  · obtain rfl:j=M:=by omega
    have hownh:=Hd hown
    clear hown;go_wp2_with fail
    go_ret
    exact⟨_,rfl,by have:=Recs.of_row hownh.out;unfold WantsAt;rw [List.length_replicate];exact this,hX⟩
theorem twants_p (kind:Int)(m:Nat)(w:World)(h1:1<=m)(h2:m<=64) :
  Calls Tryz.prog 175 #[V Z kind,V Z m] w fun e w'=>∃ v,e=.returned v/\WantsAt w' v (List.replicate (eachK kind*(2 ^ levels m-1)) ⟨-1,1⟩)/\Ext w w':=by
 unfold eachK
 by_cases hk:kind=7
 · rw [if_pos hk];exact twants_p7 kind m w h1 h2 hk
 · rw [if_neg hk];exact twants_p3 kind m w h1 h2 hk
set_option maxRecDepth 100000 in
theorem tregs_p7 (b c n:Nat)(len:Nat)(w:World)(h1:1<=n)(h2:n*4<=len)(h3:len<=c)(h4:c<=9223372036854775807)(h5:len<=1000000) :
  Calls Tryz.prog 173 #[.slice (some ⟨b,0,none⟩) len c,.agg #[.func (.func 232) #[] #[],.func (.func 233) #[] #[],.func (.func 234) #[] #[]],V Z n] w fun e w'=>∃ c',e=.returned (.slice (some ⟨b,4*(n-1)*7,none⟩) 4 c')/\4<=c'/\c'<=9223372036854775807/\Ext w w':=by
 obtain⟨k,rfl⟩:∃ k,n=k+1:=⟨n-1,by omega⟩
 rw [Nat.add_sub_cancel]
 have w1:=IntWalk.i64_in (((k+1:Nat):Int)-1) (by omega)
 have w2:=IntWalk.i64_in ((((k+1:Nat):Int)-1)*4) (by omega)
 have w3:=IntWalk.i64_in (((k+1:Nat):Int)*4) (by omega)
 have d1:decide ((len:Int)<((k:Int)+1)*4)=false:=by rw [decide_eq_false_iff_not];omega
 have hX:=Ext.refl w
 have b1:=Blk.new w (.cells #[.func (.func 232) #[] #[],.func (.func 233) #[] #[],.func (.func 234) #[] #[]] 147)
 replace hX:=hX.alloc (.cells #[.func (.func 232) #[] #[],.func (.func 233) #[] #[],.func (.func 234) #[] #[]] 147)
 have c_b1:=b1.cells
 go_enter Tryz.func173,Tryz.ntmps173
 go_wp2_with fail
 refine (kwants_p _).mono ?_
 rintro e w2 ⟨v2,rfl,hr2,hx3⟩
 obtain⟨A,c2,rfl,r1,r2,-⟩:=hr2
 rw [List.length_replicate]
 replace hX:=hX.trans hx3;clear hx3;go_wp2_with fail
 go_ret
 exact⟨c-k*4,by rw [Nat.mul_comm k 4,show (k+1)*4-4*k=4 from by omega];rfl,by omega,by omega,hX⟩
end Go.Proofs.YtbaajjkopdjbgaaGreat
namespace Kv
def nthR (rs:List Reg) (i:Nat):Reg:=rs.getD i ⟨1,0,0,1,-1,-1,1⟩
theorem nthR_of {rs:List Reg}{i:Nat}(h:i<rs.length):rs[i]?=some (nthR rs i):=by
 unfold nthR
 rw [List.getD_eq_getElem?_getD,List.getElem?_eq_getElem h];rfl
def nodeE (E D:Nat) (rs:List Reg) (me:Int) (x:Int):Prog Unit :=
 if E=4 then kesM D (nthR rs (4*((x / 2).toNat-1))) (nthR rs (4*((x / 2).toNat-1)+1)) (nthR rs (4*((x / 2).toNat-1)+2)) (nthR rs (4*((x / 2).toNat-1)+3)) (x % 2) me
 else arbM D (nthR rs (3*((x / 2).toNat-1))) (nthR rs (3*((x / 2).toNat-1)+1)) (nthR rs (3*((x / 2).toNat-1)+2)) (x % 2) me
def nodeL (E:Nat) (rs:List Reg) (me:Int) (x:Int):Prog Unit:=kesL (nthR rs (E*((x / 2).toNat-1))) (nthR rs (E*((x / 2).toNat-1)+1)) (x % 2) me
theorem pathN_mem:∀ (f x:Nat) {y:Int},y∈pathN f x->2<=y/\y<=x
 | 0,_,y,h=>by simp [pathN] at h
 | f+1,x,y,h=>by
   unfold pathN at h
   split at h
   · simp at h
   · rcases List.mem_cons.1 h with rfl | h
     · omega
     · have:=pathN_mem f (x / 2) h
       omega
theorem lev_ge {m:Nat}(h:m<=64):m<=2 ^ levels m:=by
 have:∀ m:Nat,m<65->m<=2 ^ levels m:=by decide +kernel
 exact this m (by omega)
theorem pathL_mem {m place:Nat}(h:m<=64)(hp:place<m){y:Int}(hy:y∈pathL m place):2<=y/\y<2*2 ^ levels m:=by
 have h1:=pathN_mem _ _ hy
 have h2:=lev_ge h
 have e:(2:Int) ^ levels m=((2 ^ levels m:Nat):Int):=by rw [Int.natCast_pow];rfl
 rw [e]
 generalize 2 ^ levels m=P at *
 omega
end Kv
namespace Go.Proofs.YtbaajjkopdjbgaaGreat
open Go.RowKit Kv
def RowH (ix:List Nat) (w:World) (p:Nat) (A:Option Addr) (l:List Int):Prop:=l≠[]->∃ g cur,A=some ⟨g,0,none⟩/\Held ix w p g (.cells cur 3)/\∀ (i:Nat) y,l[i]?=some y->cur[i]?=some (V Z y)
theorem RowH.of_row {ix:List Nat}{w:World}{p base:Nat}{v:Value}{l:List Int}(h:IntRow w base v l)(hn:∀ b,base<=b->¬ ownR ix w p b):∃ A c,v=.slice A l.length c/\RowH ix w p A l:=by
 rcases h.2 with⟨rfl,h0⟩ | ⟨g,cap,cur,rfl,hb,hg,h1,h2,h3,h4⟩
 · exact⟨none,0,by rw [h0],fun hne=>absurd (List.length_eq_zero_iff.1 h0) hne⟩
 · refine⟨_,cap,rfl,fun _=>⟨g,cur,rfl,⟨hg,hn g hb⟩,fun i y hy=>?_⟩⟩
   have e:(cur.toList.take (l.length*1))[i]?=some (V Z y):=by rw [h4,List.getElem?_map,hy];rfl
   rw [List.getElem?_take] at e
   split at e
   · rw [<- e];simp
   · cases e
theorem Held.at_ {ix:List Nat}{w:World}{p g:Nat}{cur:Array Value}{l:List Int}(h:Held ix w p g (.cells cur 3))(hc:∀ (i:Nat) y,l[i]?=some y->cur[i]?=some (V Z y)){i:Nat}{y:Int}(hy:l[i]?=some y):w.cell? ⟨g,i,none⟩=some (V Z y):=by
 rw [h.cells i];exact hc i y hy
theorem node_enter_p7 (B p D n:Nat)(S:TS)(rs:List Reg)(x me:Int)(b c:Nat)(w:World)(h:Plays B w p S)(hl:RegsAt [2,3,4] w p b rs)(hall:∀ r∈rs,r.ok/\me<r.n/\r.told me)(hm0:0<=me)(hn:x / 2=n)(hn1:1<=n)(hn2:n*4<=rs.length)(hD:S.left<D)(hc4:4<=c)(hc5:c<=9223372036854775807) :
  Calls Tryz.prog 233 #[.pointer (some ⟨p,0,none⟩),.slice (some ⟨b,4*(n-1)*7,none⟩) 4 c,V Z (x % 2),V Z me] w (Post encU B p w ((nodeE 4 D rs me x).run S)):=by
 unfold nodeE
 rw [if_pos rfl,hn,Int.toNat_natCast]
 obtain⟨k0,l0,t0⟩:=hall _ (List.mem_of_getElem? (nthR_of (rs:=rs) (i:=4*(n-1)) (by omega)))
 obtain⟨k1,l1,t1⟩:=hall _ (List.mem_of_getElem? (nthR_of (rs:=rs) (i:=4*(n-1)+1) (by omega)))
 obtain⟨k2,l2,t2⟩:=hall _ (List.mem_of_getElem? (nthR_of (rs:=rs) (i:=4*(n-1)+2) (by omega)))
 obtain⟨k3,l3,t3⟩:=hall _ (List.mem_of_getElem? (nthR_of (rs:=rs) (i:=4*(n-1)+3) (by omega)))
 exact kesn_enter_p B p D S _ _ _ _ (x % 2) me b c (4*(n-1)) rs w h hl ⟨nthR_of (i:=4*(n-1)) (by omega),nthR_of (i:=4*(n-1)+1) (by omega),nthR_of (i:=4*(n-1)+2) (by omega),nthR_of (i:=4*(n-1)+3) (by omega)⟩ k0 k1 k2 k3 hm0 l0 l1 l2 l3 t0 t1 t2 t3 hD hc4 hc5
theorem node_leave_p7 (B p n:Nat)(S:TS)(rs:List Reg)(x me:Int)(b c:Nat)(w:World)(h:Plays B w p S)(hl:RegsAt [2,3,4] w p b rs)(hall:∀ r∈rs,r.ok/\me<r.n/\r.told me)(hm0:0<=me)(hn:x / 2=n)(hn1:1<=n)(hn2:n*4<=rs.length) :
  Calls Tryz.prog 234 #[.pointer (some ⟨p,0,none⟩),.slice (some ⟨b,4*(n-1)*7,none⟩) 4 c,V Z (x % 2),V Z me] w (Post encU B p w ((nodeL 4 rs me x).run S)):=by
 unfold nodeL
 rw [hn,Int.toNat_natCast]
 obtain⟨k0,l0,t0⟩:=hall _ (List.mem_of_getElem? (nthR_of (rs:=rs) (i:=4*(n-1)) (by omega)))
 obtain⟨k1,l1,t1⟩:=hall _ (List.mem_of_getElem? (nthR_of (rs:=rs) (i:=4*(n-1)+1) (by omega)))
 obtain⟨k2,l2,t2⟩:=hall _ (List.mem_of_getElem? (nthR_of (rs:=rs) (i:=4*(n-1)+2) (by omega)))
 obtain⟨k3,l3,t3⟩:=hall _ (List.mem_of_getElem? (nthR_of (rs:=rs) (i:=4*(n-1)+3) (by omega)))
 exact kesn_leave_p B p S _ _ (nthR rs (4*(n-1)+2)) (nthR rs (4*(n-1)+3)) (x % 2) me b c (4*(n-1)) rs w h hl ⟨nthR_of (i:=4*(n-1)) (by omega),nthR_of (i:=4*(n-1)+1) (by omega),nthR_of (i:=4*(n-1)+2) (by omega),nthR_of (i:=4*(n-1)+3) (by omega)⟩ k0 k1 hm0 l0 l1
set_option maxRecDepth 100000 in
set_option maxHeartbeats 2000000 in
theorem climb_p7 (B p D:Nat)(S:TS)(kind:Int)(m place:Nat)(me:Int)(rs:List Reg)(A:Option Addr)(c:Nat)(w:World)(h:Plays B w p S)(hk:kind=7)(h1:1<=m)(h2:m<=64)(h3:place<m)(hlen:rs.length=4*(2 ^ levels m-1))(hc1:rs.length<=c)(hc2:c<=9223372036854775807)
  (hreg:rs≠[]->∃ b,A=some ⟨b,0,none⟩/\RegsAt [2,3,4] w p b rs)(hall:∀ r∈rs,r.ok/\me<r.n/\r.told me)(hm0:0<=me)(hD:S.left<D) :
  Calls Tryz.prog 91 #[.pointer (some ⟨p,0,none⟩),.slice A rs.length c,V Z kind,V Z m,V Z place,V Z me] w (Post encU B p w ((forP (fun x _=>nodeE 4 D rs me x) (pathL m place) ()).run S)):=by
 generalize hR:Post encU B p w ((forP (fun x _=>nodeE 4 D rs me x) (pathL m place) ()).run S)=R
 have hO:Owes R encU B p w ((forP (fun x _=>nodeE 4 D rs me x) (pathL m place) ()).run S):=hR▸owes _ _ _ _ _
 clear hR
 have hmem:=fun y (hy:y∈pathL m place)=>pathL_mem h2 h3 hy
 have hPth:=fun w=>path_p m place w h1 h2 h3
 have hlv:=lev_le h2
 obtain⟨p1,p2⟩:=pow_le hlv
 have e:(2:Int) ^ levels m=((2 ^ levels m:Nat):Int):=by rw [Int.natCast_pow];rfl
 rw [e] at hmem
 have hll:(pathL m place).length<=128:=by
  have:=pathN_len (2 ^ levels m+place) (2 ^ levels m+place)
  unfold pathL
  omega
 clear e hlv
 generalize 2 ^ levels m=P at *
 generalize pathL m place=l at *
 have hn:nodeV kind=.agg #[.func (.func 232) #[] #[],.func (.func 233) #[] #[],.func (.func 234) #[] #[]]:=by unfold nodeV;rw [if_pos hk];rfl
 have hN:=fun w=>nodeOf_p kind w
 rw [hn] at hN
 have hmemh:=Hd hmem
 have hallh:=Hd hall
 have hlenh:=Hd hlen
 have hOh:=Hd hO;clear hn hk hmem hall hlen hO
 go_enter Tryz.func91,Tryz.ntmps91
 go_wp2_with fail
 refine (hN _).mono ?_
 rintro e w2 ⟨rfl,hx2⟩
 have hK:=Keep.of_ext (ix:=[2,3,4]) (B:=B) hx2 h.lt h.le
 have hP:=h.ext hx2
 have hreg2:rs≠[]->∃ b,A=some ⟨b,0,none⟩/\RegsAt [2,3,4] w2 p b rs:=fun hne=>by
  obtain⟨b,e1,e2⟩:=hreg hne
  exact⟨b,e1,e2.extL hx2 h.lt⟩
 clear hx2 h hreg
 have bx:=hP.held (.cells #[.func (.func 232) #[] #[],.func (.func 233) #[] #[],.func (.func 234) #[] #[]] 147)
 replace hK:=hK.trans (Keep.alloc (.cells #[.func (.func 232) #[] #[],.func (.func 233) #[] #[],.func (.func 234) #[] #[]] 147) hP.lt hP.le)
 have hreg3:rs≠[]->∃ b,A=some ⟨b,0,none⟩/\RegsAt [2,3,4] (w2.alloc (.cells #[.func (.func 232) #[] #[],.func (.func 233) #[] #[],.func (.func 234) #[] #[]] 147)) p b rs:=fun hne=>by
  obtain⟨b,e1,e2⟩:=hreg2 hne
  exact⟨b,e1,e2.extL ((Ext.refl w2).alloc (.cells #[.func (.func 232) #[] #[],.func (.func 233) #[] #[],.func (.func 234) #[] #[]] 147)) hP.lt⟩
 replace hP:=hP.alloc (.cells #[.func (.func 232) #[] #[],.func (.func 233) #[] #[],.func (.func 234) #[] #[]] 147)
 clear hreg2;go_wp2_with fail
 generalize w2.heap.size=z at *
 generalize w2.alloc _=W at *
 refine (hPth _).mono ?_
 rintro e w3 ⟨v3,rfl,hrow,hx3⟩
 obtain⟨A3,c3,rfl,hR⟩:=RowH.of_row (p:=p) (ix:=[2,3,4]) hrow (fun b hb=>hP.fresh hx3 hb)
 replace hK:=hK.trans (Keep.of_ext hx3 hP.lt hP.le)
 replace bx:=bx.ext hx3 hP.lt
 have hreg:rs≠[]->∃ b,A=some ⟨b,0,none⟩/\RegsAt [2,3,4] w3 p b rs:=fun hne=>by
  obtain⟨b,e1,e2⟩:=hreg3 hne
  exact⟨b,e1,e2.extL hx3 hP.lt⟩
 replace hP:=hP.ext hx3;clear hreg3 hx3 hrow hPth hN
 by_cases hl0:l=[]
 · subst hl0
   have hf:=hOh.out.done (v:=()) hP hK
   clear hOh hmemh hR hreg hallh hlenh;go_wp2_with fail
   go_loopw [21] (fun i wr=>i=V Z 0/\w3=wr) (fun _ _=>0)
   case atStart=>exact⟨rfl,rfl⟩
   case round =>
    obtain⟨rfl,rfl⟩:=hrel
    go_wp2_with fail
    first | exact hf | (refine bodyPost_ret (results_none rfl _ _ _) rfl ?_;exact hf)
 obtain⟨g,cur,rfl,hg,hcur⟩:=hR hl0
 obtain⟨b,rfl,hl⟩:=hreg (by
  obtain⟨y,l',rfl⟩:∃ y l',l=y :: l':=by cases l with | nil=>exact absurd rfl hl0 | cons y l'=>exact⟨y,l',rfl⟩
  have h1:=hmemh.out y (List.mem_cons_self ..)
  have h2:=hlenh.out;intro hne;rw [hne,List.length_nil] at h2
  omega)
 have hch:=Hd hcur
 clear hreg hR hl0 hcur;go_wp2_with fail
 go_loopw [21] (fun i wr=>∃ (j:Nat) (S2:TS),i=V Z j/\j<=l.length/\Plays B wr p S2/\KeepP B p w wr/\HeldP wr p z (.cells #[.func (.func 232) #[] #[],.func (.func 233) #[] #[],.func (.func 234) #[] #[]] 147)/\HeldP wr p g (.cells cur 3)/\RegsAt [2,3,4] wr p b rs/\S2.left<D/\Hid (Owes R encU B p w ((forP (fun x _=>nodeE 4 D rs me x) (l.drop j) ()).run S2))) (fun i _=>l.length-(intOf i).toNat)
 case atStart=>exact⟨0,S,rfl,by omega,hP,hK,bx,hg,hl,hD,hOh⟩
 case round =>
  clear hP hK bx hg hl hD hOh
  obtain⟨j,S2,rfl,hj,hP,hK,bx,hg,hl,hD,hOh⟩:=hrel
  by_cases hjl:j<l.length
  · obtain⟨y,hy⟩:∃ y,l[j]?=some y:=⟨_,List.getElem?_eq_getElem hjl⟩
    have hym:=hmemh.out y (List.mem_of_getElem? hy)
    obtain⟨Y,rfl⟩:∃ Y:Nat,y=(Y:Int):=⟨y.toNat,by omega⟩
    have c_g:=hg.at_ hch.out hy
    have hO:=hOh.out
    rw [List.drop_eq_getElem_cons hjl,show l[j]=(Y:Int) from by rw [List.getElem?_eq_getElem hjl] at hy;exact Option.some.inj hy] at hO
    have hOk:Hid (Owes R encU B p w (((nodeE 4 D rs me (Y:Int)).bind fun _=>forP (fun x _=>nodeE 4 D rs me x) (l.drop (j+1)) ()).run S2)):=Hd hO
    clear hO hOh hy
    have hn2:Y / 2*4<=rs.length:=by have:=hlenh.out;omega
    have hn1:1<=Y / 2:=by omega
    have hlen9:rs.length<=1000000:=by have:=hlenh.out;omega
    have hrg:=fun w=>tregs_p7 b c (Y / 2) rs.length w hn1 hn2 hc1 hc2 hlen9
    have hq1:IntKind.i64.wrap ((Y:Int) / 2)=((Y / 2:Nat):Int):=by rw [IntWalk.i64_in _ (by omega)];omega
    have hq2:(Y:Int).tmod 2=(Y:Int) % 2:=Int.tmod_eq_emod_of_nonneg (by omega)
    go_wp2_with fail
    have hS:∀ w',HeldP w' p z (.cells #[.func (.func 232) #[] #[],.func (.func 233) #[] #[],.func (.func 234) #[] #[]] 147)->(∀ i,w'.cell? ⟨z,i,none⟩=(#[.func (.func 232) #[] #[],.func (.func 233) #[] #[],.func (.func 234) #[] #[]]:Array Value)[i]?):=fun w' x=>x.cells
    have c_bx:=bx.cells
    refine wp_region_held_drew (S:=fun w'=>∀ i,w'.cell? ⟨z,i,none⟩=(#[.func (.func 232) #[] #[],.func (.func 233) #[] #[],.func (.func 234) #[] #[]]:Array Value)[i]?) rfl (hS _ bx) (fun hHeld=>?_)
    replace hl:=hl.extL (Ext.refl wr).drew hP.lt
    replace hP:=hP.drew;replace hK:=hK.drew;replace bx:=bx.drew;replace hg:=hg.drew
    refine tkb 0 ?_
    iterate 7
     refine tkn (v:=?_) rfl (by kernel_rfl) (fun _ _ _ h=>h) (by assumption) ?_ ?_
     rotate_left
     · (intro w hSw;(try dsimp only at hSw);go_simp;try with_reducible rfl)
     try simp only [put_pack]
    refine tke ?_
    refine tkb 8 ?_
    iterate 3
     refine tkn (v:=?_) rfl (by kernel_rfl) (fun _ _ _ h=>h) (by assumption) ?_ ?_
     rotate_left
     · (intro w hSw;(try dsimp only at hSw);go_simp;try with_reducible rfl)
     try simp only [put_pack]
    refine tke ?_
    refine wpAnyH_ready (rs:=[7]) (by kernel_rfl) (by simp) ?_
    refine AllReadyH.cons rfl (fun K hKK=>?_) (AllReadyH.nil)
    go_simp
    refine (hrg _).mono ?_
    rintro e w4 ⟨c',rfl,q1,q2,hx⟩
    replace bx:=bx.ext hx hP.lt;replace hg:=hg.ext hx hP.lt;replace hl:=hl.extL hx hP.lt;replace hK:=hK.trans (Keep.of_ext hx hP.lt hP.le);replace hP:=hP.ext hx;clear hx hrg c_g c_bx
    refine hKK.out _ _ (hS _ bx) (fun hHeld=>?_)
    clear hKK K
    try dsimp only
    refine wpAnyH_ready (rs:=[11]) (by kernel_rfl) (by simp) ?_
    refine AllReadyH.cons rfl (fun K hKK=>?_) (AllReadyH.nil)
    go_simp
    refine tstepL hOk.out hK (node_enter_p7 B p D (Y / 2) S2 rs Y me b c' _ hP hl hallh.out hm0 (by omega) hn1 hn2 hD q1 q2) (fun _ h=>⟨rfl,h⟩) ?_
    clear hK hP hOk;intro u S3 w5 hlf _ hP hk1 hK hO;replace hD:=Nat.lt_of_le_of_lt hlf hD;replace bx:=bx.keep hk1;replace hg:=hg.keep hk1;replace hl:=hl.keep hk1;clear hk1 hlf
    refine hKK.out _ _ (hS _ bx) (fun hHeld=>?_)
    clear hKK K
    try dsimp only
    refine wpAnyH_done (by kernel_rfl) ?_ _
    go_simp
    have hf:=Hd hO
    clear hO hS;go_wp2_with fail
    refine⟨⟨j+1,S3,by go_num,by omega,hP,hK,bx,hg,hl,hD,hf⟩,?_⟩
    simp [intOf];omega
  · obtain rfl:j=l.length:=by omega
    have hO:=hOh.out;rw [List.drop_length] at hO
    have hf:=hO.done (v:=()) hP hK
    clear hO hOh hP hK hl hg bx;go_wp2_with fail
    first | exact hf | (refine bodyPost_ret (results_none rfl _ _ _) rfl ?_;exact hf)
theorem heap_setCells_ex (g:Nat)(t:TypeId):∀ (vs:List Value) (o:Nat) (w:World) (cur:Array Value),w.heap[g]?=some (.cells cur t (0,0))->∃ cur',(w.setCells g o vs).heap[g]?=some (.cells cur' t (0,0))/\cur'.size=cur.size
 | [],_,_,cur,h=>⟨cur,h,rfl⟩
 | v :: r,o,w,cur,h=>by
   obtain⟨cur',h1,h2⟩:=heap_setCells_ex g t r (o+1) (w.setCell ⟨g,o,none⟩ v) _ (heap_setCell_same w g o cur t v h)
   exact⟨cur',h1,h2.trans (by simp)⟩
theorem Ext.setCells {w0 w:World}(h:Ext w0 w){g:Nat}(hg:w0.heap.size<=g):∀ (vs:List Value) (o:Nat),Ext w0 (w.setCells g o vs):=by
 intro vs
 induction vs generalizing w with
 | nil=>intro o;exact h
 | cons v r ih=>intro o;exact ih (Below.setCell (p:=⟨g,o,none⟩) h hg v) (o+1)
theorem reverse_p {w0 w:World}{l:List Int}{v:Value}(hx:Ext w0 w)(h:IntRow w w0.heap.size v l)(hl:l.length<=1000) :
  Calls Tryz.prog 174 #[v] w fun e w'=>e=.returned (.tuple #[])/\Ext w0 w'/\IntRow w' w0.heap.size v l.reverse:=by
 have h':=h
 rcases h.2 with⟨rfl,h0⟩ | ⟨g,cap,cur,rfl,hb,hg,h1,h2,h3,h4⟩
 · obtain rfl:=List.length_eq_zero_iff.1 h0
   refine (Tryz.slices_Reverse_int_empty none 0 w).mono ?_
   rintro e w' ⟨rfl,rfl⟩
   exact⟨rfl,hx,h⟩
 · have hcell:∀ j,j<l.length->w.cell? ⟨g,0+j,none⟩=some (V Z (l.getD j 0)):=by
    intro j hj
    rw [Nat.zero_add,cell_of_heap hg]
    have e:(cur.toList.take (l.length*1))[j]?=some (V Z (l.getD j 0)):=by
     rw [h4,List.getElem?_map,List.getElem?_eq_getElem hj,List.getD_eq_getElem?_getD,List.getElem?_eq_getElem hj];rfl
    rw [List.getElem?_take,if_pos (by omega)] at e
    rw [<- e];simp
   refine (Tryz.slices_Reverse_int_cells g 0 l.length cap l w (Nat.le_refl _) (by omega) hcell (fun j hj=>by simp [World.frozen?,hg])).mono ?_
   rintro e w' ⟨rfl,q,rfl⟩
   rw [List.take_length]
   have hg':(w.drewN q).heap[g]?=some (.cells cur 3 (0,0)):=hg
   obtain⟨cur',k1,k2⟩:=heap_setCells_ex g 3 (l.reverse.map (V Z)) 0 (w.drewN q) cur hg'
   refine⟨rfl,(hx.drewN q).setCells hb _ _,?_,.inr ⟨g,cap,cur',by rw [List.length_reverse],hb,k1,by rw [List.length_reverse];exact h1,h2,by rw [k2];exact h3,?_⟩⟩
   · simp
   · apply List.ext_getElem?
     intro i
     rw [List.length_reverse,List.getElem?_take]
     by_cases hi:i<l.length*1
     · rw [if_pos hi]
       have hc:=World.cell?_setCells_in g (l.reverse.map (V Z)) 0 (w.drewN q) (fun j hj=>by
        rw [Nat.zero_add,cell_of_heap hg']
        have:j<cur.size:=by simp at hj;omega
        simp [this]) i (by simp;omega)
       rw [Nat.zero_add,cell_of_heap k1] at hc
       rw [Array.getElem?_toList,hc,List.getElem?_eq_getElem]
     · rw [if_neg hi,List.getElem?_eq_none (by simp;omega)]
set_option maxRecDepth 100000 in
set_option maxHeartbeats 2000000 in
theorem down_p7 (B p:Nat)(S:TS)(kind:Int)(m place:Nat)(me:Int)(rs:List Reg)(A:Option Addr)(c:Nat)(w:World)(h:Plays B w p S)(hk:kind=7)(h1:1<=m)(h2:m<=64)(h3:place<m)(hlen:rs.length=4*(2 ^ levels m-1))(hc1:rs.length<=c)(hc2:c<=9223372036854775807)
  (hreg:rs≠[]->∃ b,A=some ⟨b,0,none⟩/\RegsAt [2,3,4] w p b rs)(hall:∀ r∈rs,r.ok/\me<r.n/\r.told me)(hm0:0<=me) :
  Calls Tryz.prog 94 #[.pointer (some ⟨p,0,none⟩),.slice A rs.length c,V Z kind,V Z m,V Z place,V Z me] w (Post encU B p w ((forP (fun x _=>nodeL 4 rs me x) (pathL m place).reverse ()).run S)):=by
 generalize hR:Post encU B p w ((forP (fun x _=>nodeL 4 rs me x) (pathL m place).reverse ()).run S)=R
 have hO:Owes R encU B p w ((forP (fun x _=>nodeL 4 rs me x) (pathL m place).reverse ()).run S):=hR▸owes _ _ _ _ _
 clear hR
 have hmem:=fun y (hy:y∈pathL m place)=>pathL_mem h2 h3 hy
 have hPth:=fun w=>path_p m place w h1 h2 h3
 have hlv:=lev_le h2
 obtain⟨p1,p2⟩:=pow_le hlv
 have e:(2:Int) ^ levels m=((2 ^ levels m:Nat):Int):=by rw [Int.natCast_pow];rfl
 rw [e] at hmem
 have hll:(pathL m place).length<=128:=by
  have:=pathN_len (2 ^ levels m+place) (2 ^ levels m+place)
  unfold pathL
  omega
 clear e hlv
 generalize 2 ^ levels m=P at *
 generalize pathL m place=l at *
 have hn:nodeV kind=.agg #[.func (.func 232) #[] #[],.func (.func 233) #[] #[],.func (.func 234) #[] #[]]:=by unfold nodeV;rw [if_pos hk];rfl
 have hN:=fun w=>nodeOf_p kind w
 rw [hn] at hN
 have hmemh:=Hd hmem
 have hallh:=Hd hall
 have hlenh:=Hd hlen
 have hOh:=Hd hO;clear hn hk hmem hall hlen hO
 go_enter Tryz.func94,Tryz.ntmps94
 go_wp2_with fail
 refine (hN _).mono ?_
 rintro e w2 ⟨rfl,hx2⟩
 have hK:=Keep.of_ext (ix:=[2,3,4]) (B:=B) hx2 h.lt h.le
 have hP:=h.ext hx2
 have hreg2:rs≠[]->∃ b,A=some ⟨b,0,none⟩/\RegsAt [2,3,4] w2 p b rs:=fun hne=>by
  obtain⟨b,e1,e2⟩:=hreg hne
  exact⟨b,e1,e2.extL hx2 h.lt⟩
 clear hx2 h hreg
 have bx:=hP.held (.cells #[.func (.func 232) #[] #[],.func (.func 233) #[] #[],.func (.func 234) #[] #[]] 147)
 replace hK:=hK.trans (Keep.alloc (.cells #[.func (.func 232) #[] #[],.func (.func 233) #[] #[],.func (.func 234) #[] #[]] 147) hP.lt hP.le)
 have hreg3:rs≠[]->∃ b,A=some ⟨b,0,none⟩/\RegsAt [2,3,4] (w2.alloc (.cells #[.func (.func 232) #[] #[],.func (.func 233) #[] #[],.func (.func 234) #[] #[]] 147)) p b rs:=fun hne=>by
  obtain⟨b,e1,e2⟩:=hreg2 hne
  exact⟨b,e1,e2.extL ((Ext.refl w2).alloc (.cells #[.func (.func 232) #[] #[],.func (.func 233) #[] #[],.func (.func 234) #[] #[]] 147)) hP.lt⟩
 replace hP:=hP.alloc (.cells #[.func (.func 232) #[] #[],.func (.func 233) #[] #[],.func (.func 234) #[] #[]] 147)
 clear hreg2;go_wp2_with fail
 generalize w2.heap.size=z at *
 generalize w2.alloc _=W at *
 refine (hPth _).mono ?_
 rintro e w3 ⟨v3,rfl,hrow,hx3⟩
 go_wp2_with fail
 refine (reverse_p hx3 hrow (by omega)).mono ?_
 rintro e w4 ⟨rfl,hx4,hrow4⟩
 obtain⟨A3,c3,rfl,hR⟩:=RowH.of_row (p:=p) (ix:=[2,3,4]) hrow4 (fun b hb=>hP.fresh hx4 hb)
 replace hK:=hK.trans (Keep.of_ext hx4 hP.lt hP.le)
 replace bx:=bx.ext hx4 hP.lt;clear hrow hx3
 have hreg:rs≠[]->∃ b,A=some ⟨b,0,none⟩/\RegsAt [2,3,4] w4 p b rs:=fun hne=>by
  obtain⟨b,e1,e2⟩:=hreg3 hne
  exact⟨b,e1,e2.extL hx4 hP.lt⟩
 replace hP:=hP.ext hx4;clear hreg3 hx4 hrow4 hPth hN
 have hmem2:∀ y∈l.reverse,2<=y/\y<2*((P:Nat):Int):=fun y hy=>hmemh.out y (List.mem_reverse.1 hy)
 replace hll:l.reverse.length<=128:=by rw [List.length_reverse];exact hll
 generalize l.reverse=l2 at *
 clear hmemh
 have hmemh:=Hd hmem2
 clear hmem2
 by_cases hl0:l2=[]
 · subst hl0
   have hf:=hOh.out.done (v:=()) hP hK
   clear hOh hmemh hR hreg hallh hlenh;go_wp2_with fail
   go_loopw [25] (fun i wr=>i=V Z 0/\w4=wr) (fun _ _=>0)
   case atStart=>exact⟨rfl,rfl⟩
   case round =>
    obtain⟨rfl,rfl⟩:=hrel
    go_wp2_with fail
    first | exact hf | (refine bodyPost_ret (results_none rfl _ _ _) rfl ?_;exact hf)
 obtain⟨g,cur,rfl,hg,hcur⟩:=hR hl0
 obtain⟨b,rfl,hl⟩:=hreg (by
  obtain⟨y,l2',rfl⟩:∃ y l2',l2=y :: l2':=by cases l2 with | nil=>exact absurd rfl hl0 | cons y l2'=>exact⟨y,l2',rfl⟩
  have h1:=hmemh.out y (List.mem_cons_self ..)
  have h2:=hlenh.out;intro hne;rw [hne,List.length_nil] at h2
  omega)
 have hch:=Hd hcur
 clear hreg hR hl0 hcur;go_wp2_with fail
 go_loopw [25] (fun i wr=>∃ (j:Nat) (S2:TS),i=V Z j/\j<=l2.length/\Plays B wr p S2/\KeepP B p w wr/\HeldP wr p z (.cells #[.func (.func 232) #[] #[],.func (.func 233) #[] #[],.func (.func 234) #[] #[]] 147)/\HeldP wr p g (.cells cur 3)/\RegsAt [2,3,4] wr p b rs/\Hid (Owes R encU B p w ((forP (fun x _=>nodeL 4 rs me x) (l2.drop j) ()).run S2))) (fun i _=>l2.length-(intOf i).toNat)
 case atStart=>exact⟨0,S,rfl,by omega,hP,hK,bx,hg,hl,hOh⟩
 case round =>
  clear hP hK bx hg hl hOh
  obtain⟨j,S2,rfl,hj,hP,hK,bx,hg,hl,hOh⟩:=hrel
  by_cases hjl:j<l2.length
  · obtain⟨y,hy⟩:∃ y,l2[j]?=some y:=⟨_,List.getElem?_eq_getElem hjl⟩
    have hym:=hmemh.out y (List.mem_of_getElem? hy)
    obtain⟨Y,rfl⟩:∃ Y:Nat,y=(Y:Int):=⟨y.toNat,by omega⟩
    have c_g:=hg.at_ hch.out hy
    have hO:=hOh.out
    rw [List.drop_eq_getElem_cons hjl,show l2[j]=(Y:Int) from by rw [List.getElem?_eq_getElem hjl] at hy;exact Option.some.inj hy] at hO
    have hOk:Hid (Owes R encU B p w (((nodeL 4 rs me (Y:Int)).bind fun _=>forP (fun x _=>nodeL 4 rs me x) (l2.drop (j+1)) ()).run S2)):=Hd hO
    clear hO hOh hy
    have hn2:Y / 2*4<=rs.length:=by have:=hlenh.out;omega
    have hn1:1<=Y / 2:=by omega
    have hlen9:rs.length<=1000000:=by have:=hlenh.out;omega
    have hrg:=fun w=>tregs_p7 b c (Y / 2) rs.length w hn1 hn2 hc1 hc2 hlen9
    have hq1:IntKind.i64.wrap ((Y:Int) / 2)=((Y / 2:Nat):Int):=by rw [IntWalk.i64_in _ (by omega)];omega
    have hq2:(Y:Int).tmod 2=(Y:Int) % 2:=Int.tmod_eq_emod_of_nonneg (by omega)
    go_wp2_with fail
    have hS:∀ w',HeldP w' p z (.cells #[.func (.func 232) #[] #[],.func (.func 233) #[] #[],.func (.func 234) #[] #[]] 147)->(∀ i,w'.cell? ⟨z,i,none⟩=(#[.func (.func 232) #[] #[],.func (.func 233) #[] #[],.func (.func 234) #[] #[]]:Array Value)[i]?):=fun w' x=>x.cells
    have c_bx:=bx.cells
    refine wp_region_held_drew (S:=fun w'=>∀ i,w'.cell? ⟨z,i,none⟩=(#[.func (.func 232) #[] #[],.func (.func 233) #[] #[],.func (.func 234) #[] #[]]:Array Value)[i]?) rfl (hS _ bx) (fun hHeld=>?_)
    replace hl:=hl.extL (Ext.refl wr).drew hP.lt
    replace hP:=hP.drew;replace hK:=hK.drew;replace bx:=bx.drew;replace hg:=hg.drew
    refine tkb 0 ?_
    iterate 7
     refine tkn (v:=?_) rfl (by kernel_rfl) (fun _ _ _ h=>h) (by assumption) ?_ ?_
     rotate_left
     · (intro w hSw;(try dsimp only at hSw);go_simp;try with_reducible rfl)
     try simp only [put_pack]
    refine tke ?_
    refine tkb 8 ?_
    iterate 3
     refine tkn (v:=?_) rfl (by kernel_rfl) (fun _ _ _ h=>h) (by assumption) ?_ ?_
     rotate_left
     · (intro w hSw;(try dsimp only at hSw);go_simp;try with_reducible rfl)
     try simp only [put_pack]
    refine tke ?_
    refine wpAnyH_ready (rs:=[7]) (by kernel_rfl) (by simp) ?_
    refine AllReadyH.cons rfl (fun K hKK=>?_) (AllReadyH.nil)
    go_simp
    refine (hrg _).mono ?_
    rintro e w4 ⟨c',rfl,q1,q2,hx⟩
    replace bx:=bx.ext hx hP.lt;replace hg:=hg.ext hx hP.lt;replace hl:=hl.extL hx hP.lt;replace hK:=hK.trans (Keep.of_ext hx hP.lt hP.le);replace hP:=hP.ext hx;clear hx hrg c_g c_bx
    refine hKK.out _ _ (hS _ bx) (fun hHeld=>?_)
    clear hKK K
    try dsimp only
    refine wpAnyH_ready (rs:=[11]) (by kernel_rfl) (by simp) ?_
    refine AllReadyH.cons rfl (fun K hKK=>?_) (AllReadyH.nil)
    go_simp
    refine tstepL hOk.out hK (node_leave_p7 B p (Y / 2) S2 rs Y me b c' _ hP hl hallh.out hm0 (by omega) hn1 hn2) (fun _ h=>⟨rfl,h⟩) ?_
    clear hK hP hOk;intro u S3 w5 hlf _ hP hk1 hK hO;replace bx:=bx.keep hk1;replace hg:=hg.keep hk1;replace hl:=hl.keep hk1;clear hk1 hlf
    refine hKK.out _ _ (hS _ bx) (fun hHeld=>?_)
    clear hKK K
    try dsimp only
    refine wpAnyH_done (by kernel_rfl) ?_ _
    go_simp
    have hf:=Hd hO
    clear hO hS;go_wp2_with fail
    refine⟨⟨j+1,S3,by go_num,by omega,hP,hK,bx,hg,hl,hf⟩,?_⟩
    simp [intOf];omega
  · obtain rfl:j=l2.length:=by omega
    have hO:=hOh.out;rw [List.drop_length] at hO
    have hf:=hO.done (v:=()) hP hK
    clear hO hOh hP hK hl hg bx;go_wp2_with fail
    first | exact hf | (refine bodyPost_ret (results_none rfl _ _ _) rfl ?_;exact hf)
set_option maxRecDepth 100000 in
theorem tregs_o3 (b c n o:Nat)(len:Nat)(w:World)(h1:1<=n)(h2:n*3<=len)(h3:len<=c)(h4:c<=9223372036854775807)(h5:len<=1000000) :
  Calls Tryz.prog 173 #[.slice (some ⟨b,o*7,none⟩) len c,.agg #[.func (.func 235) #[] #[],.func (.func 236) #[] #[],.func (.func 237) #[] #[]],V Z n] w fun e w'=>∃ c',e=.returned (.slice (some ⟨b,(o+3*(n-1))*7,none⟩) 3 c')/\3<=c'/\c'<=9223372036854775807/\Ext w w':=by
 obtain⟨k,rfl⟩:∃ k,n=k+1:=⟨n-1,by omega⟩
 rw [Nat.add_sub_cancel]
 have w1:=IntWalk.i64_in (((k+1:Nat):Int)-1) (by omega)
 have w2:=IntWalk.i64_in ((((k+1:Nat):Int)-1)*3) (by omega)
 have w3:=IntWalk.i64_in (((k+1:Nat):Int)*3) (by omega)
 have d1:decide ((len:Int)<((k:Int)+1)*3)=false:=by rw [decide_eq_false_iff_not];omega
 have hX:=Ext.refl w
 have b1:=Blk.new w (.cells #[.func (.func 235) #[] #[],.func (.func 236) #[] #[],.func (.func 237) #[] #[]] 147)
 replace hX:=hX.alloc (.cells #[.func (.func 235) #[] #[],.func (.func 236) #[] #[],.func (.func 237) #[] #[]] 147)
 have c_b1:=b1.cells
 go_enter Tryz.func173,Tryz.ntmps173
 go_wp2_with fail
 refine (awants_p _).mono ?_
 rintro e w2 ⟨v2,rfl,hr2,hx3⟩
 obtain⟨A,c2,rfl,r1,r2,-⟩:=hr2
 rw [List.length_replicate]
 replace hX:=hX.trans hx3;clear hx3;go_wp2_with fail
 go_ret
 exact⟨c-k*3,by rw [show (k+1)*3-k*3=3 from by omega,show o*7+k*3*7=(o+3*k)*7 from by omega];rfl,by omega,by omega,hX⟩
theorem node_enter_o3 (B p D n:Nat)(S:TS)(rs T:List Reg)(o:Nat)(hT:T=rs.drop o)(x me:Int)(b c:Nat)(w:World)(h:Plays B w p S)(hl:RegsAt [2,3,4] w p b rs)(hall:∀ r∈T,r.ok/\me<r.n/\r.told me)(hm0:0<=me)(hn:x / 2=n)(hn1:1<=n)(hn2:n*3<=T.length)(hD:S.left<D)(_hc4:3<=c)(_hc5:c<=9223372036854775807) :
  Calls Tryz.prog 236 #[.pointer (some ⟨p,0,none⟩),.slice (some ⟨b,(o+3*(n-1))*7,none⟩) 3 c,V Z (x % 2),V Z me] w (Post encU B p w ((nodeE 3 D T me x).run S)):=by
 have hsh:∀ i,i<T.length->rs[o+i]?=some (nthR T i):=fun i hi=>by
  have:=nthR_of (rs:=T) (i:=i) hi
  rw [hT,List.getElem?_drop] at this
  rw [hT]
  exact this
 unfold nodeE
 rw [if_neg (by decide),hn,Int.toNat_natCast]
 obtain⟨k0,l0,t0⟩:=hall _ (List.mem_of_getElem? (nthR_of (rs:=T) (i:=3*(n-1)) (by omega)))
 obtain⟨k1,l1,t1⟩:=hall _ (List.mem_of_getElem? (nthR_of (rs:=T) (i:=3*(n-1)+1) (by omega)))
 obtain⟨k2,l2,t2⟩:=hall _ (List.mem_of_getElem? (nthR_of (rs:=T) (i:=3*(n-1)+2) (by omega)))
 exact arbn_enter_p B p D S _ _ _ (x % 2) me b c (o+3*(n-1)) rs w h hl ⟨hsh (3*(n-1)) (by omega),hsh (3*(n-1)+1) (by omega),hsh (3*(n-1)+2) (by omega)⟩ k0 k1 k2 hm0 l0 l1 l2 t0 t1 hD
theorem node_leave_o3 (B p n:Nat)(S:TS)(rs T:List Reg)(o:Nat)(hT:T=rs.drop o)(x me:Int)(b c:Nat)(w:World)(h:Plays B w p S)(hl:RegsAt [2,3,4] w p b rs)(hall:∀ r∈T,r.ok/\me<r.n/\r.told me)(hm0:0<=me)(hn:x / 2=n)(hn1:1<=n)(hn2:n*3<=T.length) :
  Calls Tryz.prog 237 #[.pointer (some ⟨p,0,none⟩),.slice (some ⟨b,(o+3*(n-1))*7,none⟩) 3 c,V Z (x % 2),V Z me] w (Post encU B p w ((nodeL 3 T me x).run S)):=by
 have hsh:∀ i,i<T.length->rs[o+i]?=some (nthR T i):=fun i hi=>by
  have:=nthR_of (rs:=T) (i:=i) hi
  rw [hT,List.getElem?_drop] at this
  rw [hT]
  exact this
 unfold nodeL
 rw [hn,Int.toNat_natCast]
 obtain⟨k0,l0,t0⟩:=hall _ (List.mem_of_getElem? (nthR_of (rs:=T) (i:=3*(n-1)) (by omega)))
 obtain⟨k1,l1,t1⟩:=hall _ (List.mem_of_getElem? (nthR_of (rs:=T) (i:=3*(n-1)+1) (by omega)))
 obtain⟨k2,l2,t2⟩:=hall _ (List.mem_of_getElem? (nthR_of (rs:=T) (i:=3*(n-1)+2) (by omega)))
 exact arbn_leave_p B p S _ _ (nthR T (3*(n-1)+2)) (x % 2) me b c (o+3*(n-1)) rs w h hl ⟨hsh (3*(n-1)) (by omega),hsh (3*(n-1)+1) (by omega),hsh (3*(n-1)+2) (by omega)⟩ k0 k1 hm0 l0 l1
set_option maxRecDepth 100000 in
set_option maxHeartbeats 2000000 in
theorem climb_o3 (B p D:Nat)(S:TS)(kind:Int)(m place:Nat)(me:Int)(rs T:List Reg)(o:Nat)(hT:T=rs.drop o)(A:Option Addr)(c:Nat)(w:World)(h:Plays B w p S)(hk:kind≠7)(h1:1<=m)(h2:m<=64)(h3:place<m)(hlen:T.length=3*(2 ^ levels m-1))(hc1:T.length<=c)(hc2:c<=9223372036854775807)
  (hreg:T≠[]->∃ b,A=some ⟨b,o*7,none⟩/\RegsAt [2,3,4] w p b rs)(hall:∀ r∈T,r.ok/\me<r.n/\r.told me)(hm0:0<=me)(hD:S.left<D) :
  Calls Tryz.prog 91 #[.pointer (some ⟨p,0,none⟩),.slice A T.length c,V Z kind,V Z m,V Z place,V Z me] w (Post encU B p w ((forP (fun x _=>nodeE 3 D T me x) (pathL m place) ()).run S)):=by
 generalize hR:Post encU B p w ((forP (fun x _=>nodeE 3 D T me x) (pathL m place) ()).run S)=R
 have hO:Owes R encU B p w ((forP (fun x _=>nodeE 3 D T me x) (pathL m place) ()).run S):=hR▸owes _ _ _ _ _
 clear hR
 have hTh:=Hd hT
 clear hT
 have hmem:=fun y (hy:y∈pathL m place)=>pathL_mem h2 h3 hy
 have hPth:=fun w=>path_p m place w h1 h2 h3
 have hlv:=lev_le h2
 obtain⟨p1,p2⟩:=pow_le hlv
 have e:(2:Int) ^ levels m=((2 ^ levels m:Nat):Int):=by rw [Int.natCast_pow];rfl
 rw [e] at hmem
 have hll:(pathL m place).length<=128:=by
  have:=pathN_len (2 ^ levels m+place) (2 ^ levels m+place)
  unfold pathL
  omega
 clear e hlv
 generalize 2 ^ levels m=P at *
 generalize pathL m place=l at *
 have hn:nodeV kind=.agg #[.func (.func 235) #[] #[],.func (.func 236) #[] #[],.func (.func 237) #[] #[]]:=by unfold nodeV;rw [if_neg hk];rfl
 have hN:=fun w=>nodeOf_p kind w
 rw [hn] at hN
 have hmemh:=Hd hmem
 have hallh:=Hd hall
 have hlenh:=Hd hlen
 have hOh:=Hd hO;clear hn hk hmem hall hlen hO
 go_enter Tryz.func91,Tryz.ntmps91
 go_wp2_with fail
 refine (hN _).mono ?_
 rintro e w2 ⟨rfl,hx2⟩
 have hK:=Keep.of_ext (ix:=[2,3,4]) (B:=B) hx2 h.lt h.le
 have hP:=h.ext hx2
 have hreg2:T≠[]->∃ b,A=some ⟨b,o*7,none⟩/\RegsAt [2,3,4] w2 p b rs:=fun hne=>by
  obtain⟨b,e1,e2⟩:=hreg hne
  exact⟨b,e1,e2.extL hx2 h.lt⟩
 clear hx2 h hreg
 have bx:=hP.held (.cells #[.func (.func 235) #[] #[],.func (.func 236) #[] #[],.func (.func 237) #[] #[]] 147)
 replace hK:=hK.trans (Keep.alloc (.cells #[.func (.func 235) #[] #[],.func (.func 236) #[] #[],.func (.func 237) #[] #[]] 147) hP.lt hP.le)
 have hreg3:T≠[]->∃ b,A=some ⟨b,o*7,none⟩/\RegsAt [2,3,4] (w2.alloc (.cells #[.func (.func 235) #[] #[],.func (.func 236) #[] #[],.func (.func 237) #[] #[]] 147)) p b rs:=fun hne=>by
  obtain⟨b,e1,e2⟩:=hreg2 hne
  exact⟨b,e1,e2.extL ((Ext.refl w2).alloc (.cells #[.func (.func 235) #[] #[],.func (.func 236) #[] #[],.func (.func 237) #[] #[]] 147)) hP.lt⟩
 replace hP:=hP.alloc (.cells #[.func (.func 235) #[] #[],.func (.func 236) #[] #[],.func (.func 237) #[] #[]] 147)
 clear hreg2;go_wp2_with fail
 generalize w2.heap.size=z at *
 generalize w2.alloc _=W at *
 refine (hPth _).mono ?_
 rintro e w3 ⟨v3,rfl,hrow,hx3⟩
 obtain⟨A3,c3,rfl,hR⟩:=RowH.of_row (p:=p) (ix:=[2,3,4]) hrow (fun b hb=>hP.fresh hx3 hb)
 replace hK:=hK.trans (Keep.of_ext hx3 hP.lt hP.le)
 replace bx:=bx.ext hx3 hP.lt
 have hreg:T≠[]->∃ b,A=some ⟨b,o*7,none⟩/\RegsAt [2,3,4] w3 p b rs:=fun hne=>by
  obtain⟨b,e1,e2⟩:=hreg3 hne
  exact⟨b,e1,e2.extL hx3 hP.lt⟩
 replace hP:=hP.ext hx3;clear hreg3 hx3 hrow hPth hN
 by_cases hl0:l=[]
 · subst hl0
   have hf:=hOh.out.done (v:=()) hP hK
   clear hOh hmemh hR hreg hallh hlenh;go_wp2_with fail
   go_loopw [21] (fun i wr=>i=V Z 0/\w3=wr) (fun _ _=>0)
   case atStart=>exact⟨rfl,rfl⟩
   case round =>
    obtain⟨rfl,rfl⟩:=hrel
    go_wp2_with fail
    first | exact hf | (refine bodyPost_ret (results_none rfl _ _ _) rfl ?_;exact hf)
 obtain⟨g,cur,rfl,hg,hcur⟩:=hR hl0
 obtain⟨b,rfl,hl⟩:=hreg (by
  obtain⟨y,l',rfl⟩:∃ y l',l=y :: l':=by cases l with | nil=>exact absurd rfl hl0 | cons y l'=>exact⟨y,l',rfl⟩
  have h1:=hmemh.out y (List.mem_cons_self ..)
  have h2:=hlenh.out;intro hne;rw [hne,List.length_nil] at h2
  omega)
 have hch:=Hd hcur
 clear hreg hR hl0 hcur;go_wp2_with fail
 go_loopw [21] (fun i wr=>∃ (j:Nat) (S2:TS),i=V Z j/\j<=l.length/\Plays B wr p S2/\KeepP B p w wr/\HeldP wr p z (.cells #[.func (.func 235) #[] #[],.func (.func 236) #[] #[],.func (.func 237) #[] #[]] 147)/\HeldP wr p g (.cells cur 3)/\RegsAt [2,3,4] wr p b rs/\S2.left<D/\Hid (Owes R encU B p w ((forP (fun x _=>nodeE 3 D T me x) (l.drop j) ()).run S2))) (fun i _=>l.length-(intOf i).toNat)
 case atStart=>exact⟨0,S,rfl,by omega,hP,hK,bx,hg,hl,hD,hOh⟩
 case round =>
  clear hP hK bx hg hl hD hOh
  obtain⟨j,S2,rfl,hj,hP,hK,bx,hg,hl,hD,hOh⟩:=hrel
  by_cases hjl:j<l.length
  · obtain⟨y,hy⟩:∃ y,l[j]?=some y:=⟨_,List.getElem?_eq_getElem hjl⟩
    have hym:=hmemh.out y (List.mem_of_getElem? hy)
    obtain⟨Y,rfl⟩:∃ Y:Nat,y=(Y:Int):=⟨y.toNat,by omega⟩
    have c_g:=hg.at_ hch.out hy
    have hO:=hOh.out
    rw [List.drop_eq_getElem_cons hjl,show l[j]=(Y:Int) from by rw [List.getElem?_eq_getElem hjl] at hy;exact Option.some.inj hy] at hO
    have hOk:Hid (Owes R encU B p w (((nodeE 3 D T me (Y:Int)).bind fun _=>forP (fun x _=>nodeE 3 D T me x) (l.drop (j+1)) ()).run S2)):=Hd hO
    clear hO hOh hy
    have hn2:Y / 2*3<=T.length:=by have:=hlenh.out;omega
    have hn1:1<=Y / 2:=by omega
    have hlen9:T.length<=1000000:=by have:=hlenh.out;omega
    have hrg:=fun w=>tregs_o3 b c (Y / 2) o T.length w hn1 hn2 hc1 hc2 hlen9
    have hq1:IntKind.i64.wrap ((Y:Int) / 2)=((Y / 2:Nat):Int):=by rw [IntWalk.i64_in _ (by omega)];omega
    have hq2:(Y:Int).tmod 2=(Y:Int) % 2:=Int.tmod_eq_emod_of_nonneg (by omega)
    go_wp2_with fail
    have hS:∀ w',HeldP w' p z (.cells #[.func (.func 235) #[] #[],.func (.func 236) #[] #[],.func (.func 237) #[] #[]] 147)->(∀ i,w'.cell? ⟨z,i,none⟩=(#[.func (.func 235) #[] #[],.func (.func 236) #[] #[],.func (.func 237) #[] #[]]:Array Value)[i]?):=fun w' x=>x.cells
    have c_bx:=bx.cells
    refine wp_region_held_drew (S:=fun w'=>∀ i,w'.cell? ⟨z,i,none⟩=(#[.func (.func 235) #[] #[],.func (.func 236) #[] #[],.func (.func 237) #[] #[]]:Array Value)[i]?) rfl (hS _ bx) (fun hHeld=>?_)
    replace hl:=hl.extL (Ext.refl wr).drew hP.lt
    replace hP:=hP.drew;replace hK:=hK.drew;replace bx:=bx.drew;replace hg:=hg.drew
    refine tkb 0 ?_
    iterate 7
     refine tkn (v:=?_) rfl (by kernel_rfl) (fun _ _ _ h=>h) (by assumption) ?_ ?_
     rotate_left
     · (intro w hSw;(try dsimp only at hSw);go_simp;try with_reducible rfl)
     try simp only [put_pack]
    refine tke ?_
    refine tkb 8 ?_
    iterate 3
     refine tkn (v:=?_) rfl (by kernel_rfl) (fun _ _ _ h=>h) (by assumption) ?_ ?_
     rotate_left
     · (intro w hSw;(try dsimp only at hSw);go_simp;try with_reducible rfl)
     try simp only [put_pack]
    refine tke ?_
    refine wpAnyH_ready (rs:=[7]) (by kernel_rfl) (by simp) ?_
    refine AllReadyH.cons rfl (fun K hKK=>?_) (AllReadyH.nil)
    go_simp
    refine (hrg _).mono ?_
    rintro e w4 ⟨c',rfl,q1,q2,hx⟩
    replace bx:=bx.ext hx hP.lt;replace hg:=hg.ext hx hP.lt;replace hl:=hl.extL hx hP.lt;replace hK:=hK.trans (Keep.of_ext hx hP.lt hP.le);replace hP:=hP.ext hx;clear hx hrg c_g c_bx
    refine hKK.out _ _ (hS _ bx) (fun hHeld=>?_)
    clear hKK K
    try dsimp only
    refine wpAnyH_ready (rs:=[11]) (by kernel_rfl) (by simp) ?_
    refine AllReadyH.cons rfl (fun K hKK=>?_) (AllReadyH.nil)
    go_simp
    refine tstepL hOk.out hK (node_enter_o3 B p D (Y / 2) S2 rs T o hTh.out Y me b c' _ hP hl hallh.out hm0 (by omega) hn1 hn2 hD q1 q2) (fun _ h=>⟨rfl,h⟩) ?_
    clear hK hP hOk;intro u S3 w5 hlf _ hP hk1 hK hO;replace hD:=Nat.lt_of_le_of_lt hlf hD;replace bx:=bx.keep hk1;replace hg:=hg.keep hk1;replace hl:=hl.keep hk1;clear hk1 hlf
    refine hKK.out _ _ (hS _ bx) (fun hHeld=>?_)
    clear hKK K
    try dsimp only
    refine wpAnyH_done (by kernel_rfl) ?_ _
    go_simp
    have hf:=Hd hO
    clear hO hS;go_wp2_with fail
    refine⟨⟨j+1,S3,by go_num,by omega,hP,hK,bx,hg,hl,hD,hf⟩,?_⟩
    simp [intOf];omega
  · obtain rfl:j=l.length:=by omega
    have hO:=hOh.out;rw [List.drop_length] at hO
    have hf:=hO.done (v:=()) hP hK
    clear hO hOh hP hK hl hg bx;go_wp2_with fail
    first | exact hf | (refine bodyPost_ret (results_none rfl _ _ _) rfl ?_;exact hf)
set_option maxRecDepth 100000 in
set_option maxHeartbeats 2000000 in
theorem down_o3 (B p:Nat)(S:TS)(kind:Int)(m place:Nat)(me:Int)(rs T:List Reg)(o:Nat)(hT:T=rs.drop o)(A:Option Addr)(c:Nat)(w:World)(h:Plays B w p S)(hk:kind≠7)(h1:1<=m)(h2:m<=64)(h3:place<m)(hlen:T.length=3*(2 ^ levels m-1))(hc1:T.length<=c)(hc2:c<=9223372036854775807)
  (hreg:T≠[]->∃ b,A=some ⟨b,o*7,none⟩/\RegsAt [2,3,4] w p b rs)(hall:∀ r∈T,r.ok/\me<r.n/\r.told me)(hm0:0<=me) :
  Calls Tryz.prog 94 #[.pointer (some ⟨p,0,none⟩),.slice A T.length c,V Z kind,V Z m,V Z place,V Z me] w (Post encU B p w ((forP (fun x _=>nodeL 3 T me x) (pathL m place).reverse ()).run S)):=by
 generalize hR:Post encU B p w ((forP (fun x _=>nodeL 3 T me x) (pathL m place).reverse ()).run S)=R
 have hO:Owes R encU B p w ((forP (fun x _=>nodeL 3 T me x) (pathL m place).reverse ()).run S):=hR▸owes _ _ _ _ _
 clear hR
 have hTh:=Hd hT
 clear hT
 have hmem:=fun y (hy:y∈pathL m place)=>pathL_mem h2 h3 hy
 have hPth:=fun w=>path_p m place w h1 h2 h3
 have hlv:=lev_le h2
 obtain⟨p1,p2⟩:=pow_le hlv
 have e:(2:Int) ^ levels m=((2 ^ levels m:Nat):Int):=by rw [Int.natCast_pow];rfl
 rw [e] at hmem
 have hll:(pathL m place).length<=128:=by
  have:=pathN_len (2 ^ levels m+place) (2 ^ levels m+place)
  unfold pathL
  omega
 clear e hlv
 generalize 2 ^ levels m=P at *
 generalize pathL m place=l at *
 have hn:nodeV kind=.agg #[.func (.func 235) #[] #[],.func (.func 236) #[] #[],.func (.func 237) #[] #[]]:=by unfold nodeV;rw [if_neg hk];rfl
 have hN:=fun w=>nodeOf_p kind w
 rw [hn] at hN
 have hmemh:=Hd hmem
 have hallh:=Hd hall
 have hlenh:=Hd hlen
 have hOh:=Hd hO;clear hn hk hmem hall hlen hO
 go_enter Tryz.func94,Tryz.ntmps94
 go_wp2_with fail
 refine (hN _).mono ?_
 rintro e w2 ⟨rfl,hx2⟩
 have hK:=Keep.of_ext (ix:=[2,3,4]) (B:=B) hx2 h.lt h.le
 have hP:=h.ext hx2
 have hreg2:T≠[]->∃ b,A=some ⟨b,o*7,none⟩/\RegsAt [2,3,4] w2 p b rs:=fun hne=>by
  obtain⟨b,e1,e2⟩:=hreg hne
  exact⟨b,e1,e2.extL hx2 h.lt⟩
 clear hx2 h hreg
 have bx:=hP.held (.cells #[.func (.func 235) #[] #[],.func (.func 236) #[] #[],.func (.func 237) #[] #[]] 147)
 replace hK:=hK.trans (Keep.alloc (.cells #[.func (.func 235) #[] #[],.func (.func 236) #[] #[],.func (.func 237) #[] #[]] 147) hP.lt hP.le)
 have hreg3:T≠[]->∃ b,A=some ⟨b,o*7,none⟩/\RegsAt [2,3,4] (w2.alloc (.cells #[.func (.func 235) #[] #[],.func (.func 236) #[] #[],.func (.func 237) #[] #[]] 147)) p b rs:=fun hne=>by
  obtain⟨b,e1,e2⟩:=hreg2 hne
  exact⟨b,e1,e2.extL ((Ext.refl w2).alloc (.cells #[.func (.func 235) #[] #[],.func (.func 236) #[] #[],.func (.func 237) #[] #[]] 147)) hP.lt⟩
 replace hP:=hP.alloc (.cells #[.func (.func 235) #[] #[],.func (.func 236) #[] #[],.func (.func 237) #[] #[]] 147)
 clear hreg2;go_wp2_with fail
 generalize w2.heap.size=z at *
 generalize w2.alloc _=W at *
 refine (hPth _).mono ?_
 rintro e w3 ⟨v3,rfl,hrow,hx3⟩
 go_wp2_with fail
 refine (reverse_p hx3 hrow (by omega)).mono ?_
 rintro e w4 ⟨rfl,hx4,hrow4⟩
 obtain⟨A3,c3,rfl,hR⟩:=RowH.of_row (p:=p) (ix:=[2,3,4]) hrow4 (fun b hb=>hP.fresh hx4 hb)
 replace hK:=hK.trans (Keep.of_ext hx4 hP.lt hP.le)
 replace bx:=bx.ext hx4 hP.lt;clear hrow hx3
 have hreg:T≠[]->∃ b,A=some ⟨b,o*7,none⟩/\RegsAt [2,3,4] w4 p b rs:=fun hne=>by
  obtain⟨b,e1,e2⟩:=hreg3 hne
  exact⟨b,e1,e2.extL hx4 hP.lt⟩
 replace hP:=hP.ext hx4;clear hreg3 hx4 hrow4 hPth hN
 have hmem2:∀ y∈l.reverse,2<=y/\y<2*((P:Nat):Int):=fun y hy=>hmemh.out y (List.mem_reverse.1 hy)
 replace hll:l.reverse.length<=128:=by rw [List.length_reverse];exact hll
 generalize l.reverse=l2 at *
 clear hmemh
 have hmemh:=Hd hmem2
 clear hmem2
 by_cases hl0:l2=[]
 · subst hl0
   have hf:=hOh.out.done (v:=()) hP hK
   clear hOh hmemh hR hreg hallh hlenh;go_wp2_with fail
   go_loopw [25] (fun i wr=>i=V Z 0/\w4=wr) (fun _ _=>0)
   case atStart=>exact⟨rfl,rfl⟩
   case round =>
    obtain⟨rfl,rfl⟩:=hrel
    go_wp2_with fail
    first | exact hf | (refine bodyPost_ret (results_none rfl _ _ _) rfl ?_;exact hf)
 obtain⟨g,cur,rfl,hg,hcur⟩:=hR hl0
 obtain⟨b,rfl,hl⟩:=hreg (by
  obtain⟨y,l2',rfl⟩:∃ y l2',l2=y :: l2':=by cases l2 with | nil=>exact absurd rfl hl0 | cons y l2'=>exact⟨y,l2',rfl⟩
  have h1:=hmemh.out y (List.mem_cons_self ..)
  have h2:=hlenh.out;intro hne;rw [hne,List.length_nil] at h2
  omega)
 have hch:=Hd hcur
 clear hreg hR hl0 hcur;go_wp2_with fail
 go_loopw [25] (fun i wr=>∃ (j:Nat) (S2:TS),i=V Z j/\j<=l2.length/\Plays B wr p S2/\KeepP B p w wr/\HeldP wr p z (.cells #[.func (.func 235) #[] #[],.func (.func 236) #[] #[],.func (.func 237) #[] #[]] 147)/\HeldP wr p g (.cells cur 3)/\RegsAt [2,3,4] wr p b rs/\Hid (Owes R encU B p w ((forP (fun x _=>nodeL 3 T me x) (l2.drop j) ()).run S2))) (fun i _=>l2.length-(intOf i).toNat)
 case atStart=>exact⟨0,S,rfl,by omega,hP,hK,bx,hg,hl,hOh⟩
 case round =>
  clear hP hK bx hg hl hOh
  obtain⟨j,S2,rfl,hj,hP,hK,bx,hg,hl,hOh⟩:=hrel
  by_cases hjl:j<l2.length
  · obtain⟨y,hy⟩:∃ y,l2[j]?=some y:=⟨_,List.getElem?_eq_getElem hjl⟩
    have hym:=hmemh.out y (List.mem_of_getElem? hy)
    obtain⟨Y,rfl⟩:∃ Y:Nat,y=(Y:Int):=⟨y.toNat,by omega⟩
    have c_g:=hg.at_ hch.out hy
    have hO:=hOh.out
    rw [List.drop_eq_getElem_cons hjl,show l2[j]=(Y:Int) from by rw [List.getElem?_eq_getElem hjl] at hy;exact Option.some.inj hy] at hO
    have hOk:Hid (Owes R encU B p w (((nodeL 3 T me (Y:Int)).bind fun _=>forP (fun x _=>nodeL 3 T me x) (l2.drop (j+1)) ()).run S2)):=Hd hO
    clear hO hOh hy
    have hn2:Y / 2*3<=T.length:=by have:=hlenh.out;omega
    have hn1:1<=Y / 2:=by omega
    have hlen9:T.length<=1000000:=by have:=hlenh.out;omega
    have hrg:=fun w=>tregs_o3 b c (Y / 2) o T.length w hn1 hn2 hc1 hc2 hlen9
    have hq1:IntKind.i64.wrap ((Y:Int) / 2)=((Y / 2:Nat):Int):=by rw [IntWalk.i64_in _ (by omega)];omega
    have hq2:(Y:Int).tmod 2=(Y:Int) % 2:=Int.tmod_eq_emod_of_nonneg (by omega)
    go_wp2_with fail
    have hS:∀ w',HeldP w' p z (.cells #[.func (.func 235) #[] #[],.func (.func 236) #[] #[],.func (.func 237) #[] #[]] 147)->(∀ i,w'.cell? ⟨z,i,none⟩=(#[.func (.func 235) #[] #[],.func (.func 236) #[] #[],.func (.func 237) #[] #[]]:Array Value)[i]?):=fun w' x=>x.cells
    have c_bx:=bx.cells
    refine wp_region_held_drew (S:=fun w'=>∀ i,w'.cell? ⟨z,i,none⟩=(#[.func (.func 235) #[] #[],.func (.func 236) #[] #[],.func (.func 237) #[] #[]]:Array Value)[i]?) rfl (hS _ bx) (fun hHeld=>?_)
    replace hl:=hl.extL (Ext.refl wr).drew hP.lt
    replace hP:=hP.drew;replace hK:=hK.drew;replace bx:=bx.drew;replace hg:=hg.drew
    refine tkb 0 ?_
    iterate 7
     refine tkn (v:=?_) rfl (by kernel_rfl) (fun _ _ _ h=>h) (by assumption) ?_ ?_
     rotate_left
     · (intro w hSw;(try dsimp only at hSw);go_simp;try with_reducible rfl)
     try simp only [put_pack]
    refine tke ?_
    refine tkb 8 ?_
    iterate 3
     refine tkn (v:=?_) rfl (by kernel_rfl) (fun _ _ _ h=>h) (by assumption) ?_ ?_
     rotate_left
     · (intro w hSw;(try dsimp only at hSw);go_simp;try with_reducible rfl)
     try simp only [put_pack]
    refine tke ?_
    refine wpAnyH_ready (rs:=[7]) (by kernel_rfl) (by simp) ?_
    refine AllReadyH.cons rfl (fun K hKK=>?_) (AllReadyH.nil)
    go_simp
    refine (hrg _).mono ?_
    rintro e w4 ⟨c',rfl,q1,q2,hx⟩
    replace bx:=bx.ext hx hP.lt;replace hg:=hg.ext hx hP.lt;replace hl:=hl.extL hx hP.lt;replace hK:=hK.trans (Keep.of_ext hx hP.lt hP.le);replace hP:=hP.ext hx;clear hx hrg c_g c_bx
    refine hKK.out _ _ (hS _ bx) (fun hHeld=>?_)
    clear hKK K
    try dsimp only
    refine wpAnyH_ready (rs:=[11]) (by kernel_rfl) (by simp) ?_
    refine AllReadyH.cons rfl (fun K hKK=>?_) (AllReadyH.nil)
    go_simp
    refine tstepL hOk.out hK (node_leave_o3 B p (Y / 2) S2 rs T o hTh.out Y me b c' _ hP hl hallh.out hm0 (by omega) hn1 hn2) (fun _ h=>⟨rfl,h⟩) ?_
    clear hK hP hOk;intro u S3 w5 hlf _ hP hk1 hK hO;replace bx:=bx.keep hk1;replace hg:=hg.keep hk1;replace hl:=hl.keep hk1;clear hk1 hlf
    refine hKK.out _ _ (hS _ bx) (fun hHeld=>?_)
    clear hKK K
    try dsimp only
    refine wpAnyH_done (by kernel_rfl) ?_ _
    go_simp
    have hf:=Hd hO
    clear hO hS;go_wp2_with fail
    refine⟨⟨j+1,S3,by go_num,by omega,hP,hK,bx,hg,hl,hf⟩,?_⟩
    simp [intOf];omega
  · obtain rfl:j=l2.length:=by omega
    have hO:=hOh.out;rw [List.drop_length] at hO
    have hf:=hO.done (v:=()) hP hK
    clear hO hOh hP hK hl hg bx;go_wp2_with fail
    first | exact hf | (refine bodyPost_ret (results_none rfl _ _ _) rfl ?_;exact hf)
end Go.Proofs.YtbaajjkopdjbgaaGreat
namespace Kv
def filWant (N i:Nat):Want:=if i<N then ⟨i,N⟩ else ⟨-1,N⟩
def filWants (N:Nat):List Want:=(List.range (2*N-1)).map (filWant N)
def fastWant (N i:Nat):Want:=if i<2 then ⟨-1,N⟩ else ⟨i-2,1⟩
def fastWants (N:Nat):List Want:=(List.range (N+2)).map (fastWant N)
def bwWant (N i:Nat):Want:=if i=0 then ⟨-1,1⟩ else if i<=N then ⟨i-1,1⟩ else ⟨i-1-N,4*N⟩
def bwWants (N:Nat):List Want:=(List.range (2*N+1)).map (bwWant N)
end Kv
namespace Go.Proofs.YtbaajjkopdjbgaaGreat
open Go.RowKit Kv
def wantRow (f:Nat->Want) (n:Nat):List Value:=((List.range n).map f).flatMap wantVals
theorem wants_succ (f:Nat->Want)(j:Nat):wantRow f (j+1)=wantRow f j++wantVals (f j):=by
 unfold wantRow
 rw [List.range_succ,List.map_append,List.flatMap_append]
 simp
theorem wants_row {w:World}{B:Nat}{v:Value}{n:Nat}{f:Nat->Want}(h:w.ownsRow B 179 2 v n (wantRow f n)):WantsAt w v ((List.range n).map f):=by
 have:=Recs.of_row h
 unfold WantsAt
 rw [List.length_map,List.length_range]
 exact this
set_option maxRecDepth 100000 in
theorem filwants_p (N:Nat)(w:World)(h1:1<=N)(h2:N<=8):Calls Tryz.prog 188 #[V Z N] w fun e w'=>∃ v,e=.returned v/\WantsAt w' v (filWants N)/\Ext w w':=by
 have hmx:min (max (N:Int) 1) 8=N:=by omega
 go_enter Tryz.func188,Tryz.ntmps188
 go_wp2_with fail
 go_loopw [3,9] (fun v i wr=>∃ j:Nat,i=V Z j/\j<=N/\wr.ownsRow w.heap.size 179 2 v j (wantRow (filWant N) j)/\Ext w wr) (fun _ i _=>N-(intOf i).toNat)
 case atStart=>exact⟨0,rfl,by omega,World.ownsRow_nil _ _ _ _,Ext.refl _⟩
 case round =>
  obtain⟨j,rfl,hj,hown,hE⟩:=hrel
  by_cases hl:j<N
  · go_wp2_with (at_builtin;refine append_rec info_want Tryz.underlying102 rfl (by decide) (by decide) rfl _ _ rfl _ j _ [V Z j,V Z N] hE hown rfl rfl rfl (by simp [Value.oneCell']) (by omega) ?_)
    intro v' w' ho hx _
    have hoh:=Hd ho
    clear hown ho;go_wp2_with fail
    refine⟨⟨j+1,by go_num,by omega,?_,hx⟩,?_⟩
    · rw [show (j+1)=j+1 from by omega,wants_succ]
      rw [show filWant N (j)=⟨(j:Int),(N:Int)⟩ from by unfold filWant;rw [if_pos hl]]
      exact hoh.out
    · simp [intOf];omega
  · obtain rfl:j=N:=by omega
    have hsub:=IntWalk.i64_in ((j:Int)-1) (by omega)
    have hE0:=Hd hE
    have hown0:=Hd hown
    clear hown hE;go_wp2_with fail
    clear hmx hsub
    go_loopw [3,21] (fun v i wr=>∃ k:Nat,i=V Z k/\k<=j-1/\wr.ownsRow w.heap.size 179 2 v (j+k) (wantRow (filWant j) (j+k))/\Ext w wr) (fun _ i _=>(j-1)-(intOf i).toNat)
    case atStart=>exact⟨0,rfl,by omega,hown0.out,hE0.out⟩
    case round =>
     clear hown0 hE0
     obtain⟨k,rfl,hk,hown,hE⟩:=hrel
     by_cases hl:k<j-1
     · have dl:decide ((k:Int)<(j:Int)-1)=true:=by rw [decide_eq_true_eq];omega
       go_wp2_with (at_builtin;refine append_rec info_want Tryz.underlying102 rfl (by decide) (by decide) rfl _ _ rfl _ (j+k) _ [V Z (-1),V Z j] hE hown rfl rfl rfl (by simp [Value.oneCell']) (by omega) ?_)
       intro v' w' ho hx _
       have hoh:=Hd ho
       clear hown ho;go_wp2_with fail
       refine⟨⟨k+1,by go_num,by omega,?_,hx⟩,?_⟩
       · rw [show j+(k+1)=(j+k)+1 from by omega,wants_succ]
         rw [show filWant j (j+k)=⟨-1,(j:Int)⟩ from by unfold filWant;rw [if_neg (by omega)]]
         exact hoh.out
       · simp [intOf];omega
     · have dl:decide ((k:Int)<(j:Int)-1)=false:=by rw [decide_eq_false_iff_not];omega
       obtain rfl:k=j-1:=by omega
       have hownh:=Hd hown
       clear hown;go_wp2_with fail
       go_ret
       refine⟨_,rfl,?_,hE⟩
       have:=hownh.out
       rw [show j+(j-1)=2*j-1 from by omega] at this
       exact wants_row this
set_option maxRecDepth 100000 in
theorem filwants_r (N:Nat)(w:World)(h1:1<=N)(h2:N<=8):Calls Tryz.prog 178 #[V Z N] w fun e w'=>∃ v,e=.returned v/\WantsAt w' v (filWants N)/\Ext w w':=by
 have hN:nM (N:Int)=N:=nM_id (by omega) (by omega)
 have hw2:=IntWalk.i64_in (2*(N:Int)) (by omega)
 have hw3:=IntWalk.i64_in (2*(N:Int)-1) (by omega)
 go_enter Tryz.func178,Tryz.ntmps178
 go_wp2_with fail
 refine (rn_any ⟨0,0,0,N,0,0,0⟩ _).mono ?_
 rintro e w1 ⟨rfl,hX⟩
 simp only
 rw [hN]
 clear hN
 have hX0:=Hd hX
 clear hX;go_wp2_with fail
 go_loopw [4,5] (fun v i wr=>∃ j:Nat,i=V Z j/\j<=2*N-1/\wr.ownsRow w.heap.size 179 2 v j (wantRow (filWant N) j)/\Ext w wr) (fun _ i _=>(2*N-1)-(intOf i).toNat)
 case atStart=>exact⟨0,rfl,by omega,World.ownsRow_nil _ _ _ _,hX0.out⟩
 case round =>
  clear hX0
  obtain⟨j,rfl,hj,hown,hE⟩:=hrel
  by_cases hl:j<2*N-1
  · have dl:decide ((j:Int)<2*(N:Int)-1)=true:=by rw [decide_eq_true_eq];omega
    by_cases hn:j<N
    · go_wp2_with (at_builtin;refine append_rec info_want Tryz.underlying102 rfl (by decide) (by decide) rfl _ _ rfl _ j _ [V Z j,V Z N] hE hown rfl rfl rfl (by simp [Value.oneCell']) (by omega) ?_)
      intro v' w' ho hx _
      have hoh:=Hd ho
      clear hown ho;go_wp2_with fail
      refine⟨⟨j+1,by go_num,by omega,?_,hx⟩,?_⟩
      · rw [show (j+1)=j+1 from by omega,wants_succ]
        rw [show filWant N (j)=⟨(j:Int),(N:Int)⟩ from by unfold filWant;rw [if_pos hn]]
        exact hoh.out
      · simp [intOf];omega
    · go_wp2_with (at_builtin;refine append_rec info_want Tryz.underlying102 rfl (by decide) (by decide) rfl _ _ rfl _ j _ [V Z (-1),V Z N] hE hown rfl rfl rfl (by simp [Value.oneCell']) (by omega) ?_)
      intro v' w' ho hx _
      have hoh:=Hd ho
      clear hown ho;go_wp2_with fail
      refine⟨⟨j+1,by go_num,by omega,?_,hx⟩,?_⟩
      · rw [show (j+1)=j+1 from by omega,wants_succ]
        rw [show filWant N (j)=⟨-1,(N:Int)⟩ from by unfold filWant;rw [if_neg hn]]
        exact hoh.out
      · simp [intOf];omega
  · have dl:decide ((j:Int)<2*(N:Int)-1)=false:=by rw [decide_eq_false_iff_not];omega
    obtain rfl:j=2*N-1:=by omega
    have hownh:=Hd hown
    clear hown;go_wp2_with fail
    go_ret
    exact⟨_,rfl,wants_row hownh.out,hE⟩
set_option maxRecDepth 100000 in
theorem fastwants_p (N:Nat)(w:World)(h1:1<=N)(h2:N<=8):Calls Tryz.prog 191 #[V Z N] w fun e w'=>∃ v,e=.returned v/\WantsAt w' v (fastWants N)/\Ext w w':=by
 have hmx:min (max (N:Int) 1) 8=N:=by omega
 have hr0:=Hd (row_new w [V Z (-1),V Z N,V Z (-1),V Z N] 179 2 2 rfl (by omega))
 have hx0:=Hd ((Ext.refl w).alloc (.cells [V Z (-1),V Z (N:Int),V Z (-1),V Z (N:Int)].toArray 179))
 go_enter Tryz.func191,Tryz.ntmps191
 go_wp2_with fail
 clear hmx
 go_loopw [3,14] (fun v i wr=>∃ j:Nat,i=V Z j/\j<=N/\wr.ownsRow w.heap.size 179 2 v (j+2) (wantRow (fastWant N) (j+2))/\Ext w wr) (fun _ i _=>N-(intOf i).toNat)
 case atStart=>exact⟨0,rfl,by omega,hr0.out,hx0.out⟩
 case round =>
  clear hr0 hx0
  obtain⟨j,rfl,hj,hown,hE⟩:=hrel
  by_cases hl:j<N
  · go_wp2_with (at_builtin;refine append_rec info_want Tryz.underlying102 rfl (by decide) (by decide) rfl _ _ rfl _ (j+2) _ [V Z j,V Z 1] hE hown rfl rfl rfl (by simp [Value.oneCell']) (by omega) ?_)
    intro v' w' ho hx _
    have hoh:=Hd ho
    clear hown ho;go_wp2_with fail
    refine⟨⟨j+1,by go_num,by omega,?_,hx⟩,?_⟩
    · rw [show ((j+1)+2)=(j+2)+1 from by omega,wants_succ]
      rw [show fastWant N ((j+2))=⟨(j:Int),1⟩ from by unfold fastWant;rw [if_neg (by omega)];congr 1;omega]
      exact hoh.out
    · simp [intOf];omega
  · obtain rfl:j=N:=by omega
    have hownh:=Hd hown
    clear hown;go_wp2_with fail
    go_ret
    exact⟨_,rfl,wants_row hownh.out,hE⟩
set_option maxRecDepth 100000 in
theorem fastwants_r (N:Nat)(w:World)(h1:1<=N)(h2:N<=8):Calls Tryz.prog 179 #[V Z N] w fun e w'=>∃ v,e=.returned v/\WantsAt w' v (fastWants N)/\Ext w w':=by
 have hN:nM (N:Int)=N:=nM_id (by omega) (by omega)
 go_enter Tryz.func179,Tryz.ntmps179
 go_wp2_with fail
 refine (rn_any ⟨0,0,0,N,0,0,0⟩ _).mono ?_
 rintro e w1 ⟨rfl,hX⟩
 simp only
 rw [hN]
 clear hN
 have hX0:=Hd hX
 clear hX;go_wp2_with fail
 go_loopw [4,5] (fun v i wr=>∃ j:Nat,i=V Z ((j:Int)-2)/\j<=N+2/\wr.ownsRow w.heap.size 179 2 v j (wantRow (fastWant N) j)/\Ext w wr) (fun _ i _=>(N+2)-(intOf i+2).toNat)
 case atStart=>exact⟨0,rfl,by omega,World.ownsRow_nil _ _ _ _,hX0.out⟩
 case round =>
  clear hX0
  obtain⟨j,rfl,hj,hown,hE⟩:=hrel
  have hs:=IntWalk.i64_in ((j:Int)-2+1) (by omega)
  by_cases hl:j<N+2
  · have dl:decide ((j:Int)-2<(N:Int))=true:=by rw [decide_eq_true_eq];omega
    by_cases hn:j<2
    · have dn:decide ((j:Int)-2<0)=true:=by rw [decide_eq_true_eq];omega
      go_wp2_with (at_builtin;refine append_rec info_want Tryz.underlying102 rfl (by decide) (by decide) rfl _ _ rfl _ j _ [V Z (-1),V Z N] hE hown rfl rfl rfl (by simp [Value.oneCell']) (by omega) ?_)
      intro v' w' ho hx _
      have hoh:=Hd ho
      clear hown ho;go_wp2_with fail
      refine⟨⟨j+1,by congr 1;omega,by omega,?_,hx⟩,?_⟩
      · rw [show (j+1)=j+1 from by omega,wants_succ]
        rw [show fastWant N (j)=⟨-1,(N:Int)⟩ from by unfold fastWant;rw [if_pos hn]]
        exact hoh.out
      · simp [intOf];omega
    · have dn:decide ((j:Int)-2<0)=false:=by rw [decide_eq_false_iff_not];omega
      go_wp2_with (at_builtin;refine append_rec info_want Tryz.underlying102 rfl (by decide) (by decide) rfl _ _ rfl _ j _ [V Z ((j:Int)-2),V Z 1] hE hown rfl rfl rfl (by simp [Value.oneCell']) (by omega) ?_)
      intro v' w' ho hx _
      have hoh:=Hd ho
      clear hown ho;go_wp2_with fail
      refine⟨⟨j+1,by congr 1;omega,by omega,?_,hx⟩,?_⟩
      · rw [show (j+1)=j+1 from by omega,wants_succ]
        rw [show fastWant N (j)=⟨(j:Int)-2,1⟩ from by unfold fastWant;rw [if_neg hn]]
        exact hoh.out
      · simp [intOf];omega
  · have dl:decide ((j:Int)-2<(N:Int))=false:=by rw [decide_eq_false_iff_not];omega
    obtain rfl:j=N+2:=by omega
    have hownh:=Hd hown
    clear hown;go_wp2_with fail
    go_ret
    exact⟨_,rfl,wants_row hownh.out,hE⟩
set_option maxRecDepth 100000 in
theorem bwwants_p (N:Nat)(w:World)(h1:1<=N)(h2:N<=8):Calls Tryz.prog 185 #[V Z N] w fun e w'=>∃ v,e=.returned v/\WantsAt w' v (bwWants N)/\Ext w w':=by
 have hmx:min (max (N:Int) 1) 8=N:=by omega
 have h4:=IntWalk.i64_in (4*(N:Int)) (by omega)
 have hr0:=Hd (row_new w [V Z (-1),V Z 1] 179 2 1 rfl (by omega))
 have hx0:=Hd ((Ext.refl w).alloc (.cells [V Z (-1),V Z 1].toArray 179))
 go_enter Tryz.func185,Tryz.ntmps185
 go_wp2_with fail
 clear hmx
 go_loopw [3,12] (fun v i wr=>∃ j:Nat,i=V Z j/\j<=N/\wr.ownsRow w.heap.size 179 2 v (j+1) (wantRow (bwWant N) (j+1))/\Ext w wr) (fun _ i _=>N-(intOf i).toNat)
 case atStart=>exact⟨0,rfl,by omega,hr0.out,hx0.out⟩
 case round =>
  clear hr0 hx0
  obtain⟨j,rfl,hj,hown,hE⟩:=hrel
  by_cases hl:j<N
  · go_wp2_with (at_builtin;refine append_rec info_want Tryz.underlying102 rfl (by decide) (by decide) rfl _ _ rfl _ (j+1) _ [V Z j,V Z 1] hE hown rfl rfl rfl (by simp [Value.oneCell']) (by omega) ?_)
    intro v' w' ho hx _
    have hoh:=Hd ho
    clear hown ho;go_wp2_with fail
    refine⟨⟨j+1,by go_num,by omega,?_,hx⟩,?_⟩
    · rw [show ((j+1)+1)=(j+1)+1 from by omega,wants_succ]
      rw [show bwWant N ((j+1))=⟨(j:Int),1⟩ from by unfold bwWant;rw [if_neg (by omega),if_pos (by omega)];congr 1;omega]
      exact hoh.out
    · simp [intOf];omega
  · obtain rfl:j=N:=by omega
    have hE0:=Hd hE
    have hown0:=Hd hown
    clear hown hE;go_wp2_with fail
    go_loopw [3,22] (fun v i wr=>∃ k:Nat,i=V Z k/\k<=j/\wr.ownsRow w.heap.size 179 2 v (j+1+k) (wantRow (bwWant j) (j+1+k))/\Ext w wr) (fun _ i _=>j-(intOf i).toNat)
    case atStart=>exact⟨0,rfl,by omega,hown0.out,hE0.out⟩
    case round =>
     clear hown0 hE0
     obtain⟨k,rfl,hk,hown,hE⟩:=hrel
     by_cases hl:k<j
     · go_wp2_with (at_builtin;refine append_rec info_want Tryz.underlying102 rfl (by decide) (by decide) rfl _ _ rfl _ (j+1+k) _ [V Z k,V Z (4*(j:Int))] hE hown rfl rfl rfl (by simp [Value.oneCell']) (by omega) ?_)
       intro v' w' ho hx _
       have hoh:=Hd ho
       clear hown ho;go_wp2_with fail
       refine⟨⟨k+1,by go_num,by omega,?_,hx⟩,?_⟩
       · rw [show j+1+(k+1)=(j+1+k)+1 from by omega,wants_succ]
         rw [show bwWant j (j+1+k)=⟨(k:Int),4*(j:Int)⟩ from by unfold bwWant;rw [if_neg (by omega),if_neg (by omega)];congr 1;omega]
         exact hoh.out
       · simp [intOf];omega
     · obtain rfl:k=j:=by omega
       have hownh:=Hd hown
       clear hown;go_wp2_with fail
       go_ret
       refine⟨_,rfl,?_,hE⟩
       have:=hownh.out
       rw [show k+1+k=2*k+1 from by omega] at this
       exact wants_row this
set_option maxRecDepth 100000 in
theorem bwwants_r (N:Nat)(w:World)(h1:1<=N)(h2:N<=8):Calls Tryz.prog 177 #[V Z N] w fun e w'=>∃ v,e=.returned v/\WantsAt w' v (bwWants N)/\Ext w w':=by
 have hN:nM (N:Int)=N:=nM_id (by omega) (by omega)
 have h4:=IntWalk.i64_in (4*(N:Int)) (by omega)
 have hw2:=IntWalk.i64_in (2*(N:Int)) (by omega)
 go_enter Tryz.func177,Tryz.ntmps177
 go_wp2_with fail
 refine (rn_any ⟨0,0,0,N,0,0,0⟩ _).mono ?_
 rintro e w1 ⟨rfl,hX⟩
 simp only
 rw [hN]
 clear hN
 have hr0:=Hd (row_base (row_new w1 [V Z (-1),V Z 1] 179 2 1 rfl (by omega)) hX.size)
 have hX0:=Hd (hX.alloc (.cells [V Z (-1),V Z 1].toArray 179))
 clear hX;go_wp2_with fail
 go_loopw [4,5] (fun v i wr=>∃ j:Nat,i=V Z j/\j<=2*N/\wr.ownsRow w.heap.size 179 2 v (j+1) (wantRow (bwWant N) (j+1))/\Ext w wr) (fun _ i _=>(2*N)-(intOf i).toNat)
 case atStart=>exact⟨0,rfl,by omega,hr0.out,hX0.out⟩
 case round =>
  clear hr0 hX0
  obtain⟨j,rfl,hj,hown,hE⟩:=hrel
  by_cases hl:j<2*N
  · have dl:decide ((j:Int)<2*(N:Int))=true:=by rw [decide_eq_true_eq];omega
    by_cases hn:j<N
    · have dn:decide ((N:Int)<=(j:Int))=false:=by rw [decide_eq_false_iff_not];omega
      have hE1:=hE.alloc (.cells #[V Z j,V Z 1] 179)
      have ho1:=World.ownsRow.alloc hown (.cells #[V Z j,V Z 1] 179)
      clear hown hE
      go_wp2_with (at_builtin;refine append_rec info_want Tryz.underlying102 rfl (by decide) (by decide) rfl _ _ rfl _ (j+1) _ [V Z j,V Z 1] hE1 ho1 rfl (by simp [Act.eval,World.size_alloc]) rfl (by simp [Value.oneCell']) (by omega) ?_)
      intro v' w' ho hx _
      have hoh:=Hd ho
      clear ho1 ho;go_wp2_with fail
      refine⟨⟨j+1,by go_num,by omega,?_,hx⟩,?_⟩
      · rw [wants_succ]
        rw [show bwWant N (j+1)=⟨(j:Int),1⟩ from by unfold bwWant;rw [if_neg (by omega),if_pos (by omega)];congr 1;omega]
        exact hoh.out
      · simp [intOf];omega
    · have dn:decide ((N:Int)<=(j:Int))=true:=by rw [decide_eq_true_eq];omega
      have hs:=IntWalk.i64_in ((j:Int)-(N:Int)) (by omega)
      have hE1:=hE.alloc (.cells #[V Z ((j:Int)-(N:Int)),V Z (4*(N:Int))] 179)
      have ho1:=World.ownsRow.alloc hown (.cells #[V Z ((j:Int)-(N:Int)),V Z (4*(N:Int))] 179)
      clear hown hE
      go_wp2_with (at_builtin;refine append_rec info_want Tryz.underlying102 rfl (by decide) (by decide) rfl _ _ rfl _ (j+1) _ [V Z ((j:Int)-(N:Int)),V Z (4*(N:Int))] hE1 ho1 rfl (by simp [Act.eval,World.size_alloc]) rfl (by simp [Value.oneCell']) (by omega) ?_)
      intro v' w' ho hx _
      have hoh:=Hd ho
      clear ho1 ho;go_wp2_with fail
      refine⟨⟨j+1,by go_num,by omega,?_,hx⟩,?_⟩
      · rw [wants_succ]
        rw [show bwWant N (j+1)=⟨(j:Int)-(N:Int),4*(N:Int)⟩ from by unfold bwWant;rw [if_neg (by omega),if_neg (by omega)];congr 1;omega]
        exact hoh.out
      · simp [intOf];omega
  · have dl:decide ((j:Int)<2*(N:Int))=false:=by rw [decide_eq_false_iff_not];omega
    obtain rfl:j=2*N:=by omega
    have hownh:=Hd hown
    clear hown;go_wp2_with fail
    go_ret
    exact⟨_,rfl,wants_row hownh.out,hE⟩
theorem within_p (a m:Int)(w:World)(h:0<=a/\0<=m/\m<=10000):Calls Tryz.prog 273 #[V Z a,V Z m,V Z 32768] w fun e w'=>e=.returned (.bool (decide (a<=32768)&&decide (a+m<=32768)))/\w=w':=by
 obtain⟨h0,h1,h2⟩:=h
 by_cases e1:a<=32768
 · have d:decide (a<=32768)=true:=by simpa using e1
   rw [d,Bool.true_and]
   go_enter Tryz.func273,Tryz.ntmps273
   go_wp2_with fail
   go_ret
   exact⟨rfl,rfl⟩
 · have d:decide (a<=32768)=false:=by simpa using e1
   rw [d,Bool.false_and]
   go_enter Tryz.func273,Tryz.ntmps273
   go_wp2_with fail
   go_ret
   exact⟨rfl,rfl⟩
theorem greatest1_p (w:World):Calls Tryz.prog 272 #[V Z 1] w fun e w'=>e=.returned (V Z 1099511627776)/\w=w':=by
 go_enter Tryz.func272,Tryz.ntmps272
 go_wp2_with fail
 go_ret
 exact⟨rfl,rfl⟩
theorem greatest6_p (w:World):Calls Tryz.prog 272 #[V Z 6] w fun e w'=>e=.returned (V Z 1048576)/\w=w':=by
 go_enter Tryz.func272,Tryz.ntmps272
 go_wp2_with fail
 go_ret
 exact⟨rfl,rfl⟩
theorem greatest7_p (w:World):Calls Tryz.prog 272 #[V Z 7] w fun e w'=>e=.returned (V Z 255)/\w=w':=by
 go_enter Tryz.func272,Tryz.ntmps272
 go_wp2_with fail
 go_ret
 exact⟨rfl,rfl⟩
theorem mlocals_p (n:Int)(w:World)(h1:1<=n)(h2:n<=8):Calls Tryz.prog 280 #[V Z n] w fun e w'=>e=.returned (V Z (n*(2+18*(n-1)*(n-1))))/\w=w':=by
 have hb:=locals_bd n h1 h2
 go_enter Tryz.func280,Tryz.ntmps280
 go_wp2_with fail
 refine (mthreads_p n _ h1 h2).mono ?_
 rintro e w' ⟨rfl,rfl⟩;go_wp2_with fail
 refine (tlocals_p n _ h1 h2).mono ?_
 rintro e w' ⟨rfl,rfl⟩;go_wp2_with fail
 go_ret
 exact⟨rfl,rfl⟩
theorem locals_p (r:Reg)(w:World)(hk:r.kind=1∨r.kind=6∨r.kind=7)(hn:1<=r.n/\r.n<=8):Calls Tryz.prog 226 #[encR r] w fun e w'=>e=.returned (V Z (localsM r))/\Ext w w':=by
 obtain⟨kind,base,loc,n,wr,rd,top⟩:=r
 simp only at hk hn
 unfold encR localsM
 simp only
 have hX:=Ext.refl w
 have b1:=Blk.new w (.cells #[V Z kind,V Z base,V Z loc,V Z n,V Z wr,V Z rd,V Z top] 67)
 replace hX:=hX.alloc (.cells #[V Z kind,V Z base,V Z loc,V Z n,V Z wr,V Z rd,V Z top] 67)
 have c_b1:=b1.cells
 rcases hk with rfl | rfl | rfl
 · go_enter Tryz.func226,Tryz.ntmps226
   go_wp2_with fail
   go_ret
   exact⟨rfl,hX⟩
 · go_enter Tryz.func226,Tryz.ntmps226
   go_wp2_with fail
   refine (tlocals_p n _ hn.1 hn.2).mono ?_
   rintro e w' ⟨rfl,rfl⟩;go_wp2_with fail
   go_ret
   exact⟨rfl,hX⟩
 · go_enter Tryz.func226,Tryz.ntmps226
   go_wp2_with fail
   refine (mlocals_p n _ hn.1 hn.2).mono ?_
   rintro e w' ⟨rfl,rfl⟩;go_wp2_with fail
   go_ret
   exact⟨rfl,hX⟩
set_option maxRecDepth 100000 in
set_option maxHeartbeats 2000000 in
theorem pfine1_p (base loc n wr top C D:Int)(w:World)(hb:0<=base)(hl:0<=loc)(hn:1<=n/\n<=8)(hw:-1<=wr/\wr<n)(ht:1<=top/\top<=255)(hz:0<=C/\C<=6272/\0<=D/\D<=7072)
  (hC:∀ w,Calls Tryz.prog 225 #[.agg #[V Z 1,V Z base,V Z loc,V Z n,V Z wr,V Z (-1),V Z top]] w fun e w'=>e=.returned (V Z C)/\Ext w w')
  (hL:∀ w,Calls Tryz.prog 226 #[.agg #[V Z 1,V Z base,V Z loc,V Z n,V Z wr,V Z (-1),V Z top]] w fun e w'=>e=.returned (V Z D)/\Ext w w') :
  Calls Tryz.prog 224 #[.agg #[V Z 1,V Z base,V Z loc,V Z n,V Z wr,V Z (-1),V Z top]] w fun e w'=>e=.returned (.bool (decide (base<=32768)&&decide (loc<=32768)&&decide (base+C<=32768)&&decide (loc+D<=32768)))/\Ext w w':=by
 have d3:decide (n<1)=false:=by simpa using hn.1
 have d4:decide (8<n)=false:=by simpa using hn.2
 have d5:decide (top<1)=false:=by simpa using ht.1
 have d6:decide (1099511627776<top)=false:=by rw [decide_eq_false_iff_not];omega
 have d7:decide (wr < -1)=false:=by rw [decide_eq_false_iff_not];omega
 have d8:decide (n<=wr)=false:=by rw [decide_eq_false_iff_not];omega
 have d9:decide (n<=-1)=false:=by rw [decide_eq_false_iff_not];omega
 have hX:=Ext.refl w
 have b1:=Blk.new w (.cells #[V Z 1,V Z base,V Z loc,V Z n,V Z wr,V Z (-1),V Z top] 67)
 replace hX:=hX.alloc (.cells #[V Z 1,V Z base,V Z loc,V Z n,V Z wr,V Z (-1),V Z top] 67)
 have c_b1:=b1.cells
 have hW1:=fun w=>within_p base C w ⟨hb,by omega⟩
 have hW2:=fun w=>within_p loc D w ⟨hl,by omega⟩
 have he:(decide (base<=32768)&&decide (loc<=32768)&&decide (base+C<=32768)&&decide (loc+D<=32768))=((decide (base<=32768)&&decide (base+C<=32768))&&(decide (loc<=32768)&&decide (loc+D<=32768))):=by
  cases decide (base<=32768) <;> cases decide (loc<=32768) <;> simp
 rw [he]
 clear he
 generalize (decide (base<=32768)&&decide (base+C<=32768))=F1 at *
 generalize (decide (loc<=32768)&&decide (loc+D<=32768))=F2 at *
 clear hz hb hl hn hw ht
 go_enter Tryz.func224,Tryz.ntmps224
 go_wp2_with fail
 generalize w.alloc (.cells #[V Z 1,V Z base,V Z loc,V Z n,V Z wr,V Z (-1),V Z top] 67)=W0 at *
 have hE:=hX.drew;replace b1:=b1.drew;clear hX c_b1;have hX:=hE;have c_b1:=b1.cells
 go_region_held2 (fun w'=>∀ i,w'.cell? ⟨w.heap.size,i,none⟩=(#[V Z 1,V Z base,V Z loc,V Z n,V Z wr,V Z (-1),V Z top]:Array Value)[i]?) (exact c_b1)
  (first
    | (go_at_call 272
       refine (greatest1_p _).mono ?_
       rintro e w' ⟨rfl,rfl⟩))
 rename_i hh
 clear hh hE
 generalize W0.drew=W at *
 go_wp2_with fail
 have hS:∀ w',Ext W w'->(∀ i,w'.cell? ⟨w.heap.size,i,none⟩=(#[V Z 1,V Z base,V Z loc,V Z n,V Z wr,V Z (-1),V Z top]:Array Value)[i]?):=fun w' hx=>(b1.ext hx).cells
 have hXW:=hX;clear hX c_b1
 have hX:=(Ext.refl W).drew
 cases F1 with
 | true =>
   go_region_held2 (fun w'=>∀ i,w'.cell? ⟨w.heap.size,i,none⟩=(#[V Z 1,V Z base,V Z loc,V Z n,V Z wr,V Z (-1),V Z top]:Array Value)[i]?) (exact hS _ hX)
    (first
       | (go_at_call 225
          refine (hC _).mono ?_
          rintro e w2 ⟨rfl,hx⟩
          replace hX:=hX.trans hx
          clear hx)
       | (go_at_call 226
          refine (hL _).mono ?_
          rintro e w2 ⟨rfl,hx⟩
          replace hX:=hX.trans hx
          clear hx)
       | (go_at_call_of 273 (Value.int IntKind.i64 base)
          refine (hW1 _).mono ?_
          rintro e w' ⟨rfl,rfl⟩)
       | (go_at_call_of 273 (Value.int IntKind.i64 loc)
          refine (hW2 _).mono ?_
          rintro e w' ⟨rfl,rfl⟩))
   go_wp2_with fail
   go_ret
   exact⟨rfl,hXW.trans hX⟩
 | false =>
   refine wp_region_held_drew (S:=(fun w'=>∀ i,w'.cell? ⟨w.heap.size,i,none⟩=(#[V Z 1,V Z base,V Z loc,V Z n,V Z wr,V Z (-1),V Z top]:Array Value)[i]?)) rfl (hS _ hX) (fun hHeld=>?_)
   refine tkb 0 ?_
   iterate 3
    refine tkn (v:=?_) rfl (by kernel_rfl) (fun _ _ _ h=>h) (by assumption) ?_ ?_
    rotate_left
    · (intro w hSw;(try dsimp only at hSw);go_simp;try with_reducible rfl)
    try simp only [put_pack]
   refine tke ?_
   refine wpAnyH_ready (rs:=[3]) (by kernel_rfl) (by simp) ?_
   refine AllReadyH.cons rfl (fun K hKK=>?_) (AllReadyH.nil)
   go_simp
   refine (hC _).mono ?_
   rintro e w2 ⟨rfl,hx⟩
   replace hX:=hX.trans hx;clear hx
   refine hKK.out _ _ (hS _ hX) (fun hHeld=>?_)
   clear hKK K
   try dsimp only
   refine wpAnyH_ready (rs:=[4]) (by kernel_rfl) (by simp) ?_
   refine AllReadyH.cons rfl (fun K hKK=>?_) (AllReadyH.nil)
   go_simp
   refine (hW1 _).mono ?_
   rintro e w' ⟨rfl,rfl⟩
   refine hKK.out _ _ (hS _ hX) (fun hHeld=>?_)
   clear hKK K
   try dsimp only
   refine tk 5 (v:=?_) rfl (by kernel_rfl) (fun _ _ _ h=>h) (by assumption) ?_ ?_
   rotate_left
   · (intro w hSw;(try dsimp only at hSw);go_simp;try with_reducible rfl)
   try simp only [put_pack]
   refine sk 6 rfl (by kernel_rfl) (fun _ _ _ h=>h) (by assumption) ?_
   try simp only [put_pack]
   refine sk 7 rfl (by kernel_rfl) (fun _ _ _ h=>h) (by assumption) ?_
   try simp only [put_pack]
   refine sk 8 rfl (by kernel_rfl) (fun _ _ _ h=>h) (by assumption) ?_
   try simp only [put_pack]
   refine sk 9 rfl (by kernel_rfl) (fun _ _ _ h=>h) (by assumption) ?_
   try simp only [put_pack]
   refine sk 10 rfl (by kernel_rfl) (fun _ _ _ h=>h) (by assumption) ?_
   try simp only [put_pack]
   refine tk 11 (v:=?_) rfl (by kernel_rfl) (fun _ _ _ h=>h) (by assumption) ?_ ?_
   rotate_left
   · (intro w hSw;(try dsimp only at hSw);go_simp;try with_reducible rfl)
   try simp only [put_pack]
   refine tk 12 (v:=?_) rfl (by kernel_rfl) (fun _ _ _ h=>h) (by assumption) ?_ ?_
   rotate_left
   · (intro w hSw;(try dsimp only at hSw);go_simp;try with_reducible rfl)
   try simp only [put_pack]
   refine wpAnyH_done (by kernel_rfl) ?_ _
   go_simp
   go_wp2_with fail
   go_ret
   refine⟨?_,hXW.trans hX⟩
   rfl
set_option maxRecDepth 100000 in
set_option maxHeartbeats 2000000 in
theorem pfine6_p (base loc n wr top C D:Int)(w:World)(hb:0<=base)(hl:0<=loc)(hn:1<=n/\n<=8)(hw:0<=wr/\wr<n)(ht:1<=top/\top<=255)(hz:0<=C/\C<=6272/\0<=D/\D<=7072)
  (hC:∀ w,Calls Tryz.prog 225 #[.agg #[V Z 6,V Z base,V Z loc,V Z n,V Z wr,V Z (-1),V Z top]] w fun e w'=>e=.returned (V Z C)/\Ext w w')
  (hL:∀ w,Calls Tryz.prog 226 #[.agg #[V Z 6,V Z base,V Z loc,V Z n,V Z wr,V Z (-1),V Z top]] w fun e w'=>e=.returned (V Z D)/\Ext w w') :
  Calls Tryz.prog 224 #[.agg #[V Z 6,V Z base,V Z loc,V Z n,V Z wr,V Z (-1),V Z top]] w fun e w'=>e=.returned (.bool (decide (base<=32768)&&decide (loc<=32768)&&decide (base+C<=32768)&&decide (loc+D<=32768)))/\Ext w w':=by
 have d3:decide (n<1)=false:=by simpa using hn.1
 have d4:decide (8<n)=false:=by simpa using hn.2
 have d5:decide (top<1)=false:=by simpa using ht.1
 have d6:decide (1048576<top)=false:=by rw [decide_eq_false_iff_not];omega
 have d7:decide (wr < -1)=false:=by rw [decide_eq_false_iff_not];omega
 have d8:decide (n<=wr)=false:=by rw [decide_eq_false_iff_not];omega
 have d9:decide (n<=-1)=false:=by rw [decide_eq_false_iff_not];omega
 have dn:(wr==-1)=false:=by rw [beq_eq_false_iff_ne];omega
 have hX:=Ext.refl w
 have b1:=Blk.new w (.cells #[V Z 6,V Z base,V Z loc,V Z n,V Z wr,V Z (-1),V Z top] 67)
 replace hX:=hX.alloc (.cells #[V Z 6,V Z base,V Z loc,V Z n,V Z wr,V Z (-1),V Z top] 67)
 have c_b1:=b1.cells
 have hW1:=fun w=>within_p base C w ⟨hb,by omega⟩
 have hW2:=fun w=>within_p loc D w ⟨hl,by omega⟩
 have he:(decide (base<=32768)&&decide (loc<=32768)&&decide (base+C<=32768)&&decide (loc+D<=32768))=((decide (base<=32768)&&decide (base+C<=32768))&&(decide (loc<=32768)&&decide (loc+D<=32768))):=by
  cases decide (base<=32768) <;> cases decide (loc<=32768) <;> simp
 rw [he]
 clear he
 generalize (decide (base<=32768)&&decide (base+C<=32768))=F1 at *
 generalize (decide (loc<=32768)&&decide (loc+D<=32768))=F2 at *
 clear hz hb hl hn hw ht
 go_enter Tryz.func224,Tryz.ntmps224
 go_wp2_with fail
 generalize w.alloc (.cells #[V Z 6,V Z base,V Z loc,V Z n,V Z wr,V Z (-1),V Z top] 67)=W0 at *
 have hE:=hX.drew;replace b1:=b1.drew;clear hX c_b1;have hX:=hE;have c_b1:=b1.cells
 go_region_held2 (fun w'=>∀ i,w'.cell? ⟨w.heap.size,i,none⟩=(#[V Z 6,V Z base,V Z loc,V Z n,V Z wr,V Z (-1),V Z top]:Array Value)[i]?) (exact c_b1)
  (first
    | (go_at_call 272
       refine (greatest6_p _).mono ?_
       rintro e w' ⟨rfl,rfl⟩))
 rename_i hh
 clear hh hE
 generalize W0.drew=W at *
 go_wp2_with fail
 have hS:∀ w',Ext W w'->(∀ i,w'.cell? ⟨w.heap.size,i,none⟩=(#[V Z 6,V Z base,V Z loc,V Z n,V Z wr,V Z (-1),V Z top]:Array Value)[i]?):=fun w' hx=>(b1.ext hx).cells
 have hXW:=hX;clear hX c_b1
 have hX:=(Ext.refl W).drew
 cases F1 with
 | true =>
   go_region_held2 (fun w'=>∀ i,w'.cell? ⟨w.heap.size,i,none⟩=(#[V Z 6,V Z base,V Z loc,V Z n,V Z wr,V Z (-1),V Z top]:Array Value)[i]?) (exact hS _ hX)
    (first
       | (go_at_call 225
          refine (hC _).mono ?_
          rintro e w2 ⟨rfl,hx⟩
          replace hX:=hX.trans hx
          clear hx)
       | (go_at_call 226
          refine (hL _).mono ?_
          rintro e w2 ⟨rfl,hx⟩
          replace hX:=hX.trans hx
          clear hx)
       | (go_at_call_of 273 (Value.int IntKind.i64 base)
          refine (hW1 _).mono ?_
          rintro e w' ⟨rfl,rfl⟩)
       | (go_at_call_of 273 (Value.int IntKind.i64 loc)
          refine (hW2 _).mono ?_
          rintro e w' ⟨rfl,rfl⟩))
   go_wp2_with fail
   go_ret
   exact⟨rfl,hXW.trans hX⟩
 | false =>
   refine wp_region_held_drew (S:=(fun w'=>∀ i,w'.cell? ⟨w.heap.size,i,none⟩=(#[V Z 6,V Z base,V Z loc,V Z n,V Z wr,V Z (-1),V Z top]:Array Value)[i]?)) rfl (hS _ hX) (fun hHeld=>?_)
   refine tkb 0 ?_
   iterate 3
    refine tkn (v:=?_) rfl (by kernel_rfl) (fun _ _ _ h=>h) (by assumption) ?_ ?_
    rotate_left
    · (intro w hSw;(try dsimp only at hSw);go_simp;try with_reducible rfl)
    try simp only [put_pack]
   refine tke ?_
   refine wpAnyH_ready (rs:=[3]) (by kernel_rfl) (by simp) ?_
   refine AllReadyH.cons rfl (fun K hKK=>?_) (AllReadyH.nil)
   go_simp
   refine (hC _).mono ?_
   rintro e w2 ⟨rfl,hx⟩
   replace hX:=hX.trans hx;clear hx
   refine hKK.out _ _ (hS _ hX) (fun hHeld=>?_)
   clear hKK K
   try dsimp only
   refine wpAnyH_ready (rs:=[4]) (by kernel_rfl) (by simp) ?_
   refine AllReadyH.cons rfl (fun K hKK=>?_) (AllReadyH.nil)
   go_simp
   refine (hW1 _).mono ?_
   rintro e w' ⟨rfl,rfl⟩
   refine hKK.out _ _ (hS _ hX) (fun hHeld=>?_)
   clear hKK K
   try dsimp only
   refine tk 5 (v:=?_) rfl (by kernel_rfl) (fun _ _ _ h=>h) (by assumption) ?_ ?_
   rotate_left
   · (intro w hSw;(try dsimp only at hSw);go_simp;try with_reducible rfl)
   try simp only [put_pack]
   refine sk 6 rfl (by kernel_rfl) (fun _ _ _ h=>h) (by assumption) ?_
   try simp only [put_pack]
   refine sk 7 rfl (by kernel_rfl) (fun _ _ _ h=>h) (by assumption) ?_
   try simp only [put_pack]
   refine sk 8 rfl (by kernel_rfl) (fun _ _ _ h=>h) (by assumption) ?_
   try simp only [put_pack]
   refine sk 9 rfl (by kernel_rfl) (fun _ _ _ h=>h) (by assumption) ?_
   try simp only [put_pack]
   refine sk 10 rfl (by kernel_rfl) (fun _ _ _ h=>h) (by assumption) ?_
   try simp only [put_pack]
   refine tk 11 (v:=?_) rfl (by kernel_rfl) (fun _ _ _ h=>h) (by assumption) ?_ ?_
   rotate_left
   · (intro w hSw;(try dsimp only at hSw);go_simp;try with_reducible rfl)
   try simp only [put_pack]
   refine tk 12 (v:=?_) rfl (by kernel_rfl) (fun _ _ _ h=>h) (by assumption) ?_ ?_
   rotate_left
   · (intro w hSw;(try dsimp only at hSw);go_simp;try with_reducible rfl)
   try simp only [put_pack]
   refine wpAnyH_done (by kernel_rfl) ?_ _
   go_simp
   go_wp2_with fail
   go_ret
   refine⟨?_,hXW.trans hX⟩
   rfl
set_option maxRecDepth 100000 in
set_option maxHeartbeats 2000000 in
theorem pfine7_p (base loc n wr top C D:Int)(w:World)(hb:0<=base)(hl:0<=loc)(hn:1<=n/\n<=8)(hw:-1<=wr/\wr<n)(ht:1<=top/\top<=255)(hz:0<=C/\C<=6272/\0<=D/\D<=7072)
  (hC:∀ w,Calls Tryz.prog 225 #[.agg #[V Z 7,V Z base,V Z loc,V Z n,V Z wr,V Z (-1),V Z top]] w fun e w'=>e=.returned (V Z C)/\Ext w w')
  (hL:∀ w,Calls Tryz.prog 226 #[.agg #[V Z 7,V Z base,V Z loc,V Z n,V Z wr,V Z (-1),V Z top]] w fun e w'=>e=.returned (V Z D)/\Ext w w') :
  Calls Tryz.prog 224 #[.agg #[V Z 7,V Z base,V Z loc,V Z n,V Z wr,V Z (-1),V Z top]] w fun e w'=>e=.returned (.bool (decide (base<=32768)&&decide (loc<=32768)&&decide (base+C<=32768)&&decide (loc+D<=32768)))/\Ext w w':=by
 have d3:decide (n<1)=false:=by simpa using hn.1
 have d4:decide (8<n)=false:=by simpa using hn.2
 have d5:decide (top<1)=false:=by simpa using ht.1
 have d6:decide (255<top)=false:=by rw [decide_eq_false_iff_not];omega
 have d7:decide (wr < -1)=false:=by rw [decide_eq_false_iff_not];omega
 have d8:decide (n<=wr)=false:=by rw [decide_eq_false_iff_not];omega
 have d9:decide (n<=-1)=false:=by rw [decide_eq_false_iff_not];omega
 have hX:=Ext.refl w
 have b1:=Blk.new w (.cells #[V Z 7,V Z base,V Z loc,V Z n,V Z wr,V Z (-1),V Z top] 67)
 replace hX:=hX.alloc (.cells #[V Z 7,V Z base,V Z loc,V Z n,V Z wr,V Z (-1),V Z top] 67)
 have c_b1:=b1.cells
 have hW1:=fun w=>within_p base C w ⟨hb,by omega⟩
 have hW2:=fun w=>within_p loc D w ⟨hl,by omega⟩
 have he:(decide (base<=32768)&&decide (loc<=32768)&&decide (base+C<=32768)&&decide (loc+D<=32768))=((decide (base<=32768)&&decide (base+C<=32768))&&(decide (loc<=32768)&&decide (loc+D<=32768))):=by
  cases decide (base<=32768) <;> cases decide (loc<=32768) <;> simp
 rw [he]
 clear he
 generalize (decide (base<=32768)&&decide (base+C<=32768))=F1 at *
 generalize (decide (loc<=32768)&&decide (loc+D<=32768))=F2 at *
 clear hz hb hl hn hw ht
 go_enter Tryz.func224,Tryz.ntmps224
 go_wp2_with fail
 generalize w.alloc (.cells #[V Z 7,V Z base,V Z loc,V Z n,V Z wr,V Z (-1),V Z top] 67)=W0 at *
 have hE:=hX.drew;replace b1:=b1.drew;clear hX c_b1;have hX:=hE;have c_b1:=b1.cells
 go_region_held2 (fun w'=>∀ i,w'.cell? ⟨w.heap.size,i,none⟩=(#[V Z 7,V Z base,V Z loc,V Z n,V Z wr,V Z (-1),V Z top]:Array Value)[i]?) (exact c_b1)
  (first
    | (go_at_call 272
       refine (greatest7_p _).mono ?_
       rintro e w' ⟨rfl,rfl⟩))
 rename_i hh
 clear hh hE
 generalize W0.drew=W at *
 go_wp2_with fail
 have hS:∀ w',Ext W w'->(∀ i,w'.cell? ⟨w.heap.size,i,none⟩=(#[V Z 7,V Z base,V Z loc,V Z n,V Z wr,V Z (-1),V Z top]:Array Value)[i]?):=fun w' hx=>(b1.ext hx).cells
 have hXW:=hX;clear hX c_b1
 have hX:=(Ext.refl W).drew
 cases F1 with
 | true =>
   go_region_held2 (fun w'=>∀ i,w'.cell? ⟨w.heap.size,i,none⟩=(#[V Z 7,V Z base,V Z loc,V Z n,V Z wr,V Z (-1),V Z top]:Array Value)[i]?) (exact hS _ hX)
    (first
       | (go_at_call 225
          refine (hC _).mono ?_
          rintro e w2 ⟨rfl,hx⟩
          replace hX:=hX.trans hx
          clear hx)
       | (go_at_call 226
          refine (hL _).mono ?_
          rintro e w2 ⟨rfl,hx⟩
          replace hX:=hX.trans hx
          clear hx)
       | (go_at_call_of 273 (Value.int IntKind.i64 base)
          refine (hW1 _).mono ?_
          rintro e w' ⟨rfl,rfl⟩)
       | (go_at_call_of 273 (Value.int IntKind.i64 loc)
          refine (hW2 _).mono ?_
          rintro e w' ⟨rfl,rfl⟩))
   go_wp2_with fail
   go_ret
   exact⟨rfl,hXW.trans hX⟩
 | false =>
   refine wp_region_held_drew (S:=(fun w'=>∀ i,w'.cell? ⟨w.heap.size,i,none⟩=(#[V Z 7,V Z base,V Z loc,V Z n,V Z wr,V Z (-1),V Z top]:Array Value)[i]?)) rfl (hS _ hX) (fun hHeld=>?_)
   refine tkb 0 ?_
   iterate 3
    refine tkn (v:=?_) rfl (by kernel_rfl) (fun _ _ _ h=>h) (by assumption) ?_ ?_
    rotate_left
    · (intro w hSw;(try dsimp only at hSw);go_simp;try with_reducible rfl)
    try simp only [put_pack]
   refine tke ?_
   refine wpAnyH_ready (rs:=[3]) (by kernel_rfl) (by simp) ?_
   refine AllReadyH.cons rfl (fun K hKK=>?_) (AllReadyH.nil)
   go_simp
   refine (hC _).mono ?_
   rintro e w2 ⟨rfl,hx⟩
   replace hX:=hX.trans hx;clear hx
   refine hKK.out _ _ (hS _ hX) (fun hHeld=>?_)
   clear hKK K
   try dsimp only
   refine wpAnyH_ready (rs:=[4]) (by kernel_rfl) (by simp) ?_
   refine AllReadyH.cons rfl (fun K hKK=>?_) (AllReadyH.nil)
   go_simp
   refine (hW1 _).mono ?_
   rintro e w' ⟨rfl,rfl⟩
   refine hKK.out _ _ (hS _ hX) (fun hHeld=>?_)
   clear hKK K
   try dsimp only
   refine tk 5 (v:=?_) rfl (by kernel_rfl) (fun _ _ _ h=>h) (by assumption) ?_ ?_
   rotate_left
   · (intro w hSw;(try dsimp only at hSw);go_simp;try with_reducible rfl)
   try simp only [put_pack]
   refine sk 6 rfl (by kernel_rfl) (fun _ _ _ h=>h) (by assumption) ?_
   try simp only [put_pack]
   refine sk 7 rfl (by kernel_rfl) (fun _ _ _ h=>h) (by assumption) ?_
   try simp only [put_pack]
   refine sk 8 rfl (by kernel_rfl) (fun _ _ _ h=>h) (by assumption) ?_
   try simp only [put_pack]
   refine sk 9 rfl (by kernel_rfl) (fun _ _ _ h=>h) (by assumption) ?_
   try simp only [put_pack]
   refine sk 10 rfl (by kernel_rfl) (fun _ _ _ h=>h) (by assumption) ?_
   try simp only [put_pack]
   refine tk 11 (v:=?_) rfl (by kernel_rfl) (fun _ _ _ h=>h) (by assumption) ?_ ?_
   rotate_left
   · (intro w hSw;(try dsimp only at hSw);go_simp;try with_reducible rfl)
   try simp only [put_pack]
   refine tk 12 (v:=?_) rfl (by kernel_rfl) (fun _ _ _ h=>h) (by assumption) ?_ ?_
   rotate_left
   · (intro w hSw;(try dsimp only at hSw);go_simp;try with_reducible rfl)
   try simp only [put_pack]
   refine wpAnyH_done (by kernel_rfl) ?_ _
   go_simp
   go_wp2_with fail
   go_ret
   refine⟨?_,hXW.trans hX⟩
   rfl
theorem fine_p (r:Reg)(w:World)(h:Drawn r)(hC:∀ w,Calls Tryz.prog 225 #[encR r] w fun e w'=>e=.returned (V Z (cellsM r))/\Ext w w'):Calls Tryz.prog 224 #[encR r] w fun e w'=>e=.returned (.bool (fineM r))/\Ext w w':=by
 obtain⟨hk,hb,hl,hn,hw,hw6,hrd,ht⟩:=h
 have hL:=fun w=>locals_p r w hk hn
 have hz:=cells_nat r hn
 obtain⟨kind,base,loc,n,wr,rd,top⟩:=r
 simp only at hk hb hl hn hw hw6 hrd ht
 subst hrd
 unfold fineM
 rcases hk with rfl | rfl | rfl
 · exact pfine1_p base loc n wr top _ _ w hb hl hn hw ht hz hC hL
 · exact pfine6_p base loc n wr top _ _ w hb hl hn ⟨hw6 rfl,hw.2⟩ ht hz hC hL
 · exact pfine7_p base loc n wr top _ _ w hb hl hn hw ht hz hC hL
end Go.Proofs.YtbaajjkopdjbgaaGreat
