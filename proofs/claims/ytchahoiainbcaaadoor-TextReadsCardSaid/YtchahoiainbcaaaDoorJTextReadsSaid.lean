/-
  TextReads holds: which events any text is, or at which line it is none, is the document's; what is read is written as it stood, without conditions.
-/
import Derived.Test.YtchahoiainbcaaaDoorJTextReadsSaid2
import Derived.Shelf.Strings.Builder1
import Derived.ProofKit
import Derived.OpenShut
import Derived.Deep.DeepHandedRow
import Derived.WideKeyArgs
import Derived.Carry
import Derived.ChangeSame
import Derived.Test.YtchahoiainbcaaaDoorCards
import Derived.Test.YtchahoiainbcaaaDoorTie
import GoSem.PinnedTables
import Derived.Lib.SmallJoins
import Derived.Shelf.Vars
import Derived.ChangeMaps5
namespace Kv
theorem cutP_part (z:UInt8):∀ (s cur:Bs),∀ q∈cutP z s cur,q.length<=cur.length+s.length
 | [],cur,q,h=>by
   simp only [cutP,List.mem_singleton] at h
   subst h
   omega
 | c :: s,cur,q,h=>by
   unfold cutP at h
   split at h
   · rcases List.mem_cons.1 h with rfl | h
     · omega
     · have:=cutP_part z s [] q h
       simp at this ⊢
       omega
   · have:=cutP_part z s _ q h
     simp at this ⊢
     omega
theorem map_at {α β:Type}(f:α->β)(qs:List α)(j:Nat)(q:α)(t:List β)(h:qs[j]?=some q):qs.map f++t=(qs.take j).map f++f q :: ((qs.drop (j+1)).map f++t):=by
 obtain⟨hj,rfl⟩:=List.getElem?_eq_some_iff.1 h
 have h1:qs=qs.take j++qs[j] :: qs.drop (j+1):=by rw [<- List.drop_eq_getElem_cons hj,List.take_append_drop]
 have h2:qs.map f=(qs.take j).map f++f qs[j] :: (qs.drop (j+1)).map f:=by
  conv=>lhs;rw [h1]
  rw [List.map_append,List.map_cons]
 rw [h2,List.append_assoc,List.cons_append]
end Kv
namespace Go.Proofs.YtchahoiainbcaaaDoor
open Go.RowKit Kv
set_option maxRecDepth 100000 in
set_option maxHeartbeats 2000000 in
theorem parse45 (s:Bs)(w:World)(hs:s.length<=8000):Calls Tryd.prog 12 #[.string ⟨s.toArray⟩] w (ParsePost w s):=by
 have hcl:=cutP_len 10 s []
 have hpt:=cutP_part 10 s []
 have hne:=cutP_ne 10 s []
 have hln:=lines_parts s
 have hcut:=fun W=>cut45 s 10 W (by omega)
 obtain⟨qs,x,hx⟩:∃ qs x,cutP 10 s []=qs++[x]:=⟨_,_,(List.dropLast_concat_getLast (cutP_ne 10 s [])).symm⟩
 rw [hx] at hcl hpt hln hcut hne
 rw [linesOf_snoc] at hln
 have hL:=Lib.hid hln
 clear hln hx
 simp only [List.length_append,List.length_cons,List.length_nil,Nat.zero_add] at hcl
 have hql:∀ q∈qs,q.length<=10000:=fun q hq=>by have:=hpt q (by simp [hq]);simp at this;omega
 clear hpt
 go_enter Tryd.func12,Tryd.ntmps12
 go_wp2_with fail
 refine (hcut _).mono ?_
 rintro e w1 ⟨v,rfl,hX,hrow⟩
 obtain⟨g,cap,rfl,hg,hcap,hW⟩:=words_of_row hrow hne
 clear hrow hcut hne
 simp only [List.length_append,List.length_cons,List.length_nil,Nat.zero_add] at hcap
 rw [List.length_append,List.length_singleton]
 have d1:decide ((8001:Int)<((qs.length:Int)+1))=false:=by rw [decide_eq_false_iff_not];omega
 go_wp2_with fail
 have hXW:=Lib.hid (And.intro hX hW)
 clear hX hW
 go_loopw [6,7] (fun v i wr=>∃ j:Nat,i=.int .i64 j/\j<=qs.length/\okL ((qs.take j).map fun q=>(q,true))/\Ext w1 wr/\wr.ownsRow w1.heap.size 26 7 v j (((qs.take j).filterMap oneE).flatMap evVals)) (fun _ i _=>qs.length-(intOf i).toNat)
 case atStart=>exact⟨0,rfl,by omega,by intro x hx;simp at hx,Ext.refl _,World.ownsRow_nil _ _ _ _⟩
 case round =>
  obtain⟨j,rfl,hj,hok,hX,hrow⟩:=hrel
  have hW:=hXW.out.2.ext hX
  by_cases hlt:j<qs.length
  · have hat:qs[j]?=some qs[j]:=List.getElem?_eq_getElem hlt
    have hq:=hql _ (List.getElem_mem hlt)
    generalize qs[j]=q at hat hq
    have h1:=fun W=>one45 q W hq
    rw [doc_one] at h1
    have cq:=hW.2 j q (by rw [List.getElem?_append_left hlt];exact hat)
    rw [Nat.zero_add] at cq
    have hma:=map_at (fun q=>(q,true)) qs j q (if x=[] then [] else [(x,false)]) hat
    have hst:qs.take (j+1)=qs.take j++[q]:=by rw [List.take_add_one,hat];rfl
    generalize hoq:oneE q=o at h1
    have hH:=Lib.hid (And.intro hok (And.intro hma (And.intro hst (And.intro hoq (And.intro hX hrow)))))
    clear hok hma hst hoq hX hW hrow hat hq
    go_wp2_with fail
    refine (h1 _).mono ?_
    rintro e w2 ⟨rfl,hx⟩
    obtain⟨hok,hma,hst,hoq,hX,hrow⟩:=hH.out
    clear hH
    replace hX:=hX.trans hx
    replace hrow:=row_ext hrow hx
    clear hx cq h1
    cases o with
    | none =>
      simp only [oneRD,encE,ev0,Option.getD_none,Option.isSome_none]
      have hH:=Lib.hid (And.intro hok (And.intro hma hoq))
      clear hok hma hst hoq hrow
      have hX2:=(hXW.out.1.trans hX).alloc (.cells #[.int .i64 0,.int .i64 0,.int .i64 0,.int .i64 0,.int .i64 0,.int .i64 0,.int .i64 0] 26)
      go_wp2_with fail
      refine bodyPost_ret (v:=.tuple #[.slice none 0 0,.int .i64 ((j:Int)+1),.int .i64 3]) (by simp [results,Tryd.results12,go_sem]) rfl ?_
      obtain⟨hok,hma,hoq⟩:=hH.out
      refine⟨_,_,_,rfl,hX2,.inr ⟨_,_,_,hL.out.trans hma,hok,?_,rfl,?_,rfl⟩⟩
      · rw [hoq];simp
      · rw [List.length_map,List.length_take];omega
    | some ev =>
      obtain⟨a1,a2,a3,a4,a5,a6,a7⟩:=ev
      simp only [oneRD,encE,Option.getD_some,Option.isSome_some]
      have x3:=(Ext.refl w2).alloc (.cells #[.int .i64 a1,.int .i64 a2,.int .i64 a3,.int .i64 a4,.int .i64 a5,.int .i64 a6,.int .i64 a7] 26)
      have x4:=x3.alloc (.cells #[.int .i64 a1,.int .i64 a2,.int .i64 a3,.int .i64 a4,.int .i64 a5,.int .i64 a6,.int .i64 a7] 26)
      have hxa:=hX.trans x4
      have hrow4:=row_ext hrow x4
      have ce:=(Blk.new w2 (.cells #[.int .i64 a1,.int .i64 a2,.int .i64 a3,.int .i64 a4,.int .i64 a5,.int .i64 a6,.int .i64 a7] 26)).cells
      have hnew:∀ (k:Nat) u,[.int .i64 a1,.int .i64 a2,.int .i64 a3,.int .i64 a4,.int .i64 a5,.int .i64 a6,.int .i64 a7][k]?=some u->((w2.alloc (.cells #[.int .i64 a1,.int .i64 a2,.int .i64 a3,.int .i64 a4,.int .i64 a5,.int .i64 a6,.int .i64 a7] 26)).alloc (.cells #[.int .i64 a1,.int .i64 a2,.int .i64 a3,.int .i64 a4,.int .i64 a5,.int .i64 a6,.int .i64 a7] 26)).cell? ((⟨w2.heap.size+1,0,none⟩:Addr).add k)=some u:=by
       intro k u hu
       have hb:=Blk.new (w2.alloc (.cells #[.int .i64 a1,.int .i64 a2,.int .i64 a3,.int .i64 a4,.int .i64 a5,.int .i64 a6,.int .i64 a7] 26)) (.cells #[.int .i64 a1,.int .i64 a2,.int .i64 a3,.int .i64 a4,.int .i64 a5,.int .i64 a6,.int .i64 a7] 26)
       rw [World.size_alloc] at hb
       rw [Addr.add_lit,Nat.zero_add,hb.cells,<- hu]
       exact List.getElem?_toArray ..
      have hH:=Lib.hid (And.intro hok (And.intro hst (And.intro hoq (And.intro hrow4 hnew))))
      clear hok hma hst hoq hrow hX hrow4 hnew x3 x4
      go_wp2_with (at_builtin;refine append_recs45 (w0:=w1) info_ev Tryd.underlying34 (by decide) (by decide) (by decide) rfl _ _ rfl u6 j _ [.int .i64 a1,.int .i64 a2,.int .i64 a3,.int .i64 a4,.int .i64 a5,.int .i64 a6,.int .i64 a7] ⟨w2.heap.size+1,0,none⟩ 1 1 hxa hH.out.2.2.2.1 rfl rfl rfl hH.out.2.2.2.2 (by simp [Value.oneCell']) (by omega) (by omega) ?_;intro v' w' hown hx2;replace hown:=Lib.hid hown)
      obtain⟨hok,hst,hoq,hrow,hnew⟩:=hH.out
      refine⟨⟨j+1,by go_num,by omega,?_,hx2,?_⟩,?_⟩
      · rw [hst,List.map_append]
        intro y hy
        rcases List.mem_append.1 hy with hy | hy
        · exact hok y hy
        · simp only [List.map_cons,List.map_nil,List.mem_singleton] at hy
          subst hy
          exact⟨by rw [show oneE q=_ from hoq];rfl,rfl⟩
      · rw [hst,List.filterMap_append,List.flatMap_append]
        have:[q].filterMap oneE=[⟨a1,a2,a3,a4,a5,a6,a7⟩]:=by simp [hoq]
        rw [this]
        exact hown.out
      · simp [intOf];omega
  · obtain rfl:j=qs.length:=by omega
    rw [List.take_length] at hok hrow
    have cx:=hW.2 qs.length x (by simp)
    rw [Nat.zero_add] at cx
    have hH:=Lib.hid (And.intro hok (And.intro hX hrow))
    clear hok hX hrow hW
    by_cases hx0:x=[]
    · subst hx0
      go_wp2_with fail
      refine bodyPost_ret (v:=.tuple #[u6,.int .i64 0,.int .i64 0]) (by simp [results,Tryd.results12,go_sem]) rfl ?_
      obtain⟨hok,hX,hrow⟩:=hH.out
      have hL2:=hL.out
      simp only [if_true,List.append_nil] at hL2
      unfold ParsePost
      rw [hL2]
      refine⟨_,_,_,rfl,hXW.out.1.trans hX,.inl ⟨hok,rfl,rfl,?_⟩⟩
      rw [List.length_map,evs_true]
      exact rows_less hrow hXW.out.1.size
    · have hd:(x != [])=true:=by rw [bne_iff_ne];exact hx0
      have hd2:(x==[])=false:=by rw [beq_eq_false_iff_ne];exact hx0
      go_wp2_with fail
      refine bodyPost_ret (v:=.tuple #[.slice none 0 0,.int .i64 ((qs.length:Int)+1),.int .i64 3]) (by simp [results,Tryd.results12,go_sem]) rfl ?_
      obtain⟨hok,hX,hrow⟩:=hH.out
      have hL2:=hL.out
      rw [if_neg hx0] at hL2
      exact⟨_,_,_,rfl,hXW.out.1.trans hX,.inr ⟨_,(x,false),[],hL2,hok,by simp,rfl,by simp,rfl⟩⟩
def byteRen:Go.Shelf.Ren:=⟨fun | 167=>31 | 240=>42 | 276=>48 | n=>n,fun | 72=>64 | 70=>61 | 37=>62 | 75=>66 | 164=>83 | 80=>70 | n=>n,fun | n=>n⟩
theorem laysByte:Go.Proofs.Lays.n167 Tryd.prog byteRen:={
 mixed:=by kernel_rfl
 f167:=Tryd.func31.trans (congrArg some (by kernel_rfl))
 f240:=Tryd.func42.trans (congrArg some (by kernel_rfl))
 f276:=Tryd.func48.trans (congrArg some (by kernel_rfl))
 t0:=Tryd.underlying0
 a0:=Tryd.isAgg0
 z0:=Tryd.sizeOf0
 v0:=Tryd.zeroValue0
 t4:=Tryd.underlying4
 a4:=Tryd.isAgg4
 z4:=Tryd.sizeOf4
 v4:=Tryd.zeroValue4
 t5:=Tryd.underlying5
 a5:=Tryd.isAgg5
 z5:=Tryd.sizeOf5
 v5:=Tryd.zeroValue5
 t9:=Tryd.underlying9
 a9:=Tryd.isAgg9
 z9:=Tryd.sizeOf9
 v9:=Tryd.zeroValue9
 t20:=Tryd.underlying20
 a20:=Tryd.isAgg20
 z20:=Tryd.sizeOf20
 v20:=Tryd.zeroValue20
 t37:=Tryd.underlying62
 a37:=Tryd.isAgg62
 z37:=Tryd.sizeOf62
 v37:=Tryd.zeroValue62
 t70:=Tryd.underlying61
 a70:=Tryd.isAgg61
 z70:=Tryd.sizeOf61
 v70:=Tryd.zeroValue61
 t72:=Tryd.underlying64
 a72:=Tryd.isAgg64
 z72:=Tryd.sizeOf64
 v72:=Tryd.zeroValue64
 t75:=Tryd.underlying66
 a75:=Tryd.isAgg66
 z75:=Tryd.sizeOf66
 v75:=Tryd.zeroValue66
 t164:=Tryd.underlying83
 a164:=Tryd.isAgg83
 z164:=Tryd.sizeOf83
 v164:=Tryd.zeroValue83 }
theorem extraByte:Builder.Extra Tryd.prog byteRen:={
 sizeBuilder:=by kernel_rfl
 liesBuilder:=by kernel_rfl
 t5:=Tryd.underlying5
 a5:=Tryd.isAgg5
 z5:=Tryd.sizeOf5
 v5:=Tryd.zeroValue5
 infoByte:=by kernel_rfl
 cellsByte:=by kernel_rfl
 sizeByte:=by kernel_rfl
 neB5:=by decide }
def Bld (B b:Nat) (l:Bs) (w:World):Prop:=Lib.IsBuilder 64 5 B b (Lib.byteCells l) w
theorem wbyte_p (B b:Nat)(l:Bs)(c:UInt8)(w:World)(h:Bld B b l w)(hl:l.length<=100000000)(hB:B<=w.heap.size) :
  Calls Tryd.prog 31 #[.pointer (some ⟨b,0,none⟩),.int .u8 c.toNat] w fun r w'=>r=.returned .nilIface/\Bld B b (l++[c]) w'/\Below B w w':=by
 refine (Any.Builder_WriteByte laysByte extraByte B b _ c.toNat w h (by simp [Lib.byteCells];omega) hB).mono ?_
 rintro e w' ⟨rfl,h1,h2⟩
 refine⟨rfl,.inr ?_,h2⟩
 have:Lib.byteCells (l++[c])=Lib.byteCells l++[.int .u8 c.toNat]:=by simp [Lib.byteCells]
 rw [this]
 exact h1
theorem wstring_p (B b:Nat)(l s:Bs)(w:World)(h:Bld B b l w)(hl:l.length<=100000000)(hs:s.length<=100000000)(hB:B<=w.heap.size) :
  Calls Tryd.prog 30 #[.pointer (some ⟨b,0,none⟩),.string ⟨s.toArray⟩] w fun r w'=>r=.returned (.tuple #[.int .i64 s.length,.nilIface])/\Bld B b (l++s) w'/\Below B w w':=by
 have hsz:(⟨s.toArray⟩:ByteArray).size=s.length:=rfl
 refine (Any.Builder_WriteString ({ Tryd.lays156 with }:Go.Proofs.Lays.n166 Tryd.prog Tryd.lays156_ren) Tryd.Builder_Extra_156 B b _ ⟨s.toArray⟩ w h (by rw [hsz];simp [Lib.byteCells];omega) hB).mono ?_
 rintro e w' ⟨rfl,h1,h2⟩
 refine⟨rfl,.inr ?_,h2⟩
 have:Lib.byteCells (l++s)=Lib.byteCells l++Lib.strCells ⟨s.toArray⟩:=by simp [Lib.byteCells,Lib.strCells]
 rw [this]
 exact h1
theorem bstring_p (B b:Nat)(l:Bs)(w:World)(h:Bld B b l w)(hB:B<=w.heap.size) :
  Calls Tryd.prog 32 #[.pointer (some ⟨b,0,none⟩)] w fun r w'=>r=.returned (.string ⟨l.toArray⟩)/\Below B w w' :=
 Tryd.Builder_String_any B b l w h hB
theorem nthW_len (l:List Bs)(h:∀ x∈l,x.length<=100)(i:Int):(nthW l i).length<=100:=by
 unfold nthW
 rw [List.getD_eq_getElem?_getD]
 cases hx:l[(i-1).toNat]? with
 | none=>simp
 | some x=>exact h x (List.mem_of_getElem? hx)
theorem line_short (e:Ev)(hf:fineE e=true):(lineE e).length<=1000:=by
 obtain⟨h1,h2,h3,h4,h5,h6,h7⟩:=fine_parts hf
 have hlen:∀ n:Int,0<=n->n<=1099511627776->(digits n).length<=100:=fun n h0 h1=>Nat.le_trans (Go.Lib.itoa_length_le n (by omega) (by omega)) (by omega)
 have k1:=nthW_len kindsW (by decide) e.kind
 have k2:=nthW_len notesW (by decide) e.val
 have a1:=hlen e.at_ h2.1 (by omega)
 have a2:=hlen e.thread h3.1 (by omega)
 have a3:=hlen e.call h4.1 (by omega)
 unfold lineE wordsE
 split
 · have:=join_bd ([nthW kindsW e.kind,digits e.thread,digits e.call]++[nthW notesW e.val]) (digits e.at_) 100 (by simp only [List.cons_append,List.nil_append,List.mem_cons,List.not_mem_nil,or_false];rintro w (rfl | rfl | rfl | rfl | rfl) <;> assumption)
   exact Nat.le_trans this (by simp)
 · split
   · rename_i e2
     obtain⟨-,b1,b2⟩:=h6 e2
     have a4:=hlen e.err b1.1 (by omega)
     have a5:=hlen e.rv b2.1 (by omega)
     have:=join_bd ([nthW kindsW e.kind,digits e.thread,digits e.call]++[digits e.err,digits e.rv]) (digits e.at_) 100 (by simp only [List.cons_append,List.nil_append,List.mem_cons,List.not_mem_nil,or_false];rintro w (rfl | rfl | rfl | rfl | rfl | rfl) <;> assumption)
     exact Nat.le_trans this (by simp)
   · have:=join_bd ([nthW kindsW e.kind,digits e.thread,digits e.call]++[]) (digits e.at_) 100 (by simp only [List.cons_append,List.nil_append,List.append_nil,List.mem_cons,List.not_mem_nil,or_false];rintro w (rfl | rfl | rfl | rfl) <;> assumption)
     exact Nat.le_trans this (by simp)
set_option maxRecDepth 100000 in
set_option maxHeartbeats 2000000 in
theorem textlines_no (e:Ev)(w:World)(T:Tabs w)(M:MaxI w)(hf:fineE e=false):Calls Tryd.prog 3 #[encE e] w fun r w'=>r=.returned (.bool true)/\Ext w w':=by
 have hP:=fun w=>hf▸fine45_p e w
 have hR:=fun w=>hf▸fine45_r e w
 have hL:=fun w=>line_no e w hf
 clear hf
 obtain⟨a,k,t,c,v,x,y⟩:=e
 unfold encE at *
 simp only at *
 have hX:=Ext.refl w
 have b1:=Blk.new w (.cells #[.int .i64 a,.int .i64 k,.int .i64 t,.int .i64 c,.int .i64 v,.int .i64 x,.int .i64 y] 26)
 replace hX:=hX.alloc (.cells #[.int .i64 a,.int .i64 k,.int .i64 t,.int .i64 c,.int .i64 v,.int .i64 x,.int .i64 y] 26)
 have c_b1:=b1.cells
 go_enter Tryd.func3,Tryd.ntmps3
 go_wp2_with fail
 refine (hL _).mono ?_
 rintro e w2 ⟨rfl,hx⟩
 replace b1:=b1.ext hx
 replace hX:=hX.trans hx
 clear c_b1 hx hL
 go_upto_region 2 with fail
 have hS:∀ w',Ext w2 w'->∀ i:Nat,w'.cell? ⟨w.heap.size,i,none⟩=#[.int .i64 a,.int .i64 k,.int .i64 t,.int .i64 c,.int .i64 v,.int .i64 x,.int .i64 y][i]?:=fun w' hx=>(b1.ext hx).cells
 refine wp_region_held_drew (S:=fun w'=>∀ i:Nat,w'.cell? ⟨w.heap.size,i,none⟩=#[.int .i64 a,.int .i64 k,.int .i64 t,.int .i64 c,.int .i64 v,.int .i64 x,.int .i64 y][i]?) rfl (hS _ (Ext.refl _).drew) (fun hHeld=>?_)
 refine tk 0 (v:=?_) rfl (by kernel_rfl) (fun _ _ _ h=>h) (by assumption) ?_ ?_
 rotate_left
 · (intro w hSw;(try dsimp only at hSw);go_simp;try with_reducible rfl)
 try simp only [put_pack]
 refine tk 2 (v:=?_) rfl (by kernel_rfl) (fun _ _ _ h=>h) (by assumption) ?_ ?_
 rotate_left
 · (intro w hSw;(try dsimp only at hSw);go_simp;try with_reducible rfl)
 try simp only [put_pack]
 refine wpAnyH_ready (rs:=[1]) (by kernel_rfl) (by simp) ?_
 refine AllReadyH.cons rfl (fun K hKK=>?_) (AllReadyH.nil)
 go_simp
 refine (hP _).mono ?_
 rintro e w3 ⟨rfl,hx⟩
 have hx1:=(Ext.refl w2).drew.trans hx
 clear hx
 refine hKK.out _ _ (hS _ hx1) (fun hHeld=>?_)
 clear hKK K
 try dsimp only
 refine wpAnyH_ready (rs:=[3]) (by kernel_rfl) (by simp) ?_
 refine AllReadyH.cons rfl (fun K hKK=>?_) (AllReadyH.nil)
 go_simp
 refine (hR _).mono ?_
 rintro e w4 ⟨rfl,hx⟩
 have hx2:=hx1.trans hx
 clear hx
 refine hKK.out _ _ (hS _ hx2) (fun hHeld=>?_)
 clear hKK K
 try dsimp only
 refine tk 4 (v:=?_) rfl (by kernel_rfl) (fun _ _ _ h=>h) (by assumption) ?_ ?_
 rotate_left
 · (intro w hSw;(try dsimp only at hSw);go_simp;try with_reducible rfl)
 try simp only [put_pack]
 refine wpAnyH_done (by kernel_rfl) ?_ _
 go_simp
 replace b1:=b1.ext hx2
 replace hX:=hX.trans hx2
 clear hS hx1 hx2 hHeld
 have c_b1:=b1.cells
 go_wp2_with fail
 refine (hR _).mono ?_
 rintro e w5 ⟨rfl,hx⟩
 replace hX:=hX.trans hx
 clear hx c_b1 b1
 go_wp2_with fail
 refine (alive45_p _ (T.ext hX) (M.ext hX)).mono ?_
 rintro e w6 ⟨rfl,hx⟩
 replace hX:=hX.trans hx
 clear hx
 go_wp2_with fail
 go_ret
 exact⟨rfl,hX⟩
set_option maxRecDepth 100000 in
set_option maxHeartbeats 2000000 in
theorem textlines_yes (e:Ev)(w:World)(T:Tabs w)(M:MaxI w)(hf:fineE e=true):Calls Tryd.prog 3 #[encE e] w fun r w'=>r=.returned (.bool true)/\Ext w w':=by
 have hP:=fun w=>hf▸fine45_p e w
 have hR:=fun w=>hf▸fine45_r e w
 have hL:=fun w T=>line_yes e w T hf
 have hLR:=fun w=>line_r e w hf
 have hsh:=line_short e hf
 have hO:∀ w,MaxI w->Calls Tryd.prog 9 #[.string ⟨(lineE e).toArray⟩] w fun r w'=>r=.returned (.tuple #[encE e,.int .i64 0])/\Ext w w':=fun w M=>by
  have h:=one_p (lineE e) w (by omega) M
  rw [one_line hf] at h
  exact h
 clear hf hsh
 generalize lineE e=L at *
 obtain⟨a,k,t,c,v,x,y⟩:=e
 unfold encE at *
 simp only at *
 have hX:=Ext.refl w
 have b1:=Blk.new w (.cells #[.int .i64 a,.int .i64 k,.int .i64 t,.int .i64 c,.int .i64 v,.int .i64 x,.int .i64 y] 26)
 replace hX:=hX.alloc (.cells #[.int .i64 a,.int .i64 k,.int .i64 t,.int .i64 c,.int .i64 v,.int .i64 x,.int .i64 y] 26)
 have c_b1:=b1.cells
 go_enter Tryd.func3,Tryd.ntmps3
 go_wp2_with fail
 refine (hL _ (T.ext hX)).mono ?_
 rintro e w2 ⟨rfl,hx⟩
 replace b1:=b1.ext hx
 replace hX:=hX.trans hx
 clear c_b1 hx hL
 go_upto_region 2 with fail
 have hS:∀ w',Ext w2 w'->∀ i:Nat,w'.cell? ⟨w.heap.size,i,none⟩=#[.int .i64 a,.int .i64 k,.int .i64 t,.int .i64 c,.int .i64 v,.int .i64 x,.int .i64 y][i]?:=fun w' hx=>(b1.ext hx).cells
 refine wp_region_held_drew (S:=fun w'=>∀ i:Nat,w'.cell? ⟨w.heap.size,i,none⟩=#[.int .i64 a,.int .i64 k,.int .i64 t,.int .i64 c,.int .i64 v,.int .i64 x,.int .i64 y][i]?) rfl (hS _ (Ext.refl _).drew) (fun hHeld=>?_)
 refine tk 0 (v:=?_) rfl (by kernel_rfl) (fun _ _ _ h=>h) (by assumption) ?_ ?_
 rotate_left
 · (intro w hSw;(try dsimp only at hSw);go_simp;try with_reducible rfl)
 try simp only [put_pack]
 refine tk 2 (v:=?_) rfl (by kernel_rfl) (fun _ _ _ h=>h) (by assumption) ?_ ?_
 rotate_left
 · (intro w hSw;(try dsimp only at hSw);go_simp;try with_reducible rfl)
 try simp only [put_pack]
 refine wpAnyH_ready (rs:=[1]) (by kernel_rfl) (by simp) ?_
 refine AllReadyH.cons rfl (fun K hKK=>?_) (AllReadyH.nil)
 go_simp
 refine (hP _).mono ?_
 rintro e w3 ⟨rfl,hx⟩
 have hx1:=(Ext.refl w2).drew.trans hx
 clear hx
 refine hKK.out _ _ (hS _ hx1) (fun hHeld=>?_)
 clear hKK K
 try dsimp only
 refine wpAnyH_ready (rs:=[3]) (by kernel_rfl) (by simp) ?_
 refine AllReadyH.cons rfl (fun K hKK=>?_) (AllReadyH.nil)
 go_simp
 refine (hR _).mono ?_
 rintro e w4 ⟨rfl,hx⟩
 have hx2:=hx1.trans hx
 clear hx
 refine hKK.out _ _ (hS _ hx2) (fun hHeld=>?_)
 clear hKK K
 try dsimp only
 refine tk 4 (v:=?_) rfl (by kernel_rfl) (fun _ _ _ h=>h) (by assumption) ?_ ?_
 rotate_left
 · (intro w hSw;(try dsimp only at hSw);go_simp;try with_reducible rfl)
 try simp only [put_pack]
 refine wpAnyH_done (by kernel_rfl) ?_ _
 go_simp
 replace b1:=b1.ext hx2
 replace hX:=hX.trans hx2
 clear hS hx1 hx2 hHeld
 have c_b1:=b1.cells
 go_wp2_with fail
 refine (hR _).mono ?_
 rintro e w5 ⟨rfl,hx⟩
 replace hX:=hX.trans hx
 replace b1:=b1.ext hx
 clear hx c_b1
 go_wp2_with fail
 refine (hO _ (M.ext hX)).mono ?_
 rintro e w6 ⟨rfl,hx⟩
 have hy:=hx.alloc (.cells #[.int .i64 a,.int .i64 k,.int .i64 t,.int .i64 c,.int .i64 v,.int .i64 x,.int .i64 y] 26)
 have bB:=Blk.new w6 (.cells #[.int .i64 a,.int .i64 k,.int .i64 t,.int .i64 c,.int .i64 v,.int .i64 x,.int .i64 y] 26)
 replace b1:=b1.ext hy
 replace hX:=hX.trans hy
 clear hx hy
 have c_b1:=b1.cells
 have c_bB:=bB.cells
 go_wp2_with fail
 generalize World.alloc w6 _=w7 at *
 generalize w6.heap.size=z at *
 refine (hLR _).mono ?_
 rintro e w8 ⟨rfl,hx⟩
 replace b1:=b1.ext hx
 replace bB:=bB.ext hx
 replace hX:=hX.trans hx
 clear hx c_b1 c_bB
 have c_b1:=b1.cells
 have c_bB:=bB.cells
 go_wp2_with fail
 refine (alive45_p _ (T.ext hX) (M.ext hX)).mono ?_
 rintro e w9 ⟨rfl,hx⟩
 replace hX:=hX.trans hx
 clear hx
 go_wp2_with fail
 go_ret
 exact⟨rfl,hX⟩
theorem textlines_walk (e:Ev)(w:World)(T:Tabs w)(M:MaxI w):Calls Tryd.prog 3 #[encE e] w fun r w'=>r=.returned (.bool true)/\Ext w w':=by
 cases hf:fineE e with
 | false=>exact textlines_no e w T M hf
 | true=>exact textlines_yes e w T M hf
end Go.Proofs.YtchahoiainbcaaaDoor
namespace Kv
theorem textOf_snoc (es:List Ev)(j:Nat)(e:Ev)(h:es[j]?=some e):textOf (es.take (j+1))=textOf (es.take j)++lineE e++[10]:=by
 unfold textOf
 rw [List.take_add_one,h,List.flatMap_append]
 simp
theorem textOf_len (es:List Ev)(h:∀ e∈es,(lineE e).length<=1000):(textOf es).length<=1001*es.length:=by
 induction es with
 | nil=>simp [textOf]
 | cons e es ih =>
   have h1:=h e (by simp)
   have h2:=ih fun x hx=>h x (List.mem_cons_of_mem _ hx)
   unfold textOf at *
   rw [List.flatMap_cons,List.length_append,List.length_append]
   simp only [List.length_cons,List.length_nil] at *
   omega
end Kv
namespace Go.Proofs.YtchahoiainbcaaaDoor
open Go.RowKit Kv
theorem Bld.ext {B b:Nat}{l:Bs}{w w':World}(h:Bld B b l w)(hx:Ext w w'):Bld B b l w':=by
 have k:∀ p,Lib.BuilderAt 64 5 B b p (Lib.byteCells l) w->Lib.BuilderAt 64 5 B b p (Lib.byteCells l) w':=by
  rintro p ⟨hB,v,hb,hown,hne⟩
  exact⟨hB,v,Blk.ext (o:=.cells #[p,v] 64) hb hx,row_ext hown hx,hne⟩
 rcases h with h | h
 · exact .inl (k _ h)
 · exact .inr (k _ h)
set_option maxRecDepth 100000 in
set_option maxHeartbeats 2000000 in
theorem text_p (es:List Ev)(A:Option Addr)(c:Nat)(w:World)(T:Tabs w)(hA:EvsAt w A es)(hf:∀ e∈es,fineE e=true)(hl:es.length<=8000)(_hc:es.length<=c) :
  Calls Tryd.prog 15 #[.slice A es.length c] w fun r w'=>r=.returned (.tuple #[.string ⟨(textOf es).toArray⟩,.int .i64 0])/\Ext w w':=by
 have hlen:=fun j=>textOf_len (es.take j) fun e he=>line_short e (hf e (List.mem_of_mem_take he))
 have d1:decide ((8000:Int)<(es.length:Int))=false:=by rw [decide_eq_false_iff_not];omega
 have hb0:Bld w.heap.size w.heap.size [] (w.alloc (.cells #[.pointer none,.slice none 0 0] 64)):=Lib.fresh_isBuilder _ _ w
 have hX0:=(Ext.refl w).alloc (.cells #[.pointer none,.slice none 0 0] 64)
 go_enter Tryd.func15,Tryd.ntmps15
 go_wp2_with fail
 go_loopw [14] (fun i wr=>∃ j:Nat,i=.int .i64 j/\j<=es.length/\Ext w wr/\Bld w.heap.size w.heap.size (textOf (es.take j)) wr) (fun i _=>es.length-(intOf i).toNat)
 case atStart=>exact⟨0,rfl,by omega,hX0,hb0⟩
 case round =>
  obtain⟨j,rfl,hj,hx,hb⟩:=hrel
  have hlj:=hlen j
  have htk:(es.take j).length<=8000:=by rw [List.length_take];omega
  by_cases hlt:j<es.length
  · have hne:es≠[]:=fun e=>by rw [e] at hlt;simp at hlt
    obtain⟨b,rfl,hcs⟩:=hA hne
    have hat:es[j]?=some es[j]:=List.getElem?_eq_getElem hlt
    have hfe:=hf _ (List.getElem_mem hlt)
    have hsn:=textOf_snoc es j _ hat
    generalize es[j]=e at hat hfe hsn
    have hln:=fun w T=>line_yes e w T hfe
    have hsh:=line_short e hfe
    clear hfe
    generalize lineE e=L at hsn hln hsh
    obtain⟨x0,x1,x2,x3,x4,x5,x6⟩:=e
    unfold encE at hln
    simp only at hln
    have p:∀ (i:Nat) (v:Value),i<7->(evVals ⟨x0,x1,x2,x3,x4,x5,x6⟩)[i]?=some v->wr.cell? ⟨b,j*7+i,none⟩=some v:=fun i v hi hv=>by
     have h1:=(ev_cells hat i hi).trans hv
     exact (hx.cell (p:=⟨b,j*7+i,none⟩) (World.block_lt_of_cell? w _ (hcs _ _ h1))).trans (hcs _ _ h1)
    have p0:=p 0 _ (by omega) rfl
    have p1:=p 1 _ (by omega) rfl
    have p2:=p 2 _ (by omega) rfl
    have p3:=p 3 _ (by omega) rfl
    have p4:=p 4 _ (by omega) rfl
    have p5:=p 5 _ (by omega) rfl
    have p6:=p 6 _ (by omega) rfl
    rw [Nat.add_zero] at p0
    have hbh:=Lib.hid hb
    have hsnh:=Lib.hid hsn
    have hlj2:(textOf (es.take j)).length<=10000000:=by omega
    clear p hb hsn hlj hat
    go_wp2_with fail
    have hx1:=(Ext.refl wr).alloc (.cells #[.int .i64 x0,.int .i64 x1,.int .i64 x2,.int .i64 x3,.int .i64 x4,.int .i64 x5,.int .i64 x6] 26)
    have hxw:=hx.trans hx1
    refine (hln _ (T.ext hxw)).mono ?_
    rintro r w2 ⟨rfl,hx2⟩
    replace hxw:=hxw.trans hx2
    have hb:=hbh.out.ext (hx1.trans hx2)
    clear hx1 hx2 p0 p1 p2 p3 p4 p5 p6 hbh
    go_wp2_with fail
    refine (wstring_p _ _ _ L w2 hb (by omega) (by omega) hxw.size).mono ?_
    rintro r w3 ⟨rfl,hb3,hy⟩
    replace hxw:=Below.trans (show Below w.heap.size w w2 from hxw) hy
    clear hb hy
    go_wp2_with fail
    refine (wbyte_p _ _ _ 10 w3 hb3 (by rw [List.length_append];omega) hxw.size).mono ?_
    rintro r w4 ⟨rfl,hb4,hy⟩
    replace hxw:=Below.trans hxw hy
    clear hb3 hy
    go_wp2_with fail
    refine⟨⟨j+1,by go_num,by omega,hxw,?_⟩,?_⟩
    · rw [hsnh.out]
      exact hb4
    · simp [intOf];omega
  · obtain rfl:j=es.length:=by omega
    rw [List.take_length] at hb
    have hbh:=Lib.hid hb
    clear hb hlj htk
    go_wp2_with fail
    refine (bstring_p _ _ _ wr hbh.out hx.size).mono ?_
    rintro r w2 ⟨rfl,hy⟩
    have hxw:=Below.trans (show Below w.heap.size w wr from hx) hy
    go_wp2_with fail
    exact bodyPost_ret (v:=.tuple #[.string ⟨(textOf es).toArray⟩,.int .i64 0]) (by simp [results,Tryd.results15,go_sem]) rfl ⟨rfl,hxw⟩
end Go.Proofs.YtchahoiainbcaaaDoor
namespace Kv
def badN (l:List (Bs × Bool)):Int:=((l.takeWhile fun x=>(oneE x.1).isSome&&x.2).length:Int)+1
theorem badN_of {pre:List (Bs × Bool)}{x:Bs × Bool}{post:List (Bs × Bool)}(h:okL pre)(hx:¬ ((oneE x.1).isSome=true/\x.2=true)):badN (pre++x :: post)=(pre.length:Int)+1:=by
 unfold badN
 have hb:((oneE x.1).isSome&&x.2)=false:=by
  rw [Bool.eq_false_iff]
  intro e
  rw [Bool.and_eq_true] at e
  exact hx e
 rw [List.takeWhile_append_of_pos (fun a ha=>by rw [Bool.and_eq_true];exact h a ha),List.takeWhile_cons,hb]
 simp
theorem countByte_le (c:UInt8)(l:Bs):Go.Lib.countByte l c<=l.length:=by
 induction l with
 | nil=>exact Nat.le_refl _
 | cons x l ih =>
   unfold Go.Lib.countByte at *
   exact List.count_le_length
end Kv
namespace Go.Proofs.YtchahoiainbcaaaDoor
open Go.RowKit Kv
theorem EvsAt.ext {w w':World}{A:Option Addr}{es:List Ev}(h:EvsAt w A es)(hx:Ext w w'):EvsAt w' A es:=fun hne=>by
 obtain⟨b,hb,hcs⟩:=h hne
 exact⟨b,hb,fun i u hu=>(hx.cell (p:=⟨b,i,none⟩) (World.block_lt_of_cell? w _ (hcs i u hu))).trans (hcs i u hu)⟩
theorem parse_yes {w w':World}{s:Bs}{e:Ending}(h:ParsePost w s e w')(hok:okL (linesL s)):∃ A c,e=.returned (.tuple #[.slice A (evsOf (linesL s)).length c,.int .i64 0,.int .i64 0])/\Ext w w'/\EvsAt w' A (evsOf (linesL s))/\(evsOf (linesL s)).length<=c:=by
 obtain⟨v,n,err,rfl,hx,h⟩:=h
 rcases h with⟨_,rfl,rfl,hlen,h⟩ | ⟨pre,x,post,he,_,hno,_⟩
 · have hl:=evs_len hok
   rcases h with⟨rfl,h0⟩ | ⟨g,cap,cur,rfl,_,hh,hc,_,hsz,htk⟩
   · refine⟨none,0,by rw [hl,h0],hx,?_,by rw [hl,h0];exact Nat.le_refl _⟩
     intro hne
     have:(evsOf (linesL s)).length=0:=by rw [hl,h0]
     exact absurd (List.length_eq_zero_iff.1 this) hne
   · refine⟨_,_,by rw [hl],hx,?_,by rw [hl];exact hc⟩
     intro _
     refine⟨g,rfl,fun i u hu=>?_⟩
     rw [cell_of_heap hh i]
     rw [<- htk,List.getElem?_take] at hu
     split at hu
     · simpa using hu
     · cases hu
 · exfalso
   rw [he] at hok
   exact hno (hok x (by simp))
theorem parse_no {w w':World}{s:Bs}{e:Ending}(h:ParsePost w s e w')(hno:¬ okL (linesL s)):e=.returned (.tuple #[.slice none 0 0,.int .i64 (badN (linesL s)),.int .i64 3])/\Ext w w':=by
 obtain⟨v,n,err,rfl,hx,h⟩:=h
 rcases h with⟨hok,_⟩ | ⟨pre,x,post,he,hok,hx2,rfl,rfl,rfl⟩
 · exact absurd hok hno
 · rw [he,badN_of hok hx2]
   exact⟨rfl,hx⟩
@[go_sem] theorem neq_event (a k t c v x y:Int) (w:World):(binOp .neq 26 (.agg #[.int .i64 a,.int .i64 k,.int .i64 t,.int .i64 c,.int .i64 v,.int .i64 x,.int .i64 y]) (.agg #[.int .i64 a,.int .i64 k,.int .i64 t,.int .i64 c,.int .i64 v,.int .i64 x,.int .i64 y])).run Tryd.prog w=.ok (.bool false) w:=by
 rw [run_neq_struct,run_equalIn_struct w 9999 26 _ _ (by kernel_rfl) (by kernel_rfl)]
 have hu:Tryd.prog.underlying 3=some (.int .i64):=Tryd.underlying3
 simp only [Program.fieldsOf,Tryd.underlying26,Op.eqFields]
 simp [go_sem,run_equalIn_int,hu]
set_option maxRecDepth 100000 in
set_option maxHeartbeats 2000000 in
theorem textreads_far (s line:Bs)(w:World)(T:Tabs w)(M:MaxI w)(h:2000<s.length∨200<line.length):Calls Tryd.prog 4 #[.string ⟨s.toArray⟩,.string ⟨line.toArray⟩] w fun r w'=>r=.returned (.bool true)/\Ext w w':=by
 go_enter Tryd.func4,Tryd.ntmps4
 by_cases h1:2000<s.length
 · have d1:decide ((2000:Int)<(s.length:Int))=true:=by rw [decide_eq_true_eq];omega
   go_wp2_with fail
   refine (alive45_p _ T M).mono ?_
   rintro e w6 ⟨rfl,hx⟩
   go_wp2_with fail
   go_ret
   exact⟨rfl,hx⟩
 · have d1:decide ((2000:Int)<(s.length:Int))=false:=by rw [decide_eq_false_iff_not];omega
   have d2:decide ((200:Int)<(line.length:Int))=true:=by rw [decide_eq_true_eq];omega
   clear h1
   go_wp2_with fail
   refine (alive45_p _ T M).mono ?_
   rintro e w6 ⟨rfl,hx⟩
   go_wp2_with fail
   go_ret
   exact⟨rfl,hx⟩
set_option maxRecDepth 100000 in
set_option maxHeartbeats 4000000 in
theorem textreads_near (s line:Bs)(w:World)(T:Tabs w)(M:MaxI w)(h1:s.length<=2000)(h2:line.length<=200):Calls Tryd.prog 4 #[.string ⟨s.toArray⟩,.string ⟨line.toArray⟩] w fun r w'=>r=.returned (.bool true)/\Ext w w':=by
 have d1:decide ((2000:Int)<(s.length:Int))=false:=by rw [decide_eq_false_iff_not];omega
 have d2:decide ((200:Int)<(line.length:Int))=false:=by rw [decide_eq_false_iff_not];omega
 have hP:=fun W M=>parse_p s W (by omega) (by have:=countByte_le 10 s;omega) M
 have hD:=fun W=>parse45 s W (by omega)
 have hO:=fun W M=>one_p line W (by omega) M
 have hR:=fun W=>one45 line W (by omega)
 rw [doc_one] at hR
 have hlen:(linesL s).length<=8000:=by have:=cutF_len s.length s;unfold linesL;omega
 clear h1 h2
 obtain⟨a1,a2,a3,a4,a5,a6,a7,f,ok,e1,e2,hfo⟩:∃ a1 a2 a3 a4 a5 a6 a7 f ok,oneR (oneE line)=.tuple #[.agg #[.int .i64 a1,.int .i64 a2,.int .i64 a3,.int .i64 a4,.int .i64 a5,.int .i64 a6,.int .i64 a7],.int .i64 f]/\oneRD (oneE line)=.tuple #[.agg #[.int .i64 a1,.int .i64 a2,.int .i64 a3,.int .i64 a4,.int .i64 a5,.int .i64 a6,.int .i64 a7],.bool ok]/\(f=0/\ok=true∨f=3/\ok=false):=by
  cases oneE line with
  | none=>exact⟨_,_,_,_,_,_,_,_,_,rfl,rfl,.inr ⟨rfl,rfl⟩⟩
  | some e=>exact⟨_,_,_,_,_,_,_,_,_,rfl,rfl,.inl ⟨rfl,rfl⟩⟩
 rw [e1] at hO
 rw [e2] at hR
 clear e1 e2
 by_cases hok:okL (linesL s)
 · have hb:=text_back hok
   have hf:=evs_fine (s:=s)
   have hl:=evs_len hok
   have hP2:∀ W,MaxI W->Calls Tryd.prog 11 #[.string ⟨s.toArray⟩] W fun e w'=>∃ A c,e=.returned (.tuple #[.slice A (evsOf (linesL s)).length c,.int .i64 0,.int .i64 0])/\Ext W w'/\EvsAt w' A (evsOf (linesL s))/\(evsOf (linesL s)).length<=c:=fun W M=>(hP W M).mono fun e w' h=>parse_yes h hok
   have hD2:∀ W,Calls Tryd.prog 12 #[.string ⟨s.toArray⟩] W fun e w'=>∃ A c,e=.returned (.tuple #[.slice A (evsOf (linesL s)).length c,.int .i64 0,.int .i64 0])/\Ext W w'/\EvsAt w' A (evsOf (linesL s))/\(evsOf (linesL s)).length<=c:=fun W=>(hD W).mono fun e w' h=>parse_yes h hok
   rw [<- hl] at hlen
   have hT:∀ A c w,Tabs w->EvsAt w A (evsOf (linesL s))->(evsOf (linesL s)).length<=c->Calls Tryd.prog 15 #[.slice A (evsOf (linesL s)).length c] w fun r w'=>r=.returned (.tuple #[.string ⟨s.toArray⟩,.int .i64 0])/\Ext w w':=fun A c w T hA hc=>by
    have h:=text_p _ A c w T hA hf hlen hc
    rw [hb] at h
    exact h
   have hS:∀ A B c d w,EvsAt w A (evsOf (linesL s))->EvsAt w B (evsOf (linesL s))->(evsOf (linesL s)).length<=c->(evsOf (linesL s)).length<=d->Calls Tryd.prog 14 #[.slice A (evsOf (linesL s)).length c,.slice B (evsOf (linesL s)).length d] w fun r w'=>r=.returned (.bool true)/\Ext w w':=fun A B c d w hA hB hc hd=>same42 _ A B c d w hA hB (by omega) hc hd
   clear hP hD hok hl hb hf hlen
   generalize evsOf (linesL s)=es at *
   rcases hfo with⟨rfl,rfl⟩ | ⟨rfl,rfl⟩
   all_goals
    go_enter Tryd.func4,Tryd.ntmps4
    go_wp2_with fail
    refine (hP2 _ M).mono ?_
    rintro e w2 ⟨A,c,rfl,hX,hA,hc⟩
    go_wp2_with fail
    refine (hD2 _).mono ?_
    rintro e w3 ⟨B,d,rfl,hx,hB,hd⟩
    replace hX:=hX.trans hx
    replace hA:=hA.ext hx
    clear hx hP2 hD2
    go_wp2_with fail
    refine (hO _ (M.ext hX)).mono ?_
    rintro e w4 ⟨rfl,hx⟩
    have hy:=hx.alloc (.cells #[.int .i64 a1,.int .i64 a2,.int .i64 a3,.int .i64 a4,.int .i64 a5,.int .i64 a6,.int .i64 a7] 26)
    have b1:=Blk.new w4 (.cells #[.int .i64 a1,.int .i64 a2,.int .i64 a3,.int .i64 a4,.int .i64 a5,.int .i64 a6,.int .i64 a7] 26)
    replace hX:=hX.trans hy
    replace hA:=hA.ext hy
    replace hB:=hB.ext hy
    clear hx hy hO
    go_wp2_with fail
    generalize World.alloc w4 _=w5 at *
    generalize w4.heap.size=z at *
    refine (hR _).mono ?_
    rintro e w6 ⟨rfl,hx⟩
    have hy:=hx.alloc (.cells #[.int .i64 a1,.int .i64 a2,.int .i64 a3,.int .i64 a4,.int .i64 a5,.int .i64 a6,.int .i64 a7] 26)
    have b2:=Blk.new w6 (.cells #[.int .i64 a1,.int .i64 a2,.int .i64 a3,.int .i64 a4,.int .i64 a5,.int .i64 a6,.int .i64 a7] 26)
    replace b1:=b1.ext hy
    replace hX:=hX.trans hy
    replace hA:=hA.ext hy
    replace hB:=hB.ext hy
    clear hx hy hR
    go_wp2_with fail
    generalize World.alloc w6 _=w7 at *
    generalize w6.heap.size=z2 at *
    refine (hS _ _ _ _ _ hA hB hc hd).mono ?_
    rintro e w8 ⟨rfl,hx⟩
    replace b1:=b1.ext hx
    replace b2:=b2.ext hx
    replace hX:=hX.trans hx
    replace hA:=hA.ext hx
    clear hx hS hB
    have c1:=b1.cells
    have c2:=b2.cells
    go_wp2_with fail
    refine (hT _ _ _ (T.ext hX) hA hc).mono ?_
    rintro e w9 ⟨rfl,hx⟩
    replace hX:=hX.trans hx
    clear hx hT c1 c2 b1 b2 hA
    go_wp2_with fail
    refine (alive45_p _ (T.ext hX) (M.ext hX)).mono ?_
    rintro e w10 ⟨rfl,hx⟩
    replace hX:=hX.trans hx
    clear hx
    go_wp2_with fail
    go_ret
    exact⟨rfl,hX⟩
 · have hP2:∀ W,MaxI W->Calls Tryd.prog 11 #[.string ⟨s.toArray⟩] W fun e w'=>e=.returned (.tuple #[.slice none 0 0,.int .i64 (badN (linesL s)),.int .i64 3])/\Ext W w':=fun W M=>(hP W M).mono fun e w' h=>parse_no h hok
   have hD2:∀ W,Calls Tryd.prog 12 #[.string ⟨s.toArray⟩] W fun e w'=>e=.returned (.tuple #[.slice none 0 0,.int .i64 (badN (linesL s)),.int .i64 3])/\Ext W w':=fun W=>(hD W).mono fun e w' h=>parse_no h hok
   have hS:∀ w,Calls Tryd.prog 14 #[.slice none 0 0,.slice none 0 0] w fun r w'=>r=.returned (.bool true)/\Ext w w':=fun w=>same42 [] none none 0 0 w (fun h=>absurd rfl h) (fun h=>absurd rfl h) (by decide) (by decide) (by decide)
   clear hP hD hok hlen
   generalize badN (linesL s)=n at *
   rcases hfo with⟨rfl,rfl⟩ | ⟨rfl,rfl⟩
   all_goals
    go_enter Tryd.func4,Tryd.ntmps4
    go_wp2_with fail
    refine (hP2 _ M).mono ?_
    rintro e w2 ⟨rfl,hX⟩
    go_wp2_with fail
    refine (hD2 _).mono ?_
    rintro e w3 ⟨rfl,hx⟩
    replace hX:=hX.trans hx
    clear hx hP2 hD2
    go_wp2_with fail
    refine (hO _ (M.ext hX)).mono ?_
    rintro e w4 ⟨rfl,hx⟩
    have hy:=hx.alloc (.cells #[.int .i64 a1,.int .i64 a2,.int .i64 a3,.int .i64 a4,.int .i64 a5,.int .i64 a6,.int .i64 a7] 26)
    have b1:=Blk.new w4 (.cells #[.int .i64 a1,.int .i64 a2,.int .i64 a3,.int .i64 a4,.int .i64 a5,.int .i64 a6,.int .i64 a7] 26)
    replace hX:=hX.trans hy
    clear hx hy hO
    go_wp2_with fail
    generalize World.alloc w4 _=w5 at *
    generalize w4.heap.size=z at *
    refine (hR _).mono ?_
    rintro e w6 ⟨rfl,hx⟩
    have hy:=hx.alloc (.cells #[.int .i64 a1,.int .i64 a2,.int .i64 a3,.int .i64 a4,.int .i64 a5,.int .i64 a6,.int .i64 a7] 26)
    have b2:=Blk.new w6 (.cells #[.int .i64 a1,.int .i64 a2,.int .i64 a3,.int .i64 a4,.int .i64 a5,.int .i64 a6,.int .i64 a7] 26)
    replace b1:=b1.ext hy
    replace hX:=hX.trans hy
    clear hx hy hR
    go_wp2_with fail
    generalize World.alloc w6 _=w7 at *
    generalize w6.heap.size=z2 at *
    refine (hS _).mono ?_
    rintro e w8 ⟨rfl,hx⟩
    replace b1:=b1.ext hx
    replace b2:=b2.ext hx
    replace hX:=hX.trans hx
    clear hx hS
    have c1:=b1.cells
    have c2:=b2.cells
    go_wp2_with fail
    refine (alive45_p _ (T.ext hX) (M.ext hX)).mono ?_
    rintro e w10 ⟨rfl,hx⟩
    replace hX:=hX.trans hx
    clear hx
    go_wp2_with fail
    go_ret
    exact⟨rfl,hX⟩
theorem textreads_walk (s line:Bs)(w:World)(T:Tabs w)(M:MaxI w):Calls Tryd.prog 4 #[.string ⟨s.toArray⟩,.string ⟨line.toArray⟩] w fun r w'=>r=.returned (.bool true)/\Ext w w':=by
 by_cases h:2000<s.length∨200<line.length
 · exact textreads_far s line w T M h
 · exact textreads_near s line w T M (by omega) (by omega)
end Go.Proofs.YtchahoiainbcaaaDoor
namespace Go.Proofs.YtchahoiainbcaaaDoor
open Go.RowKit Go.WideShapes Go.ChangeShapes
section
variable {H:Type} {enc:TypeId × Value->H} {P:Program}
theorem post_of_below {f:Func}{s:ChangeSpec}{apart fresh handsOn again:Bool}{W W':World}{args:Array Value}{v:Value}{ds gs:List (DataW H)}{before pa pv:List MemPlace}
  (hW:DataW.Whole enc P f.params.toList s.vars apart W args.toList ds gs before)
  (hres:∀ (b:Nat) (sp:Nat->Bool) (hd:Bool),DataW.TrodAll enc P W' b sp hd f.resultTypes.toList (v.resultList f.resultTypes.size) (s.fn H (ds++gs)).results [])
  (hargs:∀ sp:Nat->Bool,(∀ p∈before,sp p.block=true)->DataW.TrodAll enc P W' 0 sp true f.params.toList args.toList (s.fn H (ds++gs)).args pa)
  (hvars:∀ sp:Nat->Bool,(∀ p∈before,sp p.block=true)->DataW.TrodVars enc P W' sp s.vars (s.fn H (ds++gs)).vars pv)
  (hps:before=pa++pv)(hb:Below W.heap.size W W')
  (hok:∀ (j:Nat) (t:TypeId) (r:Value),f.resultTypes[j]?=some t->(v.resultList f.resultTypes.size)[j]?=some r->Value.okWide P W' .any 0 t r) :
  s.post enc P f apart fresh handsOn again W args v W':=by
 have hlt:∀ p∈before,p.block<W.heap.size:=fun p hp=>hW.lt p hp
 have hold:∀ p∈before,(fun b=>decide (b<W.heap.size)) p.block=true:=fun p hp=>by simpa using hlt p hp
 refine⟨ds,gs,before,[],pa,pv,hW,hres _ _ _,hargs _ hold,hvars _ hold,World.keptBut_mono (fun p hp=>⟨hp,?_⟩) (hb.frame (·∈before)),fun _=>?_⟩
 · rw [hps,List.mem_append] at hp
   exact Or.inr hp
 · obtain⟨_,_,_,_,_,hz,hn⟩:=hW
   refine⟨hok,_,_,([]++pa)++pv,⟨[]++pa,pv,trodAll_append (hargs _ (fun _ _=>rfl)) (hres _ _ _),hvars _ (fun _ _=>rfl),rfl,?_,?_⟩,?_⟩
   · intro b off hp
     have hin:MemPlace.cell b off∈before:=by rw [hps];simpa using hp
     rw [hb.frozen (hlt _ hin)]
     exact hz b off hin
   · intro ha
     have:=hn ha
     rw [hps] at this
     simpa using this
   · intro p hp _
     rw [hps]
     simpa using hp
end
section
variable {H:Type} {enc:TypeId × Value->H} {P:Program}
theorem trodAll_stays (hl:laidOutB P=true):∀ (ts:List TypeId),(∀ t∈ts,P.readableRec t=true/\t<P.types.size)->∀ {W W':World} {sp:Nat->Bool} {vs:List Value} {ds:List (DataW H)} {ps:List MemPlace},
  DataW.TrodAll enc P W 0 (fun _=>true) true ts vs ds ps->(∀ p∈ps,W.sameAt W' p)->(∀ p∈ps,sp p.block=true)->DataW.TrodAll enc P W' 0 sp true ts vs ds ps
 | [],_,W,W',sp,vs,ds,ps,h,_,_=>by
   cases vs <;> cases ds <;> simp_all [DataW.TrodAll]
 | t :: ts,ht,W,W',sp,vs,ds,ps,h,hs,hsp=>by
   obtain⟨v,vs',d,ds',p,q,rfl,rfl,rfl,hp,hq⟩:=trodAll_cons h
   have h1:=ht t (by simp)
   refine trodAll_cons_mk (WideElems.Trod_stays hl h1.1 h1.2 hp (fun x hx=>hs x (by simp [hx])) (fun x hx=>hsp x (by simp [hx]))) ?_
   exact trodAll_stays hl ts (fun t' h'=>ht t' (by simp [h'])) hq (fun x hx=>hs x (by simp [hx])) (fun x hx=>hsp x (by simp [hx]))
theorem trodAll_length:∀ (ts:List TypeId) {W:World} {b:Nat} {sp:Nat->Bool} {held:Bool} {vs:List Value} {ds:List (DataW H)} {ps:List MemPlace},DataW.TrodAll enc P W b sp held ts vs ds ps->ds.length=ts.length
 | [],W,b,sp,held,vs,ds,ps,h=>by cases vs <;> cases ds <;> simp_all [DataW.TrodAll]
 | t :: ts,W,b,sp,held,vs,ds,ps,h=>by
   obtain⟨v,vs',d,ds',p,q,rfl,rfl,rfl,hp,hq⟩:=trodAll_cons h
   simp [trodAll_length ts hq]
theorem law_post {f:Func}{s:ChangeSpec}{W W':World}{args:Array Value}{ds gs:List (DataW H)}{before:List MemPlace}{tb:TypeId}
  (hl:laidOutB P=true)(hr:∀ t∈f.params.toList,P.readableRec t=true/\t<P.types.size)(hres:f.resultTypes=#[tb])(htb:P.underlying tb=some .bool)
  (hvars:s.vars=[])(hspec:∀ ds:List (DataW H),ds.length=f.params.size->s.fn H ds={ results:=[.lit (.bool true)],args:=ds })
  (hW:DataW.Whole enc P f.params.toList s.vars false W args.toList ds gs before)(hx:Ext W W') :
  s.post enc P f false true false false W args (.bool true) W':=by
 have hWlt:∀ p∈before,p.block<W.heap.size:=fun p hp=>hW.lt p hp
 obtain⟨p,q,hA,hV,hpq,hfz,hnd⟩:=hW
 rw [hvars] at hV
 have hgs:gs=[]/\q=[]:=trodVars_none hV
 obtain⟨rfl,rfl⟩:=hgs
 have hlen:=trodAll_length _ hA
 have hsp:=hspec ds (by rw [hlen];simp)
 have hb:before=p:=by rw [hpq];simp
 subst hb
 have hn:f.resultTypes.size=1:=by rw [hres];rfl
 have hlo:(Value.bool true).resultList f.resultTypes.size=[Value.bool true]:=by rw [hn];rfl
 have e0:ds++([]:List (DataW H))=ds:=List.append_nil _
 refine post_of_below (pa:=before) (pv:=[]) (ds:=ds) (gs:=[]) ⟨before,[],hA,by rw [hvars];exact hV,hpq,hfz,hnd⟩ ?_ ?_ ?_ hpq hx ?_
 · intro b sp hd
   rw [e0,hsp,hlo,hres]
   exact trodAll_cons_mk (shut_bool htb _) trodAll_mk0
 · intro sp hsp'
   rw [e0,hsp]
   exact trodAll_stays hl _ hr hA (fun p hp=>Below.same hx (hWlt p hp)) hsp'
 · intro sp _
   rw [e0,hsp,hvars]
   rfl
 · intro j t r ht hr'
   rw [hres] at ht
   rw [hlo] at hr'
   cases j with
   | zero =>
     obtain rfl:tb=t:=by simpa using ht
     obtain rfl:Value.bool true=r:=by simpa using hr'
     exact okWide_bool_mk htb _
   | succ j=>simp at ht
end
end Go.Proofs.YtchahoiainbcaaaDoor
namespace Go.Proofs.YtchahoiainbcaaaDoor
open Go.ChangeShapes Go.WideShapes Go.ChangeAt Go.RowKit
theorem gPow:Tryd.prog.globalNamed "internal/strconv.uint64pow10"=some 1:=by kernel_rfl
theorem gPowType:(Tryd.prog.globals[1]?).map (·.type)=some 97:=by kernel_rfl
theorem cellsPow:Tryd.prog.cellsOf 97=20:=by kernel_rfl
theorem cellsU64:Tryd.prog.cellsOf 86=1:=by kernel_rfl
theorem gBr:Tryd.prog.globalNamed "math/bits.deBruijn64tab"=some 5:=by kernel_rfl
theorem gBrType:(Tryd.prog.globals[5]?).map (·.type)=some 110:=by kernel_rfl
theorem cellsBr:Tryd.prog.cellsOf 110=64:=by kernel_rfl
theorem cellsU8:Tryd.prog.cellsOf 5=1:=by kernel_rfl
theorem own:ownKnob Tryd.prog.godebug=none:=by kernel_rfl
def relay (k:IntKind) (zs:List Int):Obj->Obj
 | .cells _ t frozen=>.cells (zs.map fun z=>Value.int k z).toArray t frozen
 | o=>o
def bruijn32:List Int:=[0,1,28,2,29,14,24,3,30,22,20,15,25,17,4,8,31,27,13,23,21,19,16,7,26,12,18,6,11,5,10,9]
noncomputable def laidWorld (os:Os):World :=
 { World.holding Tryd.prog os ⟨#[],#[],[]⟩ with
  heap:=(((World.holding Tryd.prog os ⟨#[],#[],[]⟩).heap.modify 1 (relay .u64 Lib.pow10Tab)).modify 5 (relay .u8 deBruijn64)).modify 4 (relay .u8 bruijn32) }
abbrev five:List (String × DataW Unit):=[("math/bits.deBruijn32tab",Rows.laid_math_bits_deBruijn32tab),("math/bits.deBruijn64tab",Rows.laid_math_bits_deBruijn64tab),("internal/strconv.uint64pow10",Rows.laid_internal_strconv_uint64pow10),("unicode/utf8.acceptRanges",Rows.laid_unicode_utf8_acceptRanges),("unicode/utf8.first",Rows.laid_unicode_utf8_first)]
theorem tabs_of5 {W:World}(h:laidMetH Tryd.prog five W):Tabs W:=by
 refine⟨?_,?_⟩
 · have h1:=h.filter (fun x=>x.1=="internal/strconv.uint64pow10")
   have e:five.filter (fun x=>x.1=="internal/strconv.uint64pow10")=[("internal/strconv.uint64pow10",Lib.tabData .u64 Lib.pow10Tab)]:=by kernel_rfl
   rw [e] at h1
   exact Lib.tabIs_of_head (rest:=[]) gPow gPowType Tryd.underlying97 Tryd.underlying86 cellsU64 cellsPow h1
 · have h1:=h.filter (fun x=>x.1=="math/bits.deBruijn64tab")
   have e:five.filter (fun x=>x.1=="math/bits.deBruijn64tab")=[("math/bits.deBruijn64tab",Lib.tabData .u8 deBruijn64)]:=by kernel_rfl
   rw [e] at h1
   exact Lib.tabIs_of_head (rest:=[]) gBr gBrType Tryd.underlying110 Tryd.underlying5 cellsU8 cellsBr h1
def accepts:List Int:=[128,191,160,191,128,159,144,191,128,143,0,0,0,0,0,0,0,0,0,0,0,0,0,0,0,0,0,0,0,0,0,0]
noncomputable def laidWorld5 (os:Os):World :=
 { laidWorld os with
  heap:=((laidWorld os).heap.modify 3 (relay .u8 accepts)).modify 2 (relay .u8 (Pinned.utf8FirstZ.map Int.ofNat)) }
end Go.Proofs.YtchahoiainbcaaaDoor
namespace Go.Proofs.YtchahoiainbcaaaDoor
open Go.ChangeShapes Go.WideShapes Go.ChangeAt Go.RowKit Go.Deep Kv
section
variable {H:Type} {enc:TypeId × Value->H} {w:World} {base:Nat} {spare:Nat->Bool} {held:Bool}
set_option maxRecDepth 100000 in
theorem open_event {r:Reach}{b0:Nat}{v:Value}{d:DataW H}{p:List MemPlace}(hv:Value.okWide Tryd.prog w r b0 26 v)(h:DataW.Trod enc Tryd.prog w base spare held 26 v d p):∃ e:Ev,v=encE e:=by
 obtain⟨cs,rfl,hsz⟩:=okWide_struct Tryd.underlying26 hv
 obtain⟨l⟩:=cs
 match l,hsz.trans (show Tryd.prog.cellsOf 26=7 by kernel_rfl) with
 | [c0,c1,c2,c3,c4,c5,c6],_ =>
   obtain⟨fuel,hf⟩:=h
   obtain⟨xs,n,_,hx,_,hlen,hg⟩:=DataW.trod_struct Tryd.underlying26 hf
   have e1:Tryd.prog.cellsOf 3=1:=by kernel_rfl
   have e2:Tryd.prog.cellsOf 24=2:=by kernel_rfl
   have e3:Tryd.prog.cellsOf 22=1:=by kernel_rfl
   match xs,hlen with
   | [y0,y1,y2,y3,y4,y5],_ =>
     have g0:=hg 0 _ rfl
     have g1:=hg 1 _ rfl
     have g2:=hg 2 _ rfl
     have g3:=hg 3 _ rfl
     have g4:=hg 4 _ rfl
     have g5:=hg 5 _ rfl
     clear hg
     simp [Value.cells,e1,e2] at g0 g1 g2 g3 g4 g5
     obtain⟨z0,z1,m,_,_,k0,k1⟩:=trod_struct2 Tryd.underlying24 g5
     simp [Value.cells,e1,e3] at k0 k1
     obtain⟨x0,h0,-,-⟩:=DataW.trod_int Tryd.underlying3 g0
     obtain⟨x1,h1,-,-⟩:=DataW.trod_int Tryd.underlying3 g1
     obtain⟨x2,h2,-,-⟩:=DataW.trod_int Tryd.underlying3 g2
     obtain⟨x3,h3,-,-⟩:=DataW.trod_int Tryd.underlying3 g3
     obtain⟨x4,h4,-,-⟩:=DataW.trod_int Tryd.underlying3 g4
     obtain⟨x5,h5,-,-⟩:=DataW.trod_int Tryd.underlying22 k0
     obtain⟨x6,h6,-,-⟩:=DataW.trod_int Tryd.underlying3 k1
     simp at h0 h1 h2 h3 h4 h5 h6
     subst h0 h1 h2 h3 h4 h5 h6
     exact⟨⟨x0,x1,x2,x3,x4,x5,x6⟩,rfl⟩
end
set_option maxRecDepth 100000 in
theorem maxI_of {W:World}(hS:W.ShapedOpen Tryd.prog):MaxI W:=by
 have hg:(0:Nat)<Tryd.prog.globals.size:=of_decide_eq_true (by kernel_rfl)
 have h0:((begin Tryd.prog (fun _ _=>0) default).world.heap[0]?).bind Obj.row?=some (#[.int .i64 0],3):=by kernel_rfl
 obtain⟨cs,hh,_⟩:=hS.1 0 _ _ hg h0
 exact⟨(Array.getElem?_eq_some_iff.1 hh).1,cell_of_shapedOpen_int hS hg h0 rfl (by kernel_rfl) (by kernel_rfl) Tryd.underlying3⟩
end Go.Proofs.YtchahoiainbcaaaDoor
namespace Go.Proofs.YtchahoiainbcaaaDoor.textLines
open Go.ChangeShapes Go.WideShapes Go.ChangeAt Go.RowKit Kv
set_option maxRecDepth 100000 in
theorem main (H:Type)(enc:TypeId × Value->H)(W:World)(base:Nat)(args:Array Value)(ds:List (DataW H))(p:List MemPlace)
  (hval:∀ (j:Nat) t v,Tryd.f3.params[j]?=some t->args[j]?=some v->Value.okWide Tryd.prog W .any base t v)
  (hA:DataW.TrodAll enc Tryd.prog W 0 (fun _=>true) true Tryd.f3.params.toList args.toList ds p)(hL:laidMetH Tryd.prog Rows.textLinesRow.laid W)(hS:W.ShapedOpen Tryd.prog) :
  Calls Tryd.prog 3 args W fun e w'=>e=.returned (.bool true)/\Ext W w':=by
 rw [Tryd.params3] at hA hval
 obtain⟨v0,vs0,d0,ds0,p0,q0,hargs,rfl,rfl,h0,r0⟩:=trodAll_cons hA
 obtain⟨rfl,rfl,rfl⟩:=trodAll_nil r0
 obtain rfl:args=#[v0]:=by cases args;simp_all
 obtain⟨e,rfl⟩:=open_event (hval 0 26 v0 rfl rfl) h0
 have T:=tabs_of5 hL
 exact textlines_walk e W T (maxI_of hS)
end Go.Proofs.YtchahoiainbcaaaDoor.textLines
namespace Go.Proofs.YtchahoiainbcaaaDoor
open Go.ChangeShapes Go.WideShapes Go.ChangeAt Go.RowKit Go.Deep Kv
section
variable {H:Type} {enc:TypeId × Value->H} {w:World} {base:Nat} {spare:Nat->Bool} {held:Bool}
set_option maxRecDepth 100000 in
theorem open_str {r:Reach}{b0:Nat}{v:Value}{d:DataW H}{p:List MemPlace}(hv:Value.okWide Tryd.prog w r b0 9 v)(h:DataW.Trod enc Tryd.prog w base spare held 9 v d p):∃ s:Bs,v=.string ⟨s.toArray⟩:=by
 obtain⟨s,rfl,-⟩:=Go.ChangeMaps.open_string Tryd.underlying9 hv h
 obtain⟨⟨l⟩⟩:=s
 exact⟨l,rfl⟩
end
end Go.Proofs.YtchahoiainbcaaaDoor
namespace Go.Proofs.YtchahoiainbcaaaDoor.textReads
open Go.ChangeShapes Go.WideShapes Go.ChangeAt Go.RowKit Kv
set_option maxRecDepth 100000 in
theorem main (H:Type)(enc:TypeId × Value->H)(W:World)(base:Nat)(args:Array Value)(ds:List (DataW H))(p:List MemPlace)
  (hval:∀ (j:Nat) t v,Tryd.f4.params[j]?=some t->args[j]?=some v->Value.okWide Tryd.prog W .any base t v)
  (hA:DataW.TrodAll enc Tryd.prog W 0 (fun _=>true) true Tryd.f4.params.toList args.toList ds p)(hL:laidMetH Tryd.prog Rows.textReadsRow.laid W)(hS:W.ShapedOpen Tryd.prog) :
  Calls Tryd.prog 4 args W fun e w'=>e=.returned (.bool true)/\Ext W w':=by
 rw [Tryd.params4] at hA hval
 obtain⟨v0,vs0,d0,ds0,p0,q0,hargs,rfl,rfl,h0,r0⟩:=trodAll_cons hA
 obtain⟨v1,vs1,d1,ds1,p1,q1,rfl,rfl,rfl,h1,r1⟩:=trodAll_cons r0
 obtain⟨rfl,rfl,rfl⟩:=trodAll_nil r1
 obtain rfl:args=#[v0,v1]:=by cases args;simp_all
 obtain⟨s,rfl⟩:=open_str (hval 0 9 _ rfl rfl) h0
 obtain⟨line,rfl⟩:=open_str (hval 1 9 _ rfl rfl) h1
 have T:=tabs_of5 hL
 exact textreads_walk s line W T (maxI_of hS)
end Go.Proofs.YtchahoiainbcaaaDoor.textReads
namespace Go.Proofs.YtchahoiainbcaaaDoor.textReads
open Go.ChangeShapes Go.WideShapes Go.ChangeAt Go.RowKit
theorem laidOut:laidOutB Tryd.prog=true:=by kernel_rfl
set_option maxRecDepth 100000 in
theorem contract (H:Type)(enc:TypeId × Value->H)(W:World)(base:Nat)(args:Array Value)(ds gs:List (DataW H))(before:List MemPlace)
  (hval:∀ (j:Nat) t v,Tryd.f4.params[j]?=some t->args[j]?=some v->Value.okWide Tryd.prog W .any base t v)
  (hW:DataW.Whole enc Tryd.prog Tryd.f4.params.toList Rows.textReadsSpec.vars false W args.toList ds gs before)(hL:laidMetH Tryd.prog Rows.textReadsRow.laid W)(hS:W.ShapedOpen Tryd.prog) :
  Calls Tryd.prog 4 args W fun e W'=>∃ v,e=.returned v/\Rows.textReadsSpec.post enc Tryd.prog Tryd.f4 false true false false W args v W':=by
 refine (main H enc W base args ds before hval (by obtain⟨p,q,hA,hV,hpq,_,_⟩:=hW;obtain⟨_,rfl⟩:=trodVars_none hV;rw [List.append_nil] at hpq;subst hpq;exact hA) hL hS).mono fun e W' ⟨he,hg⟩=>⟨_,he,?_⟩
 refine law_post (tb:=4) laidOut ?_ (by kernel_rfl) Tryd.underlying4 rfl ?_ hW hg
 · rw [Tryd.params4]
   intro t ht
   simp only [List.mem_cons,List.not_mem_nil,or_false] at ht
   rcases ht with rfl | rfl <;> exact⟨by kernel_rfl,of_decide_eq_true (by kernel_rfl)⟩
 · intro ds hl
   rw [Tryd.params4] at hl
   match ds,hl with
   | [d0,d1],_=>rfl
set_option maxRecDepth 100000 in
theorem laid_met (os:Os):laidMet Tryd.prog Rows.textReadsRow.laid (((laidWorld5 os)).forCall (fun _ _=>0) ⟨#[],#[.string ⟨#[]⟩ ,.string ⟨#[]⟩],[]⟩).memory :=
 laidMet_of_run' 8 (by kernel_rfl) (by kernel_rfl)
set_option maxRecDepth 100000 in
theorem reads (os:Os){H:Type}(enc:TypeId × Value->H):∃ places,DataW.whole enc Tryd.prog (((laidWorld5 os)).forCall (fun _ _=>0) ⟨#[],#[.string ⟨#[]⟩ ,.string ⟨#[]⟩],[]⟩).memory Tryd.f4.params.toList Rows.textReadsSpec.vars false (#[.string ⟨#[]⟩ ,.string ⟨#[]⟩]:Array Value).toList 8=some ([.lit (.string []) ,.lit (.string [])],[],places) :=
 ⟨[],by kernel_rfl⟩
set_option maxRecDepth 100000 in
theorem lifted (os:Os)(started:os.Started)(H:Type)(enc:TypeId × Value->H)(F:Stop.Interp) :
  ReturnsInHanded {} Tryd.checked os 4 .any ((OpenSpec.ofChange Rows.textReadsSpec).preRow enc Tryd.prog Tryd.f4 Rows.textReadsRow.domain false Rows.textReadsRow.laid) (((OpenSpec.ofChange Rows.textReadsSpec).at F).post enc Tryd.prog Tryd.f4 false true false false):=by
 obtain⟨places,hx⟩:=reads os enc
 refine returnsInHanded_of_row (C:=Tryd.checked) (s:=(OpenSpec.ofChange Rows.textReadsSpec)) own started (by kernel_rfl) Tryd.func4
  (witness_row_at (enc:=enc) (C:=Tryd.checked) false (laidWorld5 os) #[.string ⟨#[]⟩ ,.string ⟨#[]⟩] rfl (by kernel_rfl) (by kernel_rfl) (by kernel_rfl)
    (OpenSpec.preRow_of_cond 8 hx (by kernel_rfl) (fun k hk=>by cases hk) (by kernel_rfl) (laid_met os))) ?_
 intro W base args ds gs before hval hW _ _ _ hL hS _
 exact contract H enc W base args ds gs before hval hW hL hS
theorem c1:(Rows.textReadsRow.inPlace==Tryd.pinned.checked.prog.inPlace 4)=true:=by kernel_rfl
theorem c2:(Rows.textReadsRow.unfollowed==Tryd.pinned.checked.prog.unfollowed 4)=true:=by kernel_rfl
theorem c3:(Rows.textReadsRow.recurses==Tryd.pinned.checked.prog.recurses 4)=true:=by kernel_rfl
theorem c4:(Rows.textReadsRow.named==Tryd.pinned.checked.prog.varsNamed 4)=true:=by kernel_rfl
theorem closed:joinedFacts Tryd.pinned.checked.prog 4 Tryd.f4 (OpenSpec.ofChange Rows.textReadsSpec).bare Rows.textReadsRow=true:=by
 unfold joinedFacts
 simp only [Bool.and_eq_true]
 repeat' refine And.intro ?_ ?_
 all_goals first | with_reducible exact c1 | with_reducible exact c2 | with_reducible exact c3 | with_reducible exact c4 | kernel_rfl
theorem said:Rows.TextReadsSaid :=
 OpenClaim.holds_of_cond 4 Tryd.f4 rfl rfl rfl rfl rfl rfl rfl ⟨rfl,rfl,rfl,rfl,rfl⟩ rfl rfl rfl rfl rfl (by kernel_rfl) Tryd.func4 closed
  (of_decide_eq_true (by kernel_rfl)) (by unfold Func.isWrapper;first | (rw [if_pos (by decide +kernel)];kernel_rfl) | (rw [if_neg (by decide +kernel)];exact⟨rfl,rfl⟩))
  (fun os started H enc _ F=>by rw [OpenClaim.pre_eq_preRow];exact lifted os started H enc F)
theorem plain (f:FuncId)(fn:Func)(hf:Tryd.pinned.checked.prog.funcNamed "kevel/kevellaw45.TextReads"=some f)(hfn:Tryd.pinned.checked.prog.funcs[f]?=some fn) :
  false=Tryd.pinned.checked.prog.looks []/\∀ (j:Nat) t,fn.params[j]?=some t->Tryd.pinned.checked.prog.wantsStandIn t=false:=by
 obtain rfl:f=4:=Option.some.inj ((show Tryd.prog.funcNamed "kevel/kevellaw45.TextReads"=some 4 by kernel_rfl).symm.trans hf) |>.symm
 obtain rfl:fn=Tryd.f4:=(Option.some.inj (Tryd.func4.symm.trans hfn)).symm
 refine⟨by kernel_rfl,fun j t ht=>?_⟩
 rw [Tryd.params4] at ht
 have hm:=Array.mem_of_getElem? ht
 simp only [List.mem_toArray,List.mem_cons,List.not_mem_nil,or_false] at hm
 rcases hm with rfl | rfl <;> exact (show Tryd.prog.wantsStandIn _=false by kernel_rfl)
theorem card:Rows.TextReadsCardSaid :=
 Claim7.holds_tied_plain_at .later [] _ _ _ _ said (fun _ h=>by cases h) (by kernel_rfl) (fun _ h=>by cases h) textReads_row_tie rfl ⟨rfl,rfl⟩ (by kernel_rfl) rfl plain (by kernel_rfl)
end Go.Proofs.YtchahoiainbcaaaDoor.textReads
