/-
  MenuJustSaid: part 2 of its proof.
-/
import Derived.Test.YtchahoiainbcaaaGreatDoorJMenuJustSaid1
import Derived.Deep.DeepCutAuto
namespace Kv
def szV:Option (Int × Int)->Go.Value
 | some (c,l)=>.tuple #[.int .i64 c,.int .i64 l,.bool true]
 | none=>.tuple #[.int .i64 0,.int .i64 0,.bool false]
end Kv
namespace Go.Proofs.YtchahoiainbcaaaGreatDoor
open Go.RowKit Kv
def lockV (alg N mode base loc room:Int):Value:=.agg #[.int .i64 alg,.int .i64 N,.int .i64 mode,.int .i64 base,.int .i64 loc,.int .i64 room]
theorem psize0_p (A:Option Addr)(c:Nat)(w:World):Calls Tryz.prog 75 #[.slice A 0 c] w fun e w'=>e=.returned (.tuple #[.int .i64 0,.int .i64 0])/\Ext w w':=by
 go_enter Tryz.func75,Tryz.ntmps75
 go_wp2_with fail
 go_loopw [4,5,10] (fun u v i wr=>i=.int .i64 0/\u=.int .i64 0/\v=.int .i64 0/\Ext w wr) (fun _ _ _ _=>0)
 case atStart=>exact⟨rfl,rfl,rfl,Ext.refl w⟩
 case round =>
  obtain⟨rfl,rfl,rfl,hX⟩:=hrel
  go_wp2_with fail
  first | go_ret2 | go_ret
  exact⟨rfl,hX⟩
theorem sizeV_p (v:Value)(rs:List Reg)(w:World)(h:RegsV w v rs)(hok:∀ r∈rs,r.ok)(hl:rs.length<=300) :
  Calls Tryz.prog 75 #[v] w fun e w'=>e=.returned (.tuple #[.int .i64 (sumC rs),.int .i64 (sumL rs)])/\Ext w w':=by
 obtain⟨A,c,rfl,q1,q2,hV⟩:=h
 by_cases h0:rs=[]
 · subst h0
   exact psize0_p A c w
 · obtain⟨b,rfl,hb,hc⟩:=hV (by cases rs with | nil=>exact absurd rfl h0 | cons r l=>simp [regVals])
   exact size_p b c rs w hb hc hok hl
set_option maxRecDepth 100000 in
theorem count1_p (b c:Nat)(m k t:Int)(w:World)(hm:0<=m/\m<=1000000)(h:Blk w b (.cells #[.int .i64 m,.int .i64 k,.int .i64 t] 42)) :
  Calls Tryz.prog 186 #[.slice (some ⟨b,0,none⟩) 1 c] w fun e w'=>e=.returned (.int .i64 m)/\Ext w w':=by
 have cb:=h.cells
 have hb:=h.lt
 go_enter Tryz.func186,Tryz.ntmps186
 go_wp2_with fail
 go_loopw [3,8] (fun s i wr=>∃ j:Nat,i=.int .i64 j/\j<=1/\s=.int .i64 (if j=0 then 0 else m)/\Ext w wr) (fun _ i _=>1-(intOf i).toNat)
 case atStart=>exact⟨0,rfl,by omega,rfl,Ext.refl _⟩
 case round =>
  obtain⟨j,rfl,hj,rfl,hX⟩:=hrel
  by_cases hl:j<1
  · obtain rfl:j=0:=by omega
    rw [if_pos rfl]
    have e0:=(hX.cell (p:=⟨b,0,none⟩) hb).trans (cb 0)
    have e1:=(hX.cell (p:=⟨b,1,none⟩) hb).trans (cb 1)
    have e2:=(hX.cell (p:=⟨b,2,none⟩) hb).trans (cb 2)
    have hxa:=Lib.hid (hX.alloc (.cells #[.int .i64 m,.int .i64 k,.int .i64 t] 42))
    simp only [List.getElem?_toArray,List.getElem?_cons_zero,List.getElem?_cons_succ] at e0 e1 e2
    clear cb h
    go_wp2_with fail
    refine⟨⟨1,by go_num,by omega,by first | rfl | simp,hxa.out⟩,?_⟩
    simp [intOf]
  · obtain rfl:j=1:=by omega
    rw [if_neg (by omega)]
    clear cb h
    go_wp2_with fail
    go_ret
    exact⟨rfl,hX⟩
set_option maxRecDepth 100000 in
theorem count2_p (b c:Nat)(m k t m' k' t':Int)(w:World)(hm:0<=m/\m<=1000000)(hm':0<=m'/\m'<=1000000)(h:Blk w b (.cells #[.int .i64 m,.int .i64 k,.int .i64 t,.int .i64 m',.int .i64 k',.int .i64 t'] 42)) :
  Calls Tryz.prog 186 #[.slice (some ⟨b,0,none⟩) 2 c] w fun e w'=>e=.returned (.int .i64 (m+m'))/\Ext w w':=by
 have cb:=h.cells
 have hb:=h.lt
 go_enter Tryz.func186,Tryz.ntmps186
 go_wp2_with fail
 go_loopw [3,8] (fun s i wr=>∃ j:Nat,i=.int .i64 j/\j<=2/\s=.int .i64 (if j=0 then 0 else if j=1 then m else m+m')/\Ext w wr) (fun _ i _=>2-(intOf i).toNat)
 case atStart=>exact⟨0,rfl,by omega,rfl,Ext.refl _⟩
 case round =>
  obtain⟨j,rfl,hj,rfl,hX⟩:=hrel
  by_cases hl:j<2
  · by_cases hl0:j=0
    · subst hl0
      rw [if_pos rfl]
      have e0:=(hX.cell (p:=⟨b,0,none⟩) hb).trans (cb 0)
      have e1:=(hX.cell (p:=⟨b,1,none⟩) hb).trans (cb 1)
      have e2:=(hX.cell (p:=⟨b,2,none⟩) hb).trans (cb 2)
      have hxa:=Lib.hid (hX.alloc (.cells #[.int .i64 m,.int .i64 k,.int .i64 t] 42))
      simp only [List.getElem?_toArray,List.getElem?_cons_zero,List.getElem?_cons_succ] at e0 e1 e2
      clear cb h
      go_wp2_with fail
      refine⟨⟨1,by go_num,by omega,by first | rfl | simp,hxa.out⟩,?_⟩
      simp [intOf]
    · obtain rfl:j=1:=by omega
      rw [if_neg (by omega),if_pos rfl]
      have e0:=(hX.cell (p:=⟨b,3,none⟩) hb).trans (cb 3)
      have e1:=(hX.cell (p:=⟨b,4,none⟩) hb).trans (cb 4)
      have e2:=(hX.cell (p:=⟨b,5,none⟩) hb).trans (cb 5)
      have hxa:=Lib.hid (hX.alloc (.cells #[.int .i64 m',.int .i64 k',.int .i64 t'] 42))
      simp only [List.getElem?_toArray,List.getElem?_cons_zero,List.getElem?_cons_succ] at e0 e1 e2
      clear cb h
      go_wp2_with fail
      refine⟨⟨2,by go_num,by omega,by first | rfl | simp,hxa.out⟩,?_⟩
      simp [intOf]
  · obtain rfl:j=2:=by omega
    rw [if_neg (by omega),if_neg (by omega)]
    clear cb h
    go_wp2_with fail
    go_ret
    exact⟨rfl,hX⟩
set_option maxRecDepth 100000 in
theorem onestrips_p (alg N mode base loc room:Int)(w:World)(h1:1<=N/\N<=8) :
  Calls Tryz.prog 194 #[lockV alg N mode base loc room] w fun e w'=>∃ b:Nat,e=.returned (.slice (some ⟨b,0,none⟩) 1 1)/\w.heap.size<=b/\Blk w' b (.cells #[.int .i64 N,.int .i64 1,.int .i64 1] 42)/\Ext w w':=by
 have hT:=fun w=>onethr_p alg N mode base loc room w h1
 unfold lockV
 have hX:=Ext.refl w
 have b1:=Blk.new w (.cells #[.int .i64 alg,.int .i64 N,.int .i64 mode,.int .i64 base,.int .i64 loc,.int .i64 room] 23)
 replace hX:=hX.alloc (.cells #[.int .i64 alg,.int .i64 N,.int .i64 mode,.int .i64 base,.int .i64 loc,.int .i64 room] 23)
 have c_b1:=b1.cells
 go_enter Tryz.func194,Tryz.ntmps194
 go_wp2_with fail
 refine (hT _).mono ?_
 rintro e w2 ⟨rfl,hx⟩
 replace hX:=hX.trans hx
 have hb:=Lib.hid (Blk.new w2 (.cells #[.int .i64 N,.int .i64 1,.int .i64 1] 42))
 have hx2:=Lib.hid (hX.alloc (.cells #[.int .i64 N,.int .i64 1,.int .i64 1] 42))
 have hle:=hX.size
 clear hx hX
 go_wp2_with fail
 go_ret
 exact⟨_,rfl,hle,hb.out,hx2.out⟩
set_option maxRecDepth 100000 in
theorem bakstrips_p (alg N mode base loc room:Int)(w:World)(h1:1<=N/\N<=8)(h2:1<=room/\room<=1048576) :
  Calls Tryz.prog 187 #[lockV alg N mode base loc room] w fun e w'=>∃ b:Nat,e=.returned (.slice (some ⟨b,0,none⟩) 2 2)/\w.heap.size<=b/\Blk w' b (.cells #[.int .i64 N,.int .i64 1,.int .i64 1,.int .i64 N,.int .i64 1,.int .i64 room] 42)/\Ext w w':=by
 have hT:=fun w=>sizes_p alg N mode base loc room w h1 h2
 unfold lockV
 have hX:=Ext.refl w
 have b1:=Blk.new w (.cells #[.int .i64 alg,.int .i64 N,.int .i64 mode,.int .i64 base,.int .i64 loc,.int .i64 room] 23)
 replace hX:=hX.alloc (.cells #[.int .i64 alg,.int .i64 N,.int .i64 mode,.int .i64 base,.int .i64 loc,.int .i64 room] 23)
 have c_b1:=b1.cells
 go_enter Tryz.func187,Tryz.ntmps187
 go_wp2_with fail
 refine (hT _).mono ?_
 rintro e w2 ⟨rfl,hx⟩
 replace hX:=hX.trans hx
 have hb:=Lib.hid (Blk.new w2 (.cells #[.int .i64 N,.int .i64 1,.int .i64 1,.int .i64 N,.int .i64 1,.int .i64 room] 42))
 have hx2:=Lib.hid (hX.alloc (.cells #[.int .i64 N,.int .i64 1,.int .i64 1,.int .i64 N,.int .i64 1,.int .i64 room] 42))
 have hle:=hX.size
 clear hx hX
 go_wp2_with fail
 go_ret
 exact⟨_,rfl,hle,hb.out,hx2.out⟩
set_option maxRecDepth 100000 in
theorem baklocals_p (alg N mode base loc room:Int)(w:World) :
  Calls Tryz.prog 188 #[lockV alg N mode base loc room] w fun e w'=>e=.returned (.int .i64 1)/\Ext w w':=by
 unfold lockV
 go_enter Tryz.func188,Tryz.ntmps188
 have hX:=(Ext.refl w).alloc (.cells #[.int .i64 alg,.int .i64 N,.int .i64 mode,.int .i64 base,.int .i64 loc,.int .i64 room] 23)
 go_wp2_with fail
 go_ret
 exact⟨rfl,by first | exact hX | exact Ext.refl _⟩
theorem rows_lessZ {W:World}{B B' e size n:Nat}{v:Value}{xs:List Value}(h:W.ownsRow B e size v n xs)(hB:B'<=B):W.ownsRow B' e size v n xs:=by
 obtain⟨h1,h2⟩:=h
 refine⟨h1,?_⟩
 rcases h2 with h2 | ⟨g,cap,cur,e,hg2,rest⟩
 · exact .inl h2
 · exact .inr ⟨g,cap,cur,e,Nat.le_trans hB hg2,rest⟩
def laidV (F G H:FuncId) (cp:Array Value) (mo:Int):Value:=.agg #[.func (.func F) #[] cp,.int .i64 mo,.func (.func G) #[] #[],.func (.func H) #[] #[]]
set_option maxRecDepth 100000 in
set_option maxHeartbeats 1000000 in
theorem lregs_p (F G H:FuncId)(cp:Array Value)(mo:Int)(l:List Want)(hl:l.length<=1000)(alg N mode base loc room:Int)(w:World)
  (hcf:∀ (args:Array Value) (w:World),(callFunc F args).run Tryz.prog w=.ok (.enter F args) w)
  (hW:∀ W,Ext w W->Calls Tryz.prog F (#[.int .i64 N]++cp) W fun e w'=>∃ v,e=.returned v/\WantsAt w' v l/\Ext W w') :
  Calls Tryz.prog 200 #[laidV F G H cp mo,lockV alg N mode base loc room] w (LayPost w.heap.size w (layM l N mode base loc)):=by
 have hP:=fun v w h=>plan_p v l N mode base loc w h hl
 unfold laidV lockV
 have hX:=Ext.refl w
 have b1:=Blk.new w (.cells #[.func (.func F) #[] cp,.int .i64 mo,.func (.func G) #[] #[],.func (.func H) #[] #[]] 74)
 replace hX:=hX.alloc (.cells #[.func (.func F) #[] cp,.int .i64 mo,.func (.func G) #[] #[],.func (.func H) #[] #[]] 74)
 have b2:=Blk.new (w.alloc (.cells #[.func (.func F) #[] cp,.int .i64 mo,.func (.func G) #[] #[],.func (.func H) #[] #[]] 74)) (.cells #[.int .i64 alg,.int .i64 N,.int .i64 mode,.int .i64 base,.int .i64 loc,.int .i64 room] 23)
 simp only [World.size_alloc] at b2
 replace b1:=b1.alloc (.cells #[.int .i64 alg,.int .i64 N,.int .i64 mode,.int .i64 base,.int .i64 loc,.int .i64 room] 23)
 replace hX:=hX.alloc (.cells #[.int .i64 alg,.int .i64 N,.int .i64 mode,.int .i64 base,.int .i64 loc,.int .i64 room] 23)
 have c_b1:=b1.cells
 have c_b2:=b2.cells
 generalize layM l N mode base loc=o at *
 go_enter Tryz.func200,Tryz.ntmps200
 go_wp2_with fail
 have hX0:=hX
 clear c_b1 c_b2
 have hS:∀ w',Ext w w'->(∀ i,w'.cell? ⟨w.heap.size,i,none⟩=(#[.func (.func F) #[] cp,.int .i64 mo,.func (.func G) #[] #[],.func (.func H) #[] #[]]:Array Value)[i]?)->True:=fun _ _ _=>trivial
 clear hS
 generalize hWW:World.alloc (World.alloc w _) _=W at *
 have hS:∀ w',Ext W w'->(∀ i,w'.cell? ⟨w.heap.size,i,none⟩=(#[.func (.func F) #[] cp,.int .i64 mo,.func (.func G) #[] #[],.func (.func H) #[] #[]]:Array Value)[i]?)/\(∀ i,w'.cell? ⟨w.heap.size+1,i,none⟩=(#[.int .i64 alg,.int .i64 N,.int .i64 mode,.int .i64 base,.int .i64 loc,.int .i64 room]:Array Value)[i]?):=fun w' hx=>⟨(b1.ext hx).cells,(b2.ext hx).cells⟩
 clear hWW
 refine wp_region_held_drew (S:=fun w'=>(∀ i,w'.cell? ⟨w.heap.size,i,none⟩=(#[.func (.func F) #[] cp,.int .i64 mo,.func (.func G) #[] #[],.func (.func H) #[] #[]]:Array Value)[i]?)/\(∀ i,w'.cell? ⟨w.heap.size+1,i,none⟩=(#[.int .i64 alg,.int .i64 N,.int .i64 mode,.int .i64 base,.int .i64 loc,.int .i64 room]:Array Value)[i]?)) rfl (hS _ (Ext.refl W).drew) (fun hHeld=>?_)
 refine tkb 0 ?_
 iterate 4
  refine tkn (v:=?_) rfl (by kernel_rfl) (fun _ _ _ h=>h) (by assumption) ?_ ?_
  rotate_left
  · (intro w hSw;(try dsimp only at hSw);go_simp;try with_reducible rfl)
  try simp only [put_pack]
 refine tke ?_
 refine tkb 5 ?_
 iterate 8
  refine tkn (v:=?_) rfl (by kernel_rfl) (fun _ _ _ h=>h) (by assumption) ?_ ?_
  rotate_left
  · (intro w hSw;(try dsimp only at hSw);go_simp;try with_reducible rfl)
  try simp only [put_pack]
 refine tke ?_
 refine wpAnyH_ready (rs:=[4]) (by kernel_rfl) (by simp) ?_
 refine AllReadyH.cons rfl (fun K hKK=>?_) (AllReadyH.nil)
 go_simp
 refine (hW _ hX0.drew).mono ?_
 rintro e w2 ⟨v,rfl,hw,hx⟩
 have hx2:=(Ext.refl W).drew.trans hx
 clear hx hW
 refine hKK.out _ _ (hS _ hx2) (fun hHeld=>?_)
 clear hKK K
 try dsimp only
 refine wpAnyH_ready (rs:=[13]) (by kernel_rfl) (by simp) ?_
 refine AllReadyH.cons rfl (fun K hKK=>?_) (AllReadyH.nil)
 go_simp
 refine (hP v _ hw).mono ?_
 rintro e w3 ⟨hx,hr⟩
 have hx3:=hx2.trans hx
 have hle:w.heap.size<=w2.heap.size:=(hX0.trans hx2).size
 have hXf:=Lib.hid (hX0.trans hx3)
 cases o with
 | none =>
   obtain⟨x,hx0,rfl⟩:=hr
   have hx0h:=Lib.hid hx0
   clear hx0
   refine hKK.out _ _ (hS _ hx3) (fun hHeld=>?_)
   clear hKK K
   try dsimp only
   refine tkb 14 ?_
   iterate 4
    refine tkn (v:=?_) rfl (by kernel_rfl) (fun _ _ _ h=>h) (by assumption) ?_ ?_
    rotate_left
    · (intro w hSw;(try dsimp only at hSw);go_simp;try with_reducible rfl)
    try simp only [put_pack]
   refine tke ?_
   refine wpAnyH_done (by kernel_rfl) ?_ _
   go_simp
   go_wp2_with fail
   refine bodyPost_ret (v:=.tuple #[.slice none 0 0,.int .i64 x]) (by simp [results,Tryz.results200,go_sem]) rfl ?_
   exact⟨hXf.out,x,hx0h.out,rfl⟩
 | some rs =>
   obtain⟨v3,rfl,hr3⟩:=hr
   have hr3h:=Lib.hid hr3
   clear hr3
   refine hKK.out _ _ (hS _ hx3) (fun hHeld=>?_)
   clear hKK K
   try dsimp only
   refine tkb 14 ?_
   iterate 4
    refine tkn (v:=?_) rfl (by kernel_rfl) (fun _ _ _ h=>h) (by assumption) ?_ ?_
    rotate_left
    · (intro w hSw;(try dsimp only at hSw);go_simp;try with_reducible rfl)
    try simp only [put_pack]
   refine tke ?_
   refine wpAnyH_done (by kernel_rfl) ?_ _
   go_simp
   go_wp2_with fail
   refine bodyPost_ret (v:=.tuple #[v3,.int .i64 0]) (by simp [results,Tryz.results200,go_sem]) rfl ?_
   exact⟨hXf.out,v3,rfl,rows_lessZ hr3h.out hle⟩
theorem lkWants_le (alg:Int){N:Nat}(h1:1<=N)(h2:N<=8):(lkWants alg N).length<=300:=by
 unfold lkWants
 split
 · rw [bwWants_len];omega
 · split
   · rw [filWants_len];omega
   · split
     · rw [fastWants_len];omega
     · split
       · unfold treeWants
         rw [List.length_replicate]
         have hE:=(each_le alg).2
         have hle:=(pow_le (lev_le (show N<=64 by omega))).2
         have:=Nat.mul_le_mul hE (show 2 ^ levels (N:Int)-1<=63 by omega)
         omega
       · rw [adWants_len]
         have:=adTree_le h1 h2
         have:=(triN_le h1 h2).2
         omega
set_option maxRecDepth 100000 in
set_option maxHeartbeats 1000000 in
theorem laidsize_p (F G H:FuncId)(cp:Array Value)(mo:Int)(hmo:0<=mo/\mo<=1)(l:List Want)(hl:l.length<=300)(alg N mode base loc room:Int)(w:World)
  (hcf:∀ (args:Array Value) (w:World),(callFunc F args).run Tryz.prog w=.ok (.enter F args) w)
  (hW:∀ W,Ext w W->Calls Tryz.prog F (#[.int .i64 N]++cp) W fun e w'=>∃ v,e=.returned v/\WantsAt w' v l/\Ext W w') :
  Calls Tryz.prog 198 #[laidV F G H cp mo,lockV alg N mode base loc room] w fun e w'=>e=.returned (szV ((layM l N mode base loc).map fun rs=>(sumC rs,sumL rs+mo)))/\Ext w w':=by
 have hR:=fun W (hx:Ext w W)=>lregs_p F G H cp mo l (by omega) alg N mode base loc room W hcf fun V hV=>hW V (hx.trans hV)
 have hok:∀ rs,layM l N mode base loc=some rs->(∀ r∈rs,r.ok)/\rs.length<=300:=fun rs h=>⟨fun r hr=>(laid_all h r hr).1,by rw [layM_len h];exact hl⟩
 unfold laidV lockV at hR ⊢
 have hX:=Ext.refl w
 have b1:=Blk.new w (.cells #[.func (.func F) #[] cp,.int .i64 mo,.func (.func G) #[] #[],.func (.func H) #[] #[]] 74)
 replace hX:=hX.alloc (.cells #[.func (.func F) #[] cp,.int .i64 mo,.func (.func G) #[] #[],.func (.func H) #[] #[]] 74)
 have b2:=Blk.new (w.alloc (.cells #[.func (.func F) #[] cp,.int .i64 mo,.func (.func G) #[] #[],.func (.func H) #[] #[]] 74)) (.cells #[.int .i64 alg,.int .i64 N,.int .i64 mode,.int .i64 base,.int .i64 loc,.int .i64 room] 23)
 simp only [World.size_alloc] at b2
 replace b1:=b1.alloc (.cells #[.int .i64 alg,.int .i64 N,.int .i64 mode,.int .i64 base,.int .i64 loc,.int .i64 room] 23)
 replace hX:=hX.alloc (.cells #[.int .i64 alg,.int .i64 N,.int .i64 mode,.int .i64 base,.int .i64 loc,.int .i64 room] 23)
 have c_b1:=b1.cells
 have c_b2:=b2.cells
 generalize layM l N mode base loc=o at *
 clear hW
 go_enter Tryz.func198,Tryz.ntmps198
 go_wp2_with fail
 refine (hR _ hX).mono ?_
 rintro e w2 ⟨hx,hr⟩
 replace b1:=b1.ext hx
 replace hX:=hX.trans hx
 clear c_b1 c_b2 hR hx
 cases o with
 | none =>
   obtain⟨x,hx0,rfl⟩:=hr
   have d0:(x==0)=false:=by rw [beq_eq_false_iff_ne];exact hx0
   have d1:(x != 0)=true:=by rw [bne_iff_ne];exact hx0
   clear hx0 hok
   go_wp2_with fail
   exact bodyPost_ret (v:=.tuple #[.int .i64 0,.int .i64 0,.bool false]) (by simp [results,Tryz.results198,go_sem]) rfl ⟨rfl,hX⟩
 | some rs =>
   obtain⟨v3,rfl,hr3⟩:=hr
   obtain⟨hok1,hok2⟩:=hok rs rfl
   have hbd:=(sum_bd hok1 rs.length (Nat.le_refl _)).2
   rw [List.take_length] at hbd
   have hS:=fun w h=>sizeV_p v3 rs w h hok1 hok2
   have hr4:=Lib.hid (Recs.of_row hr3)
   clear hok hok1 hr3
   go_wp2_with fail
   refine (hS _ hr4.out).mono ?_
   rintro e w3 ⟨rfl,hx⟩
   replace b1:=b1.ext hx
   replace hX:=hX.trans hx
   have wr1:IntKind.i64.wrap (sumL rs+mo)=sumL rs+mo:=IntWalk.i64_in _ (by omega)
   clear hS hx
   have hS:∀ w',Ext w3 w'->w'.cell? ⟨w.heap.size,1,none⟩=some (.int .i64 mo):=fun w' hx=>(b1.ext hx).cells 1
   have hXf:=Lib.hid hX.drew
   go_wp2_with fail
   refine wp_region_held_drew (S:=fun w'=>w'.cell? ⟨w.heap.size,1,none⟩=some (.int .i64 mo)) rfl (hS _ (Ext.refl w3).drew) (fun hHeld=>?_)
   refine tkb 0 ?_
   iterate 8
    refine tkn (v:=?_) rfl (by kernel_rfl) (fun _ _ _ h=>h) (by assumption) ?_ ?_
    rotate_left
    · (intro w hSw;(try dsimp only at hSw);go_simp;try with_reducible rfl)
    try simp only [put_pack]
   refine tke ?_
   refine wpAnyH_done (by kernel_rfl) ?_ _
   go_simp
   go_wp2_with fail
   exact bodyPost_ret (v:=.tuple #[.int .i64 (sumC rs),.int .i64 (sumL rs+mo),.bool true]) (by simp [results,Tryz.results198,go_sem]) rfl ⟨rfl,hXf.out⟩
set_option maxRecDepth 100000 in
set_option maxHeartbeats 1000000 in
theorem laidstrips_p (F G H:FuncId)(cp:Array Value)(mo:Int)(l:List Want)(hl:l.length<=300)(alg N mode base loc room:Int)(w:World)(rs:List Reg)(hrs:layM l N mode base loc=some rs)
  (hcf:∀ (args:Array Value) (w:World),(callFunc F args).run Tryz.prog w=.ok (.enter F args) w)
  (hW:∀ W,Ext w W->Calls Tryz.prog F (#[.int .i64 N]++cp) W fun e w'=>∃ v,e=.returned v/\WantsAt w' v l/\Ext W w') :
  Calls Tryz.prog 199 #[laidV F G H cp mo,lockV alg N mode base loc room] w fun e w'=>∃ v,e=.returned v/\FRecs w.heap.size w' v (sumN rs) (rs.flatMap svals)/\Ext w w':=by
 have hR:=fun W (hx:Ext w W)=>lregs_p F G H cp mo l (by omega) alg N mode base loc room W hcf fun V hV=>hW V (hx.trans hV)
 rw [hrs] at hR
 have hok1:∀ r∈rs,(r.kind=1∨r.kind=6∨r.kind=7)/\1<=r.n/\r.n<=8:=fun r hr=>⟨(laid_all hrs r hr).1.kind,(laid_all hrs r hr).1.n⟩
 have hok2:rs.length<=1000:=by rw [layM_len hrs];omega
 unfold laidV lockV at hR ⊢
 have hX:=Ext.refl w
 have b1:=Blk.new w (.cells #[.func (.func F) #[] cp,.int .i64 mo,.func (.func G) #[] #[],.func (.func H) #[] #[]] 74)
 replace hX:=hX.alloc (.cells #[.func (.func F) #[] cp,.int .i64 mo,.func (.func G) #[] #[],.func (.func H) #[] #[]] 74)
 have b2:=Blk.new (w.alloc (.cells #[.func (.func F) #[] cp,.int .i64 mo,.func (.func G) #[] #[],.func (.func H) #[] #[]] 74)) (.cells #[.int .i64 alg,.int .i64 N,.int .i64 mode,.int .i64 base,.int .i64 loc,.int .i64 room] 23)
 simp only [World.size_alloc] at b2
 replace b1:=b1.alloc (.cells #[.int .i64 alg,.int .i64 N,.int .i64 mode,.int .i64 base,.int .i64 loc,.int .i64 room] 23)
 replace hX:=hX.alloc (.cells #[.int .i64 alg,.int .i64 N,.int .i64 mode,.int .i64 base,.int .i64 loc,.int .i64 room] 23)
 have c_b1:=b1.cells
 have c_b2:=b2.cells
 clear hW hrs
 go_enter Tryz.func199,Tryz.ntmps199
 go_wp2_with fail
 refine (hR _ hX).mono ?_
 rintro e w2 ⟨hx,v3,rfl,hr3⟩
 replace hX:=hX.trans hx
 have hr4:=Lib.hid (Recs.of_row hr3)
 clear c_b1 c_b2 hR hx hr3
 go_wp2_with fail
 refine (pstrips_p v3 rs _ hr4.out hok1 hok2).mono ?_
 rintro e w3 ⟨v,rfl,hf,hx⟩
 have hff:=Lib.hid (And.intro (hf.less hX.size) (hX.trans hx))
 clear hf hx hr4
 go_wp2_with fail
 go_ret
 exact⟨_,rfl,hff.out.1,hff.out.2⟩
end Go.Proofs.YtchahoiainbcaaaGreatDoor
namespace Kv
def lkSz (lay:Option (List Reg)) (alg:Int) (N:Nat):Option (Int × Int) :=
 if alg=1 then some (2*(N:Int),1) else if alg=2 then some ((N:Int),0) else lay.map fun rs=>(sumC rs,sumL rs+(if alg=3∨alg=8 then 1 else 0))
end Kv
namespace Go.Proofs.YtchahoiainbcaaaGreatDoor
open Go.RowKit Kv
def lkS (alg:Int) (N:Nat) (room:Int) (rs:List Reg):List Value :=
 if alg=1 then [.int .i64 N,.int .i64 1,.int .i64 1,.int .i64 N,.int .i64 1,.int .i64 room] else if alg=2 then [.int .i64 N,.int .i64 1,.int .i64 1] else rs.flatMap svals
def lkM (alg:Int) (rs:List Reg):Nat:=if alg=1 then 2 else if alg=2 then 1 else sumN rs
set_option maxRecDepth 100000 in
theorem baksize_p (alg N mode base loc room:Int)(w:World)(h1:1<=N/\N<=8)(h2:1<=room/\room<=1048576) :
  Calls Tryz.prog 184 #[.agg #[],lockV alg N mode base loc room] w fun e w'=>e=.returned (szV (some (2*N,1)))/\Ext w w':=by
 have hS:=fun w=>bakstrips_p alg N mode base loc room w h1 h2
 have hL:=fun w=>baklocals_p alg N mode base loc room w
 unfold lockV at *
 have hw:N+N=2*N:=by omega
 have hX:=Ext.refl w
 have b1:=Blk.new w (.cells #[] 68)
 replace hX:=hX.alloc (.cells #[] 68)
 have b2:=Blk.new (w.alloc (.cells #[] 68)) (.cells #[.int .i64 alg,.int .i64 N,.int .i64 mode,.int .i64 base,.int .i64 loc,.int .i64 room] 23)
 simp only [World.size_alloc] at b2
 replace b1:=b1.alloc (.cells #[.int .i64 alg,.int .i64 N,.int .i64 mode,.int .i64 base,.int .i64 loc,.int .i64 room] 23)
 replace hX:=hX.alloc (.cells #[.int .i64 alg,.int .i64 N,.int .i64 mode,.int .i64 base,.int .i64 loc,.int .i64 room] 23)
 have c_b1:=b1.cells
 have c_b2:=b2.cells
 go_enter Tryz.func184,Tryz.ntmps184
 go_wp2_with fail
 generalize hWW:World.alloc (World.alloc w _) _=W at *
 clear hWW c_b1 c_b2 b1
 have hS2:∀ w',Ext W w'->∀ i,w'.cell? ⟨w.heap.size+1,i,none⟩=(#[.int .i64 alg,.int .i64 N,.int .i64 mode,.int .i64 base,.int .i64 loc,.int .i64 room]:Array Value)[i]?:=fun w' hx=>(b2.ext hx).cells
 refine wp_region_held_drew (S:=fun w'=>∀ i,w'.cell? ⟨w.heap.size+1,i,none⟩=(#[.int .i64 alg,.int .i64 N,.int .i64 mode,.int .i64 base,.int .i64 loc,.int .i64 room]:Array Value)[i]?) rfl (hS2 _ (Ext.refl W).drew) (fun hHeld=>?_)
 refine tk 0 (v:=?_) rfl (by kernel_rfl) (fun _ _ _ h=>h) (by assumption) ?_ ?_
 rotate_left
 · (intro w hSw;(try dsimp only at hSw);go_simp;try with_reducible rfl)
 try simp only [put_pack]
 refine tk 3 (v:=?_) rfl (by kernel_rfl) (fun _ _ _ h=>h) (by assumption) ?_ ?_
 rotate_left
 · (intro w hSw;(try dsimp only at hSw);go_simp;try with_reducible rfl)
 try simp only [put_pack]
 refine wpAnyH_ready (rs:=[1]) (by kernel_rfl) (by simp) ?_
 refine AllReadyH.cons rfl (fun K hKK=>?_) (AllReadyH.nil)
 go_simp
 refine (hS _).mono ?_
 rintro e w2 ⟨b,rfl,-,hb,hx⟩
 have hx2:=(Ext.refl W).drew.trans hx
 clear hx hS
 refine hKK.out _ _ (hS2 _ hx2) (fun hHeld=>?_)
 clear hKK K
 try dsimp only
 refine wpAnyH_ready (rs:=[2]) (by kernel_rfl) (by simp) ?_
 refine AllReadyH.cons rfl (fun K hKK=>?_) (AllReadyH.nil)
 go_simp
 refine (count2_p b 2 N 1 1 N 1 room _ (by omega) (by omega) hb).mono ?_
 rintro e w3 ⟨rfl,hx⟩
 rw [hw]
 replace hx2:=hx2.trans hx
 clear hx hb
 refine hKK.out _ _ (hS2 _ hx2) (fun hHeld=>?_)
 clear hKK K
 try dsimp only
 refine wpAnyH_ready (rs:=[4]) (by kernel_rfl) (by simp) ?_
 refine AllReadyH.cons rfl (fun K hKK=>?_) (AllReadyH.nil)
 go_simp
 refine (hL _).mono ?_
 rintro e w4 ⟨rfl,hx⟩
 replace hx2:=hx2.trans hx
 clear hx hL
 refine hKK.out _ _ (hS2 _ hx2) (fun hHeld=>?_)
 clear hKK K
 try dsimp only
 have hf:=Lib.hid (hX.trans hx2)
 refine tkb 5 ?_
 iterate 3
  refine tkn (v:=?_) rfl (by kernel_rfl) (fun _ _ _ h=>h) (by assumption) ?_ ?_
  rotate_left
  · (intro w hSw;(try dsimp only at hSw);go_simp;try with_reducible rfl)
  try simp only [put_pack]
 refine tke ?_
 refine wpAnyH_done (by kernel_rfl) ?_ _
 go_simp
 go_wp2_with fail
 exact bodyPost_ret (v:=.tuple #[.int .i64 (2*N),.int .i64 1,.bool true]) (by simp [results,Tryz.results184,go_sem]) rfl ⟨rfl,hf.out⟩
set_option maxRecDepth 100000 in
theorem bitsize_p (alg N mode base loc room:Int)(w:World)(h1:1<=N/\N<=8) :
  Calls Tryz.prog 192 #[.agg #[],lockV alg N mode base loc room] w fun e w'=>e=.returned (szV (some (N,0)))/\Ext w w':=by
 have hS:=fun w=>onestrips_p alg N mode base loc room w h1
 unfold lockV at *
 have hX:=Ext.refl w
 have b1:=Blk.new w (.cells #[] 69)
 replace hX:=hX.alloc (.cells #[] 69)
 have b2:=Blk.new (w.alloc (.cells #[] 69)) (.cells #[.int .i64 alg,.int .i64 N,.int .i64 mode,.int .i64 base,.int .i64 loc,.int .i64 room] 23)
 simp only [World.size_alloc] at b2
 replace b1:=b1.alloc (.cells #[.int .i64 alg,.int .i64 N,.int .i64 mode,.int .i64 base,.int .i64 loc,.int .i64 room] 23)
 replace hX:=hX.alloc (.cells #[.int .i64 alg,.int .i64 N,.int .i64 mode,.int .i64 base,.int .i64 loc,.int .i64 room] 23)
 have c_b1:=b1.cells
 have c_b2:=b2.cells
 go_enter Tryz.func192,Tryz.ntmps192
 go_wp2_with fail
 refine (hS _).mono ?_
 rintro e w2 ⟨b,rfl,-,hb,hx⟩
 replace hX:=hX.trans hx
 clear hx hS c_b1 c_b2
 go_wp2_with fail
 refine (count1_p b 1 N 1 1 _ (by omega) hb).mono ?_
 rintro e w3 ⟨rfl,hx⟩
 replace hX:=hX.trans hx
 clear hx hb
 go_wp2_with fail
 exact bodyPost_ret (v:=.tuple #[.int .i64 N,.int .i64 0,.bool true]) (by simp [results,Tryz.results192,go_sem]) rfl ⟨rfl,hX⟩
theorem FRecs.of_blk {B b n:Nat}{w:World}{vals:List Value}{t:TypeId}(h:Blk w b (.cells vals.toArray t))(hb:B<=b)(hn:n<=1000000):FRecs B w (.slice (some ⟨b,0,none⟩) n n) n vals :=
 ⟨_,_,rfl,Nat.le_refl _,by omega,(fun h=>nomatch h),fun ad he=>⟨b,(Option.some.inj he).symm,hb,h.lt⟩,fun g hg i u hu=>by
  obtain rfl:b=g:=by simpa using hg
  rw [h.cells i,<- hu]
  exact List.getElem?_toArray ..⟩
set_option maxRecDepth 100000 in
theorem bakstr_p (alg N mode base loc room:Int)(w:World)(h1:1<=N/\N<=8)(h2:1<=room/\room<=1048576) :
  Calls Tryz.prog 185 #[.agg #[],lockV alg N mode base loc room] w fun e w'=>∃ v,e=.returned v/\FRecs w.heap.size w' v 2 [.int .i64 N,.int .i64 1,.int .i64 1,.int .i64 N,.int .i64 1,.int .i64 room]/\Ext w w':=by
 have hS:=fun w=>bakstrips_p alg N mode base loc room w h1 h2
 unfold lockV at *
 have hX:=Ext.refl w
 have b1:=Blk.new w (.cells #[] 68)
 replace hX:=hX.alloc (.cells #[] 68)
 have b2:=Blk.new (w.alloc (.cells #[] 68)) (.cells #[.int .i64 alg,.int .i64 N,.int .i64 mode,.int .i64 base,.int .i64 loc,.int .i64 room] 23)
 simp only [World.size_alloc] at b2
 replace b1:=b1.alloc (.cells #[.int .i64 alg,.int .i64 N,.int .i64 mode,.int .i64 base,.int .i64 loc,.int .i64 room] 23)
 replace hX:=hX.alloc (.cells #[.int .i64 alg,.int .i64 N,.int .i64 mode,.int .i64 base,.int .i64 loc,.int .i64 room] 23)
 have c_b1:=b1.cells
 have c_b2:=b2.cells
 go_enter Tryz.func185,Tryz.ntmps185
 go_wp2_with fail
 refine (hS _).mono ?_
 rintro e w2 ⟨b,rfl,hb0,hb,hx⟩
 have hle:=hX.size
 replace hX:=hX.trans hx
 have hf:=Lib.hid (FRecs.of_blk (B:=w.heap.size) (n:=2) (vals:=[.int .i64 N,.int .i64 1,.int .i64 1,.int .i64 N,.int .i64 1,.int .i64 room]) hb (by omega) (by omega))
 clear hx hS c_b1 c_b2 hb
 go_wp2_with fail
 go_ret
 exact⟨_,rfl,hf.out,hX⟩
set_option maxRecDepth 100000 in
theorem bitstr_p (alg N mode base loc room:Int)(w:World)(h1:1<=N/\N<=8) :
  Calls Tryz.prog 193 #[.agg #[],lockV alg N mode base loc room] w fun e w'=>∃ v,e=.returned v/\FRecs w.heap.size w' v 1 [.int .i64 N,.int .i64 1,.int .i64 1]/\Ext w w':=by
 have hS:=fun w=>onestrips_p alg N mode base loc room w h1
 unfold lockV at *
 have hX:=Ext.refl w
 have b1:=Blk.new w (.cells #[] 69)
 replace hX:=hX.alloc (.cells #[] 69)
 have b2:=Blk.new (w.alloc (.cells #[] 69)) (.cells #[.int .i64 alg,.int .i64 N,.int .i64 mode,.int .i64 base,.int .i64 loc,.int .i64 room] 23)
 simp only [World.size_alloc] at b2
 replace b1:=b1.alloc (.cells #[.int .i64 alg,.int .i64 N,.int .i64 mode,.int .i64 base,.int .i64 loc,.int .i64 room] 23)
 replace hX:=hX.alloc (.cells #[.int .i64 alg,.int .i64 N,.int .i64 mode,.int .i64 base,.int .i64 loc,.int .i64 room] 23)
 have c_b1:=b1.cells
 have c_b2:=b2.cells
 go_enter Tryz.func193,Tryz.ntmps193
 go_wp2_with fail
 refine (hS _).mono ?_
 rintro e w2 ⟨b,rfl,hb0,hb,hx⟩
 have hle:=hX.size
 replace hX:=hX.trans hx
 have hf:=Lib.hid (FRecs.of_blk (B:=w.heap.size) (n:=1) (vals:=[.int .i64 N,.int .i64 1,.int .i64 1]) hb (by omega) (by omega))
 clear hx hS c_b1 c_b2 hb
 go_wp2_with fail
 go_ret
 exact⟨_,rfl,hf.out,hX⟩
set_option maxRecDepth 100000 in
theorem of1_w (alg:Int)(N x:Nat)(w:World)(h1:1<=N)(h2:N<=8)(hx:w.cell? ⟨x,0,none⟩=some (.int .i64 alg)) :
  Calls Tryz.prog 39 #[.int .i64 N,.pointer (some ⟨x,0,none⟩)] w fun e w'=>∃ v,e=.returned v/\WantsAt w' v (treeWants (eachK alg) N)/\Ext w w':=by
 go_enter Tryz.func39,Tryz.ntmps39
 go_wp2_with fail
 refine (twants_p alg N _ h1 (by omega)).mono ?_
 rintro e w2 ⟨v,rfl,hw,hx2⟩
 have hf:=Lib.hid hw
 clear hw
 go_wp2_with fail
 go_ret
 exact⟨_,rfl,hf.out,hx2⟩
structure LkIs (W1:World) (alg:Int) (N:Nat) (mode base loc room:Int) (Y:TypeId) (a:Array Value):Prop where
 size:∃ M,(∀ w,(method 299 Y (.agg a) "kevel/lock.size").run Tryz.prog w=.ok (M,.agg a) w)/\(∀ (args:Array Value) (w:World),(callFunc M args).run Tryz.prog w=.ok (.enter M args) w) /\
  ∀ W,Ext W1 W->Calls Tryz.prog M #[.agg a,lockV alg N mode base loc room] W fun e w'=>e=.returned (szV (lkSz (layM (lkWants alg N) N mode base loc) alg N))/\Ext W w'
 strips:∃ M,(∀ w,(method 299 Y (.agg a) "kevel/lock.strips").run Tryz.prog w=.ok (M,.agg a) w)/\(∀ (args:Array Value) (w:World),(callFunc M args).run Tryz.prog w=.ok (.enter M args) w) /\
  ∀ W,Ext W1 W->∀ rs,(3<=alg->layM (lkWants alg N) N mode base loc=some rs)->Calls Tryz.prog M #[.agg a,lockV alg N mode base loc room] W fun e w'=>∃ v,e=.returned v/\FRecs W.heap.size w' v (lkM alg rs) (lkS alg N room rs)/\Ext W w'
set_option maxRecDepth 100000 in
theorem lkis_bak (W1:World)(N:Nat)(mode base loc room:Int)(h1:1<=N/\N<=8)(h2:1<=room/\room<=1048576):LkIs W1 1 N mode base loc room 68 #[] :=
 ⟨⟨184,fun _=>by kernel_rfl,fun _ _=>by kernel_rfl,fun W _=>baksize_p 1 N mode base loc room W (by omega) h2⟩,
  ⟨185,fun _=>by kernel_rfl,fun _ _=>by kernel_rfl,fun W _ _ _=>bakstr_p 1 N mode base loc room W (by omega) h2⟩⟩
set_option maxRecDepth 100000 in
theorem lkis_bit (W1:World)(N:Nat)(mode base loc room:Int)(h1:1<=N/\N<=8):LkIs W1 2 N mode base loc room 69 #[] :=
 ⟨⟨192,fun _=>by kernel_rfl,fun _ _=>by kernel_rfl,fun W _=>bitsize_p 2 N mode base loc room W (by omega)⟩,
  ⟨193,fun _=>by kernel_rfl,fun _ _=>by kernel_rfl,fun W _ _ _=>bitstr_p 2 N mode base loc room W (by omega)⟩⟩
set_option maxRecDepth 100000 in
theorem lkis_laid (W1:World)(alg:Int)(h3:3<=alg)(N:Nat)(mode base loc room:Int)(h1:1<=N/\N<=8)(F G H:FuncId)(cp:Array Value)(mo:Int)(hmo:mo=if alg=3∨alg=8 then 1 else 0)
  (hcf:∀ (args:Array Value) (w:World),(callFunc F args).run Tryz.prog w=.ok (.enter F args) w)
  (hW:∀ W,Ext W1 W->Calls Tryz.prog F (#[.int .i64 N]++cp) W fun e w'=>∃ v,e=.returned v/\WantsAt w' v (lkWants alg N)/\Ext W w') :
  LkIs W1 alg N mode base loc room 74 #[.func (.func F) #[] cp,.int .i64 mo,.func (.func G) #[] #[],.func (.func H) #[] #[]]:=by
 have hl:=lkWants_le alg h1.1 h1.2
 have hm:0<=mo/\mo<=1:=by rw [hmo];split <;> omega
 refine⟨⟨198,fun _=>by kernel_rfl,fun _ _=>by kernel_rfl,fun W hX=>?_⟩,⟨199,fun _=>by kernel_rfl,fun _ _=>by kernel_rfl,fun W hX rs hrs=>?_⟩⟩
 · have h:=laidsize_p F G H cp mo hm (lkWants alg N) hl alg N mode base loc room W hcf fun V hV=>hW V (hX.trans hV)
   unfold lkSz
   rw [if_neg (by omega),if_neg (by omega),<- hmo]
   exact h
 · have h:=laidstrips_p F G H cp mo (lkWants alg N) hl alg N mode base loc room W rs (hrs h3) hcf fun V hV=>hW V (hX.trans hV)
   unfold lkM lkS
   rw [if_neg (by omega),if_neg (by omega),if_neg (by omega),if_neg (by omega)]
   exact h
set_option maxRecDepth 100000 in
theorem lof_p (alg:Int)(N:Nat)(mode base loc room:Int)(w:World)(ha:1<=alg/\alg<=8)(h1:1<=N/\N<=8)(h2:1<=room/\room<=1048576) :
  Calls Tryz.prog 20 #[.int .i64 alg] w fun e w'=>∃ Y a,e=.returned (.iface Y (.agg a))/\Ext w w'/\LkIs w' alg N mode base loc room Y a:=by
 have hX:=(Ext.refl w).alloc (.cells #[.int .i64 alg] 3)
 have hx:=(Blk.new w (.cells #[.int .i64 alg] 3))
 have:alg=1∨alg=2∨alg=3∨alg=4∨alg=5∨alg=6∨alg=7∨alg=8:=by omega
 rcases this with rfl | rfl | rfl | rfl | rfl | rfl | rfl | rfl
 · have hL:=Lib.hid (lkis_bak (w.alloc (.cells #[.int .i64 1] 3)) N mode base loc room h1 h2)
   clear hx
   go_enter Tryz.func20,Tryz.ntmps20
   go_wp2_with fail
   go_ret
   exact⟨_,_,rfl,hX,hL.out⟩
 · have hL:=Lib.hid (lkis_bit (w.alloc (.cells #[.int .i64 2] 3)) N mode base loc room h1)
   clear hx
   go_enter Tryz.func20,Tryz.ntmps20
   go_wp2_with fail
   go_ret
   exact⟨_,_,rfl,hX,hL.out⟩
 · have hL:=Lib.hid (lkis_laid (w.alloc (.cells #[.int .i64 3] 3)) 3 (by omega) N mode base loc room h1 30 31 32 #[] 1 rfl (fun _ _=>by kernel_rfl) fun W _=>bwwants_p N W h1.1 h1.2)
   clear hx
   go_enter Tryz.func20,Tryz.ntmps20
   go_wp2_with fail
   go_ret
   exact⟨_,_,rfl,hX,hL.out⟩
 · have hL:=Lib.hid (lkis_laid (w.alloc (.cells #[.int .i64 4] 3)) 4 (by omega) N mode base loc room h1 33 34 35 #[] 0 rfl (fun _ _=>by kernel_rfl) fun W _=>filwants_p N W h1.1 h1.2)
   clear hx
   go_enter Tryz.func20,Tryz.ntmps20
   go_wp2_with fail
   go_ret
   exact⟨_,_,rfl,hX,hL.out⟩
 · have hL:=Lib.hid (lkis_laid (w.alloc (.cells #[.int .i64 5] 3)) 5 (by omega) N mode base loc room h1 36 37 38 #[] 0 rfl (fun _ _=>by kernel_rfl) fun W _=>fastwants_p N W h1.1 h1.2)
   clear hx
   go_enter Tryz.func20,Tryz.ntmps20
   go_wp2_with fail
   go_ret
   exact⟨_,_,rfl,hX,hL.out⟩
 · have hL:=Lib.hid (lkis_laid (w.alloc (.cells #[.int .i64 6] 3)) 6 (by omega) N mode base loc room h1 39 41 42 #[.pointer (some ⟨w.heap.size,0,none⟩)] 0 rfl (fun _ _=>by kernel_rfl) fun W hXW=>of1_w 6 N w.heap.size W h1.1 h1.2 ((hx.ext hXW).cells 0))
   clear hx
   go_enter Tryz.func20,Tryz.ntmps20
   go_wp2_with fail
   go_ret
   exact⟨_,_,rfl,hX,hL.out⟩
 · have hL:=Lib.hid (lkis_laid (w.alloc (.cells #[.int .i64 7] 3)) 7 (by omega) N mode base loc room h1 39 41 42 #[.pointer (some ⟨w.heap.size,0,none⟩)] 0 rfl (fun _ _=>by kernel_rfl) fun W hXW=>of1_w 7 N w.heap.size W h1.1 h1.2 ((hx.ext hXW).cells 0))
   clear hx
   go_enter Tryz.func20,Tryz.ntmps20
   go_wp2_with fail
   go_ret
   exact⟨_,_,rfl,hX,hL.out⟩
 · have hL:=Lib.hid (lkis_laid (w.alloc (.cells #[.int .i64 8] 3)) 8 (by omega) N mode base loc room h1 43 44 45 #[] 1 rfl (fun _ _=>by kernel_rfl) fun W _=>adwants_p N W h1.1 h1.2)
   clear hx
   go_enter Tryz.func20,Tryz.ntmps20
   go_wp2_with fail
   go_ret
   exact⟨_,_,rfl,hX,hL.out⟩
set_option maxRecDepth 100000 in
theorem lof_no (alg:Int)(w:World)(ha:¬ (1<=alg/\alg<=8)) :
  Calls Tryz.prog 20 #[.int .i64 alg] w fun e w'=>e=.returned .nilIface/\Ext w w':=by
 have hX:=(Ext.refl w).alloc (.cells #[.int .i64 alg] 3)
 have d1:(alg==1)=false:=by rw [beq_eq_false_iff_ne];omega
 have d2:(alg==2)=false:=by rw [beq_eq_false_iff_ne];omega
 have d3:(alg==3)=false:=by rw [beq_eq_false_iff_ne];omega
 have d4:(alg==4)=false:=by rw [beq_eq_false_iff_ne];omega
 have d5:(alg==5)=false:=by rw [beq_eq_false_iff_ne];omega
 have d6:(alg==6)=false:=by rw [beq_eq_false_iff_ne];omega
 have d7:(alg==7)=false:=by rw [beq_eq_false_iff_ne];omega
 have d8:(alg==8)=false:=by rw [beq_eq_false_iff_ne];omega
 clear ha
 go_enter Tryz.func20,Tryz.ntmps20
 go_wp2_with fail
 go_ret
 exact⟨rfl,hX⟩
set_option maxRecDepth 100000 in
theorem lstrips_p (alg:Int)(N:Nat)(mode base loc room:Int)(w:World)(ha:1<=alg/\alg<=8)(h1:1<=N/\N<=8)(h2:1<=room/\room<=1048576)(rs:List Reg)(hrs:3<=alg->layM (lkWants alg N) N mode base loc=some rs) :
  Calls Tryz.prog 19 #[lockV alg N mode base loc room] w fun e w'=>∃ v,e=.returned v/\FRecs w.heap.size w' v (lkM alg rs) (lkS alg N room rs)/\Ext w w':=by
 have hO:=fun w=>lof_p alg N mode base loc room w ha h1 h2
 generalize hM:lkM alg rs=m at *
 generalize hS:lkS alg N room rs=vs at *
 have hX:=Ext.refl w
 have b1:=Blk.new w (.cells #[.int .i64 alg,.int .i64 N,.int .i64 mode,.int .i64 base,.int .i64 loc,.int .i64 room] 23)
 replace hX:=hX.alloc (.cells #[.int .i64 alg,.int .i64 N,.int .i64 mode,.int .i64 base,.int .i64 loc,.int .i64 room] 23)
 have c_b1:=b1.cells
 unfold lockV
 go_enter Tryz.func19,Tryz.ntmps19
 go_wp2_with fail
 refine (hO _).mono ?_
 rintro e w2 ⟨Y,a,rfl,hx,-,M,hmt,hcf,hq⟩
 have hq2:=hq _ (Ext.refl w2) rs hrs
 rw [hM,hS] at hq2
 unfold lockV at hq2
 replace b1:=b1.ext hx
 replace hX:=hX.trans hx
 clear hx hO hq hrs c_b1 hM hS
 have c_b1:=b1.cells
 go_wp2_with fail
 refine hq2.mono ?_
 rintro e w3 ⟨v,rfl,hf,hx⟩
 have hff:=Lib.hid (And.intro (hf.less hX.size) (hX.trans hx))
 clear hf hx
 go_wp2_with fail
 go_ret
 exact⟨_,rfl,hff.out.1,hff.out.2⟩
set_option maxRecDepth 100000 in
theorem lcells_p (alg:Int)(N:Nat)(mode base loc room:Int)(w:World)(ha:1<=alg/\alg<=8)(h1:1<=N/\N<=8)(h2:1<=room/\room<=1048576)(c l:Int)(hs:lkSz (layM (lkWants alg N) N mode base loc) alg N=some (c,l)) :
  Calls Tryz.prog 7 #[lockV alg N mode base loc room] w fun e w'=>e=.returned (.int .i64 c)/\Ext w w':=by
 have hO:=fun w=>lof_p alg N mode base loc room w ha h1 h2
 have hX:=Ext.refl w
 have b1:=Blk.new w (.cells #[.int .i64 alg,.int .i64 N,.int .i64 mode,.int .i64 base,.int .i64 loc,.int .i64 room] 23)
 replace hX:=hX.alloc (.cells #[.int .i64 alg,.int .i64 N,.int .i64 mode,.int .i64 base,.int .i64 loc,.int .i64 room] 23)
 have c_b1:=b1.cells
 unfold lockV
 go_enter Tryz.func7,Tryz.ntmps7
 go_wp2_with fail
 refine (hO _).mono ?_
 rintro e w2 ⟨Y,a,rfl,hx,⟨M,hmt,hcf,hq⟩,-⟩
 have hq2:=hq _ (Ext.refl w2)
 rw [hs] at hq2
 unfold lockV szV at hq2
 simp only at hq2
 replace b1:=b1.ext hx
 replace hX:=hX.trans hx
 clear hx hO hq c_b1 hs
 have c_b1:=b1.cells
 go_wp2_with fail
 refine hq2.mono ?_
 rintro e w3 ⟨rfl,hx⟩
 replace hX:=hX.trans hx
 clear hx
 go_wp2_with fail
 go_ret
 exact⟨rfl,hX⟩
set_option maxRecDepth 100000 in
theorem llocals_p (alg:Int)(N:Nat)(mode base loc room:Int)(w:World)(ha:1<=alg/\alg<=8)(h1:1<=N/\N<=8)(h2:1<=room/\room<=1048576)(c l:Int)(hs:lkSz (layM (lkWants alg N) N mode base loc) alg N=some (c,l)) :
  Calls Tryz.prog 13 #[lockV alg N mode base loc room] w fun e w'=>e=.returned (.int .i64 l)/\Ext w w':=by
 have hO:=fun w=>lof_p alg N mode base loc room w ha h1 h2
 have hX:=Ext.refl w
 have b1:=Blk.new w (.cells #[.int .i64 alg,.int .i64 N,.int .i64 mode,.int .i64 base,.int .i64 loc,.int .i64 room] 23)
 replace hX:=hX.alloc (.cells #[.int .i64 alg,.int .i64 N,.int .i64 mode,.int .i64 base,.int .i64 loc,.int .i64 room] 23)
 have c_b1:=b1.cells
 unfold lockV
 go_enter Tryz.func13,Tryz.ntmps13
 go_wp2_with fail
 refine (hO _).mono ?_
 rintro e w2 ⟨Y,a,rfl,hx,⟨M,hmt,hcf,hq⟩,-⟩
 have hq2:=hq _ (Ext.refl w2)
 rw [hs] at hq2
 unfold lockV szV at hq2
 simp only at hq2
 replace b1:=b1.ext hx
 replace hX:=hX.trans hx
 clear hx hO hq c_b1 hs
 have c_b1:=b1.cells
 go_wp2_with fail
 refine hq2.mono ?_
 rintro e w3 ⟨rfl,hx⟩
 replace hX:=hX.trans hx
 clear hx
 go_wp2_with fail
 go_ret
 exact⟨rfl,hX⟩
theorem lkSz_some {alg:Int}{N:Nat}{lay:Option (List Reg)}{rs:List Reg}(h:3<=alg->lay=some rs)(ha:1<=alg):lkSz lay alg N=some (lkC alg N rs,lkL alg rs):=by
 unfold lkSz lkC lkL
 by_cases h1:alg=1
 · rw [if_pos h1,if_pos h1,if_pos h1]
 · by_cases h2:alg=2
   · rw [if_neg h1,if_pos h2,if_neg h1,if_pos h2,if_neg h1,if_pos h2]
   · rw [if_neg h1,if_neg h2,if_neg h1,if_neg h2,if_neg h1,if_neg h2,h (by omega)]
     simp only [Option.map_some,Option.some.injEq,Prod.mk.injEq,true_and]
     split <;> omega
theorem lkSz_bd {alg:Int}{N:Nat}{mode base loc:Int}{c l:Int}(h1:1<=N/\N<=8)(h:lkSz (layM (lkWants alg N) N mode base loc) alg N=some (c,l)):0<=c/\c<=2000000/\0<=l/\l<=3000000:=by
 unfold lkSz at h
 split at h
 · cases h;omega
 · split at h
   · cases h;omega
   · cases hl:layM (lkWants alg N) N mode base loc with
     | none=>rw [hl] at h;cases h
     | some rs =>
       rw [hl] at h
       have hok:∀ r∈rs,r.ok:=fun r hr=>(laid_all hl r hr).1
       have hb:=sum_bd hok rs.length (Nat.le_refl _)
       rw [List.take_length] at hb
       have hle:=lkWants_le alg h1.1 h1.2
       rw [<- layM_len hl] at hle
       simp only [Option.map_some,Option.some.injEq,Prod.mk.injEq] at h
       obtain⟨rfl,rfl⟩:=h
       split <;> omega
@[go_sem] theorem eql_held (Y:TypeId) (a:Value) (w:World):(binOp .eql 44 (.iface Y a) .nilIface).run Tryz.prog w=.ok (.bool false) w:=by
 first | exact run_eql_held_nil _ _ _ (by kernel_rfl) | (simp [binOp,Op.equal];try kernel_rfl)
set_option maxRecDepth 100000 in
set_option maxHeartbeats 1000000 in
theorem lfine_some (alg:Int)(N:Nat)(mode base loc room:Int)(w:World)(ha:1<=alg/\alg<=8)(h1:1<=N/\N<=8)(h2:1<=room/\room<=1048576)(hm:mode=1∨mode=2)(hb:0<=base/\base<=32768)(hl:0<=loc/\loc<=32768)(c l:Int)(hz:lkSz (layM (lkWants alg N) N mode base loc) alg N=some (c,l)) :
  Calls Tryz.prog 9 #[lockV alg N mode base loc room] w fun e w'=>∃ b,e=.returned (.bool b)/\b=(decide (base+c<=32768)&&decide (loc+l<=32768))/\Ext w w':=by
 have hO:=fun w=>lof_p alg N mode base loc room w ha h1 h2
 have hcl:=lkSz_bd h1 hz
 have hX:=Ext.refl w
 have b1:=Blk.new w (.cells #[.int .i64 alg,.int .i64 N,.int .i64 mode,.int .i64 base,.int .i64 loc,.int .i64 room] 23)
 replace hX:=hX.alloc (.cells #[.int .i64 alg,.int .i64 N,.int .i64 mode,.int .i64 base,.int .i64 loc,.int .i64 room] 23)
 have c_b1:=b1.cells
 unfold lockV
 have d1:decide ((N:Int)<1)=false:=by rw [decide_eq_false_iff_not];omega
 have d2:decide ((8:Int)<N)=false:=by rw [decide_eq_false_iff_not];omega
 have d3:decide (room<1)=false:=by rw [decide_eq_false_iff_not];omega
 have d4:decide ((1048576:Int)<room)=false:=by rw [decide_eq_false_iff_not];omega
 have d6:decide (base<0)=false:=by rw [decide_eq_false_iff_not];omega
 have d7:decide ((32768:Int)<base)=false:=by rw [decide_eq_false_iff_not];omega
 have d8:decide (loc<0)=false:=by rw [decide_eq_false_iff_not];omega
 have d9:decide ((32768:Int)<loc)=false:=by rw [decide_eq_false_iff_not];omega
 have w1:IntKind.i64.wrap (base+c)=base+c:=IntWalk.i64_in _ (by omega)
 have w2:IntKind.i64.wrap (loc+l)=loc+l:=IntWalk.i64_in _ (by omega)
 obtain⟨f1,hf1⟩:∃ f1,decide (base+c<=32768)=f1:=⟨_,rfl⟩
 obtain⟨f2,hf2⟩:∃ f2,decide (loc+l<=32768)=f2:=⟨_,rfl⟩
 rw [hf1,hf2]
 rcases hm with rfl | rfl
 all_goals
  cases f1 <;> cases f2
  all_goals
   go_enter Tryz.func9,Tryz.ntmps9
   go_wp2_with fail
   refine (hO _).mono ?_
   rintro e w2 ⟨Y,a,rfl,hx,⟨M,hmt,hcf,hq⟩,-⟩
   have hq2:=hq _ (Ext.refl w2)
   rw [hz] at hq2
   unfold lockV szV at hq2
   simp only at hq2
   replace b1:=b1.ext hx
   replace hX:=hX.trans hx
   clear hx hO hq c_b1 hz
   have c_b1:=b1.cells
   go_wp2_with fail
   refine hq2.mono ?_
   rintro e w3 ⟨rfl,hx⟩
   replace b1:=b1.ext hx
   replace hX:=hX.trans hx
   clear hx c_b1 hq2 hmt hcf
   have c_b1:=b1.cells
   go_wp2_with fail
   go_ret
   exact⟨_,rfl,rfl,hX⟩
set_option maxRecDepth 100000 in
set_option maxHeartbeats 1000000 in
theorem lfine_none (alg:Int)(N:Nat)(mode base loc room:Int)(w:World)(ha:1<=alg/\alg<=8)(h1:1<=N/\N<=8)(h2:1<=room/\room<=1048576)(hm:mode=1∨mode=2)(hb:0<=base/\base<=32768)(hl:0<=loc/\loc<=32768)(hz:lkSz (layM (lkWants alg N) N mode base loc) alg N=none) :
  Calls Tryz.prog 9 #[lockV alg N mode base loc room] w fun e w'=>e=.returned (.bool false)/\Ext w w':=by
 have hO:=fun w=>lof_p alg N mode base loc room w ha h1 h2
 have hX:=Ext.refl w
 have b1:=Blk.new w (.cells #[.int .i64 alg,.int .i64 N,.int .i64 mode,.int .i64 base,.int .i64 loc,.int .i64 room] 23)
 replace hX:=hX.alloc (.cells #[.int .i64 alg,.int .i64 N,.int .i64 mode,.int .i64 base,.int .i64 loc,.int .i64 room] 23)
 have c_b1:=b1.cells
 unfold lockV
 have d1:decide ((N:Int)<1)=false:=by rw [decide_eq_false_iff_not];omega
 have d2:decide ((8:Int)<N)=false:=by rw [decide_eq_false_iff_not];omega
 have d3:decide (room<1)=false:=by rw [decide_eq_false_iff_not];omega
 have d4:decide ((1048576:Int)<room)=false:=by rw [decide_eq_false_iff_not];omega
 have d6:decide (base<0)=false:=by rw [decide_eq_false_iff_not];omega
 have d7:decide ((32768:Int)<base)=false:=by rw [decide_eq_false_iff_not];omega
 have d8:decide (loc<0)=false:=by rw [decide_eq_false_iff_not];omega
 have d9:decide ((32768:Int)<loc)=false:=by rw [decide_eq_false_iff_not];omega
 rcases hm with rfl | rfl
 all_goals
  go_enter Tryz.func9,Tryz.ntmps9
  go_wp2_with fail
  refine (hO _).mono ?_
  rintro e w2 ⟨Y,a,rfl,hx,⟨M,hmt,hcf,hq⟩,-⟩
  have hq2:=hq _ (Ext.refl w2)
  rw [hz] at hq2
  unfold lockV szV at hq2
  simp only at hq2
  replace b1:=b1.ext hx
  replace hX:=hX.trans hx
  clear hx hO hq c_b1 hz
  have c_b1:=b1.cells
  go_wp2_with fail
  refine hq2.mono ?_
  rintro e w3 ⟨rfl,hx⟩
  replace b1:=b1.ext hx
  replace hX:=hX.trans hx
  clear hx c_b1 hq2 hmt hcf
  have c_b1:=b1.cells
  go_wp2_with fail
  go_ret
  exact⟨rfl,hX⟩
theorem lfine_yes (alg:Int)(N:Nat)(mode base loc room:Int)(w:World)(ha:1<=alg/\alg<=8)(h1:1<=N/\N<=8)(h2:1<=room/\room<=1048576)(hm:mode=1∨mode=2)(hb:0<=base/\base<=32768)(hl:0<=loc/\loc<=32768) :
  Calls Tryz.prog 9 #[lockV alg N mode base loc room] w fun e w'=>e=.returned (.bool (match lkSz (layM (lkWants alg N) N mode base loc) alg N with | some (c,l)=>decide (base+c<=32768)&&decide (loc+l<=32768) | none=>false))/\Ext w w':=by
 cases hz:lkSz (layM (lkWants alg N) N mode base loc) alg N with
 | none=>exact lfine_none alg N mode base loc room w ha h1 h2 hm hb hl hz
 | some cl =>
   obtain⟨c,l⟩:=cl
   refine (lfine_some alg N mode base loc room w ha h1 h2 hm hb hl c l hz).mono ?_
   rintro e w' ⟨b,rfl,rfl,hx⟩
   exact⟨rfl,hx⟩
set_option maxRecDepth 100000 in
set_option maxHeartbeats 1000000 in
theorem lfine_no (alg n mode base loc room:Int)(w:World)(hbad:¬ ((1<=alg/\alg<=8)/\(1<=n/\n<=8)/\(1<=room/\room<=1048576)/\(mode=1∨mode=2)/\(0<=base/\base<=32768)/\(0<=loc/\loc<=32768))) :
  Calls Tryz.prog 9 #[lockV alg n mode base loc room] w fun e w'=>e=.returned (.bool false)/\Ext w w':=by
 have hX:=Ext.refl w
 have b1:=Blk.new w (.cells #[.int .i64 alg,.int .i64 n,.int .i64 mode,.int .i64 base,.int .i64 loc,.int .i64 room] 23)
 replace hX:=hX.alloc (.cells #[.int .i64 alg,.int .i64 n,.int .i64 mode,.int .i64 base,.int .i64 loc,.int .i64 room] 23)
 have c_b1:=b1.cells
 unfold lockV
 by_cases ha:1<=alg/\alg<=8
 rotate_left
 · go_enter Tryz.func9,Tryz.ntmps9
   go_wp2_with fail
   refine (lof_no alg _ ha).mono ?_
   rintro e w2 ⟨rfl,hx⟩
   replace hX:=hX.trans hx
   clear hx c_b1 b1 hbad
   go_wp2_with fail
   go_ret
   exact⟨rfl,hX⟩
 have hO:∀ w,Calls Tryz.prog 20 #[.int .i64 alg] w fun e w'=>∃ Y a,e=.returned (.iface Y (.agg a))/\Ext w w':=fun w=>(lof_p alg 1 1 0 0 1 w ha (by omega) (by omega)).mono fun e w' ⟨Y,a,h1,h2,_⟩=>⟨Y,a,h1,h2⟩
 by_cases t0:n<1
 · have d0:decide (n<1)=true:=by rw [decide_eq_true_eq];omega
   clear hbad
   go_enter Tryz.func9,Tryz.ntmps9
   go_wp2_with fail
   refine (hO _).mono ?_
   rintro e w2 ⟨Y,a,rfl,hx⟩
   replace b1:=b1.ext hx
   replace hX:=hX.trans hx
   clear hx hO c_b1
   have c_b1:=b1.cells
   go_wp2_with fail
   go_ret
   exact⟨rfl,hX⟩
 by_cases t1:8<n
 · have d0:decide (n<1)=false:=by rw [decide_eq_false_iff_not];omega
   have d1:decide ((8:Int)<n)=true:=by rw [decide_eq_true_eq];omega
   clear hbad
   go_enter Tryz.func9,Tryz.ntmps9
   go_wp2_with fail
   refine (hO _).mono ?_
   rintro e w2 ⟨Y,a,rfl,hx⟩
   replace b1:=b1.ext hx
   replace hX:=hX.trans hx
   clear hx hO c_b1
   have c_b1:=b1.cells
   go_wp2_with fail
   go_ret
   exact⟨rfl,hX⟩
 by_cases t2:room<1
 · have d0:decide (n<1)=false:=by rw [decide_eq_false_iff_not];omega
   have d1:decide ((8:Int)<n)=false:=by rw [decide_eq_false_iff_not];omega
   have d2:decide (room<1)=true:=by rw [decide_eq_true_eq];omega
   clear hbad
   go_enter Tryz.func9,Tryz.ntmps9
   go_wp2_with fail
   refine (hO _).mono ?_
   rintro e w2 ⟨Y,a,rfl,hx⟩
   replace b1:=b1.ext hx
   replace hX:=hX.trans hx
   clear hx hO c_b1
   have c_b1:=b1.cells
   go_wp2_with fail
   go_ret
   exact⟨rfl,hX⟩
 by_cases t3:1048576<room
 · have d0:decide (n<1)=false:=by rw [decide_eq_false_iff_not];omega
   have d1:decide ((8:Int)<n)=false:=by rw [decide_eq_false_iff_not];omega
   have d2:decide (room<1)=false:=by rw [decide_eq_false_iff_not];omega
   have d3:decide ((1048576:Int)<room)=true:=by rw [decide_eq_true_eq];omega
   clear hbad
   go_enter Tryz.func9,Tryz.ntmps9
   go_wp2_with fail
   refine (hO _).mono ?_
   rintro e w2 ⟨Y,a,rfl,hx⟩
   replace b1:=b1.ext hx
   replace hX:=hX.trans hx
   clear hx hO c_b1
   have c_b1:=b1.cells
   go_wp2_with fail
   go_ret
   exact⟨rfl,hX⟩
 by_cases t4:mode≠1/\mode≠2
 · have d0:decide (n<1)=false:=by rw [decide_eq_false_iff_not];omega
   have d1:decide ((8:Int)<n)=false:=by rw [decide_eq_false_iff_not];omega
   have d2:decide (room<1)=false:=by rw [decide_eq_false_iff_not];omega
   have d3:decide ((1048576:Int)<room)=false:=by rw [decide_eq_false_iff_not];omega
   have d4:(mode != 1)=true:=by rw [bne_iff_ne];omega
   have d4b:(mode != 2)=true:=by rw [bne_iff_ne];omega
   clear hbad
   go_enter Tryz.func9,Tryz.ntmps9
   go_wp2_with fail
   refine (hO _).mono ?_
   rintro e w2 ⟨Y,a,rfl,hx⟩
   replace b1:=b1.ext hx
   replace hX:=hX.trans hx
   clear hx hO c_b1
   have c_b1:=b1.cells
   go_wp2_with fail
   go_ret
   exact⟨rfl,hX⟩
 by_cases t5:base<0
 · have hm:mode=1∨mode=2:=by omega
   clear t4
   rcases hm with rfl | rfl
   · have d0:decide (n<1)=false:=by rw [decide_eq_false_iff_not];omega
     have d1:decide ((8:Int)<n)=false:=by rw [decide_eq_false_iff_not];omega
     have d2:decide (room<1)=false:=by rw [decide_eq_false_iff_not];omega
     have d3:decide ((1048576:Int)<room)=false:=by rw [decide_eq_false_iff_not];omega
     have d5:decide (base<0)=true:=by rw [decide_eq_true_eq];omega
     clear hbad
     go_enter Tryz.func9,Tryz.ntmps9
     go_wp2_with fail
     refine (hO _).mono ?_
     rintro e w2 ⟨Y,a,rfl,hx⟩
     replace b1:=b1.ext hx
     replace hX:=hX.trans hx
     clear hx hO c_b1
     have c_b1:=b1.cells
     go_wp2_with fail
     go_ret
     exact⟨rfl,hX⟩
   · have d0:decide (n<1)=false:=by rw [decide_eq_false_iff_not];omega
     have d1:decide ((8:Int)<n)=false:=by rw [decide_eq_false_iff_not];omega
     have d2:decide (room<1)=false:=by rw [decide_eq_false_iff_not];omega
     have d3:decide ((1048576:Int)<room)=false:=by rw [decide_eq_false_iff_not];omega
     have d5:decide (base<0)=true:=by rw [decide_eq_true_eq];omega
     clear hbad
     go_enter Tryz.func9,Tryz.ntmps9
     go_wp2_with fail
     refine (hO _).mono ?_
     rintro e w2 ⟨Y,a,rfl,hx⟩
     replace b1:=b1.ext hx
     replace hX:=hX.trans hx
     clear hx hO c_b1
     have c_b1:=b1.cells
     go_wp2_with fail
     go_ret
     exact⟨rfl,hX⟩
 by_cases t6:32768<base
 · have hm:mode=1∨mode=2:=by omega
   clear t4
   rcases hm with rfl | rfl
   · have d0:decide (n<1)=false:=by rw [decide_eq_false_iff_not];omega
     have d1:decide ((8:Int)<n)=false:=by rw [decide_eq_false_iff_not];omega
     have d2:decide (room<1)=false:=by rw [decide_eq_false_iff_not];omega
     have d3:decide ((1048576:Int)<room)=false:=by rw [decide_eq_false_iff_not];omega
     have d5:decide (base<0)=false:=by rw [decide_eq_false_iff_not];omega
     have d6:decide ((32768:Int)<base)=true:=by rw [decide_eq_true_eq];omega
     clear hbad
     go_enter Tryz.func9,Tryz.ntmps9
     go_wp2_with fail
     refine (hO _).mono ?_
     rintro e w2 ⟨Y,a,rfl,hx⟩
     replace b1:=b1.ext hx
     replace hX:=hX.trans hx
     clear hx hO c_b1
     have c_b1:=b1.cells
     go_wp2_with fail
     go_ret
     exact⟨rfl,hX⟩
   · have d0:decide (n<1)=false:=by rw [decide_eq_false_iff_not];omega
     have d1:decide ((8:Int)<n)=false:=by rw [decide_eq_false_iff_not];omega
     have d2:decide (room<1)=false:=by rw [decide_eq_false_iff_not];omega
     have d3:decide ((1048576:Int)<room)=false:=by rw [decide_eq_false_iff_not];omega
     have d5:decide (base<0)=false:=by rw [decide_eq_false_iff_not];omega
     have d6:decide ((32768:Int)<base)=true:=by rw [decide_eq_true_eq];omega
     clear hbad
     go_enter Tryz.func9,Tryz.ntmps9
     go_wp2_with fail
     refine (hO _).mono ?_
     rintro e w2 ⟨Y,a,rfl,hx⟩
     replace b1:=b1.ext hx
     replace hX:=hX.trans hx
     clear hx hO c_b1
     have c_b1:=b1.cells
     go_wp2_with fail
     go_ret
     exact⟨rfl,hX⟩
 by_cases t7:loc<0
 · have hm:mode=1∨mode=2:=by omega
   clear t4
   rcases hm with rfl | rfl
   · have d0:decide (n<1)=false:=by rw [decide_eq_false_iff_not];omega
     have d1:decide ((8:Int)<n)=false:=by rw [decide_eq_false_iff_not];omega
     have d2:decide (room<1)=false:=by rw [decide_eq_false_iff_not];omega
     have d3:decide ((1048576:Int)<room)=false:=by rw [decide_eq_false_iff_not];omega
     have d5:decide (base<0)=false:=by rw [decide_eq_false_iff_not];omega
     have d6:decide ((32768:Int)<base)=false:=by rw [decide_eq_false_iff_not];omega
     have d7:decide (loc<0)=true:=by rw [decide_eq_true_eq];omega
     clear hbad
     go_enter Tryz.func9,Tryz.ntmps9
     go_wp2_with fail
     refine (hO _).mono ?_
     rintro e w2 ⟨Y,a,rfl,hx⟩
     replace b1:=b1.ext hx
     replace hX:=hX.trans hx
     clear hx hO c_b1
     have c_b1:=b1.cells
     go_wp2_with fail
     go_ret
     exact⟨rfl,hX⟩
   · have d0:decide (n<1)=false:=by rw [decide_eq_false_iff_not];omega
     have d1:decide ((8:Int)<n)=false:=by rw [decide_eq_false_iff_not];omega
     have d2:decide (room<1)=false:=by rw [decide_eq_false_iff_not];omega
     have d3:decide ((1048576:Int)<room)=false:=by rw [decide_eq_false_iff_not];omega
     have d5:decide (base<0)=false:=by rw [decide_eq_false_iff_not];omega
     have d6:decide ((32768:Int)<base)=false:=by rw [decide_eq_false_iff_not];omega
     have d7:decide (loc<0)=true:=by rw [decide_eq_true_eq];omega
     clear hbad
     go_enter Tryz.func9,Tryz.ntmps9
     go_wp2_with fail
     refine (hO _).mono ?_
     rintro e w2 ⟨Y,a,rfl,hx⟩
     replace b1:=b1.ext hx
     replace hX:=hX.trans hx
     clear hx hO c_b1
     have c_b1:=b1.cells
     go_wp2_with fail
     go_ret
     exact⟨rfl,hX⟩
 by_cases t8:32768<loc
 · have hm:mode=1∨mode=2:=by omega
   clear t4
   rcases hm with rfl | rfl
   · have d0:decide (n<1)=false:=by rw [decide_eq_false_iff_not];omega
     have d1:decide ((8:Int)<n)=false:=by rw [decide_eq_false_iff_not];omega
     have d2:decide (room<1)=false:=by rw [decide_eq_false_iff_not];omega
     have d3:decide ((1048576:Int)<room)=false:=by rw [decide_eq_false_iff_not];omega
     have d5:decide (base<0)=false:=by rw [decide_eq_false_iff_not];omega
     have d6:decide ((32768:Int)<base)=false:=by rw [decide_eq_false_iff_not];omega
     have d7:decide (loc<0)=false:=by rw [decide_eq_false_iff_not];omega
     have d8:decide ((32768:Int)<loc)=true:=by rw [decide_eq_true_eq];omega
     clear hbad
     go_enter Tryz.func9,Tryz.ntmps9
     go_wp2_with fail
     refine (hO _).mono ?_
     rintro e w2 ⟨Y,a,rfl,hx⟩
     replace b1:=b1.ext hx
     replace hX:=hX.trans hx
     clear hx hO c_b1
     have c_b1:=b1.cells
     go_wp2_with fail
     go_ret
     exact⟨rfl,hX⟩
   · have d0:decide (n<1)=false:=by rw [decide_eq_false_iff_not];omega
     have d1:decide ((8:Int)<n)=false:=by rw [decide_eq_false_iff_not];omega
     have d2:decide (room<1)=false:=by rw [decide_eq_false_iff_not];omega
     have d3:decide ((1048576:Int)<room)=false:=by rw [decide_eq_false_iff_not];omega
     have d5:decide (base<0)=false:=by rw [decide_eq_false_iff_not];omega
     have d6:decide ((32768:Int)<base)=false:=by rw [decide_eq_false_iff_not];omega
     have d7:decide (loc<0)=false:=by rw [decide_eq_false_iff_not];omega
     have d8:decide ((32768:Int)<loc)=true:=by rw [decide_eq_true_eq];omega
     clear hbad
     go_enter Tryz.func9,Tryz.ntmps9
     go_wp2_with fail
     refine (hO _).mono ?_
     rintro e w2 ⟨Y,a,rfl,hx⟩
     replace b1:=b1.ext hx
     replace hX:=hX.trans hx
     clear hx hO c_b1
     have c_b1:=b1.cells
     go_wp2_with fail
     go_ret
     exact⟨rfl,hX⟩
 exact absurd ⟨ha,by omega,by omega,by omega,by omega,by omega⟩ hbad
theorem lfine_p (alg n mode base loc room:Int)(w:World) :
  Calls Tryz.prog 9 #[lockV alg n mode base loc room] w fun e w'=>∃ b,e=.returned (.bool b)/\Ext w w'/\(b=true->∃ (N:Nat) (rs:List Reg),n=N/\LkOk alg N mode base loc room rs):=by
 by_cases h:(1<=alg/\alg<=8)/\(1<=n/\n<=8)/\(1<=room/\room<=1048576)/\(mode=1∨mode=2)/\(0<=base/\base<=32768)/\(0<=loc/\loc<=32768)
 · obtain⟨ha,hn,hr,hm,hb,hl⟩:=h
   obtain⟨N,rfl⟩:∃ N:Nat,n=N:=⟨n.toNat,by omega⟩
   refine (lfine_yes alg N mode base loc room w ha (by omega) hr hm hb hl).mono ?_
   rintro e w' ⟨rfl,hx⟩
   refine⟨_,rfl,hx,fun h=>?_⟩
   cases hz:lkSz (layM (lkWants alg N) N mode base loc) alg N with
   | none=>rw [hz] at h;cases h
   | some cl =>
     obtain⟨c,l⟩:=cl
     rw [hz] at h
     simp only [Bool.and_eq_true,decide_eq_true_eq] at h
     by_cases h3:3<=alg
     · cases hlay:layM (lkWants alg N) N mode base loc with
       | none =>
         rw [hlay] at hz
         unfold lkSz at hz
         rw [if_neg (by omega),if_neg (by omega)] at hz
         cases hz
       | some rs =>
         have hs:=lkSz_some (N:=N) (rs:=rs) (lay:=layM (lkWants alg N) N mode base loc) (fun _=>hlay) ha.1
         rw [hz] at hs
         simp only [Option.some.injEq,Prod.mk.injEq] at hs
         obtain⟨rfl,rfl⟩:=hs
         exact⟨N,rs,rfl,ha,by omega,by omega,hb,hl,hr,fun _=>hlay,h.1,h.2⟩
     · have hs:=lkSz_some (N:=N) (rs:=[]) (lay:=layM (lkWants alg N) N mode base loc) (fun h=>absurd h h3) ha.1
       rw [hz] at hs
       simp only [Option.some.injEq,Prod.mk.injEq] at hs
       obtain⟨rfl,rfl⟩:=hs
       exact⟨N,[],rfl,ha,by omega,by omega,hb,hl,hr,fun h=>absurd h h3,h.1,h.2⟩
 · refine (lfine_no alg n mode base loc room w h).mono ?_
   rintro e w' ⟨rfl,hx⟩
   exact⟨false,rfl,hx,fun h=>nomatch h⟩
theorem lfine_ok (alg:Int)(N:Nat)(mode base loc room:Int)(rs:List Reg)(w:World)(hk:LkOk alg N mode base loc room rs) :
  Calls Tryz.prog 9 #[lockV alg N mode base loc room] w fun e w'=>e=.returned (.bool true)/\Ext w w':=by
 have hs:=lkSz_some (N:=N) (rs:=rs) (lay:=layM (lkWants alg N) N mode base loc) hk.hlay hk.halg.1
 have h:=lfine_yes alg N mode base loc room w hk.halg hk.hn hk.hroom (by have:=hk.hmode;omega) hk.hbase hk.hloc
 rw [hs] at h
 simp only [decide_eq_true hk.hcells,decide_eq_true hk.hlocals,Bool.and_self] at h
 exact h
end Go.Proofs.YtchahoiainbcaaaGreatDoor
namespace Kv
def Cst (b e L:Int) {α:Type}:Prog α->Nat->Prop
 | .ret _,_=>True
 | .read c k,n=>b<=c/\c<e/\1<=n/\∀ x,Cst b e L (k x) (n-1)
 | .write c _ k,n=>b<=c/\c<e/\1<=n/\Cst b e L (k ()) (n-1)
 | .get _ k,n=>∀ x,Cst b e L (k x) n
 | .set i _ k,n=>i<L/\Cst b e L (k ()) n
 | .note _ k,n=>Cst b e L (k ()) n
theorem Cst.mono {b e L b' e' L':Int}(hb:b'<=b)(he:e<=e')(hL:L<=L'){α:Type}:∀ {p:Prog α} {n m:Nat},n<=m->Cst b e L p n->Cst b' e' L' p m
 | .ret _,_,_,_,_=>trivial
 | .read c k,n,m,hn,⟨h1,h2,h3,h4⟩=>⟨by omega,by omega,by omega,fun x=>Cst.mono hb he hL (by omega) (h4 x)⟩
 | .write c _ k,n,m,hn,⟨h1,h2,h3,h4⟩=>⟨by omega,by omega,by omega,Cst.mono hb he hL (by omega) h4⟩
 | .get _ k,n,m,hn,h=>fun x=>Cst.mono hb he hL hn (h x)
 | .set i _ k,n,m,hn,⟨h1,h2⟩=>⟨by omega,Cst.mono hb he hL hn h2⟩
 | .note _ k,n,m,hn,h=>Cst.mono (p:=k ()) hb he hL hn h
theorem Cst.bind {b e L:Int}{α β:Type}{f:α->Prog β}{m:Nat}(hf:∀ a,Cst b e L (f a) m):∀ {p:Prog α} {n:Nat},Cst b e L p n->Cst b e L (p.bind f) (n+m)
 | .ret a,n,_=>Cst.mono (Int.le_refl _) (Int.le_refl _) (Int.le_refl _) (by omega) (hf a)
 | .read c k,n,⟨h1,h2,h3,h4⟩=>⟨h1,h2,by omega,fun x=>Cst.mono (Int.le_refl _) (Int.le_refl _) (Int.le_refl _) (by omega) (Cst.bind hf (h4 x))⟩
 | .write c _ k,n,⟨h1,h2,h3,h4⟩=>⟨h1,h2,by omega,Cst.mono (Int.le_refl _) (Int.le_refl _) (Int.le_refl _) (by omega) (Cst.bind hf h4)⟩
 | .get _ k,n,h=>fun x=>Cst.bind hf (h x)
 | .set i _ k,n,⟨h1,h2⟩=>⟨h1,Cst.bind hf h2⟩
 | .note _ k,n,h=>Cst.bind (p:=k ()) hf h
theorem upd_loc_ge {S:TS}{i v L:Int}(h:i<L)(j:Nat)(hj:L<=j):(S.upd i v).loc j=S.loc j:=by
 unfold TS.upd
 split
 · show (if j=i.toNat then v else S.loc j)=_
   rw [if_neg (by omega)]
 · rfl
theorem left_updC (S:TS)(i v:Int):(S.upd i v).left=S.left:=by unfold TS.left;rw [TS.upd_ans,TS.upd_acc]
theorem left_put2 {S:TS}{v:Int}(h:S.next=some v)(a:Acc):(S.put a).left+1=S.left:=by
 have h1:S.acc.length<S.ans.length:=(List.getElem?_eq_some_iff.1 (show S.ans[S.acc.length]?=some v from h)).1
 unfold TS.left TS.put
 simp only [List.length_append,List.length_cons,List.length_nil]
 omega
theorem next_left2 {S:TS}(h:0<S.left):∃ v,S.next=some v:=by
 unfold TS.left at h
 exact⟨_,List.getElem?_eq_getElem (show S.acc.length<S.ans.length by omega)⟩
theorem Cst.run {b e L:Int}{α:Type}:∀ {p:Prog α} {n:Nat} (S:TS),Cst b e L p n->n<=S.left ->
  ∃ a S',p.run S=(some a,S')/\(∃ l,S'.acc=S.acc++l/\l.length<=n/\∀ x∈l,b<=x.cell/\x.cell<e)/\∀ j:Nat,L<=j->S'.loc j=S.loc j
 | .ret a,n,S,_,_=>⟨a,S,rfl,⟨[],by simp,by simp,by simp⟩,fun _ _=>rfl⟩
 | .read c k,n,S,⟨h1,h2,h3,h4⟩,hl=>by
   obtain⟨v,hv⟩:=next_left2 (S:=S) (by omega)
   have hp:=left_put2 hv ⟨1,c,0⟩
   obtain⟨a,S',hr,⟨l,g1,g2,g3⟩,g4⟩:=Cst.run (S.put ⟨1,c,0⟩) (h4 v) (by omega)
   refine⟨a,S',by simp only [Prog.run,hv];exact hr,⟨⟨1,c,0⟩ :: l,by rw [g1];simp [TS.put],by simp;omega,fun x hx=>?_⟩,g4⟩
   rcases List.mem_cons.1 hx with rfl | hx
   · exact⟨h1,h2⟩
   · exact g3 x hx
 | .write c w k,n,S,⟨h1,h2,h3,h4⟩,hl=>by
   obtain⟨v,hv⟩:=next_left2 (S:=S) (by omega)
   have hp:=left_put2 hv ⟨2,c,w⟩
   obtain⟨a,S',hr,⟨l,g1,g2,g3⟩,g4⟩:=Cst.run (S.put ⟨2,c,w⟩) h4 (by omega)
   refine⟨a,S',by simp only [Prog.run,hv];exact hr,⟨⟨2,c,w⟩ :: l,by rw [g1];simp [TS.put],by simp;omega,fun x hx=>?_⟩,g4⟩
   rcases List.mem_cons.1 hx with rfl | hx
   · exact⟨h1,h2⟩
   · exact g3 x hx
 | .get i k,n,S,h,hl=>Cst.run (p:=k (S.got i)) S (h _) hl
 | .set i v k,n,S,⟨h1,h2⟩,hl=>by
   obtain⟨a,S',hr,⟨l,g1,g2,g3⟩,g4⟩:=Cst.run (S.upd i v) h2 (by rw [left_updC];exact hl)
   exact⟨a,S',hr,⟨l,by rw [g1,TS.upd_acc],g2,g3⟩,fun j hj=>(g4 j hj).trans (upd_loc_ge h1 j hj)⟩
 | .note m k,n,S,h,hl=>Cst.run (p:=k ()) (S.noted m) h hl
def tabR (k:Nat):Nat:=18*k+14*(k-1)
end Kv
namespace Kv
open Go Go.RowKit
def mostT (top:Int):Int:=max 0 (min top 255)
theorem mostT_bd (t:Int):0<=mostT t/\mostT t<=255:=by unfold mostT;omega
def oth (r:Reg):Nat:=(r.n-1).toNat
def cells7 (r:Reg):Int :=
 if r.kind=1 then 1 else if r.kind=2 then 1 else if r.kind=3 then mostT r.top+1 else if r.kind=4 then 3 else if r.kind=5 then 16 else if r.kind=6 then 16*(oth r*oth r:Nat) else 16*(oth r*oth r*(oth r+1):Nat)
def costW7 (r:Reg):Nat :=
 if r.kind=1 then 1 else if r.kind=2 then 1 else if r.kind=3 then (mostT r.top+1).toNat else if r.kind=4 then 3 else if r.kind=5 then 14 else if r.kind=6 then 14*oth r else oth r*tabR (oth r)+14*oth r
def costR7 (r:Reg):Nat :=
 if r.kind=1 then 1 else if r.kind=2 then 1 else if r.kind=3 then (mostT r.top+1).toNat else if r.kind=4 then 7 else if r.kind=5 then 18 else if r.kind=6 then tabR (oth r) else oth r*tabR (oth r)
structure Fine7 (r:Reg):Prop where
 kind:r.kind=1∨r.kind=2∨r.kind=3∨r.kind=4∨r.kind=5∨r.kind=6∨r.kind=7
 base:0<=r.base/\r.base<=32768
 loc:0<=r.loc/\r.loc<=32768
 n:1<=r.n/\r.n<=8
 wr:r.kind=6->0<=r.wr/\r.wr<r.n
end Kv
namespace Kv
end Kv
namespace Go.Proofs.YtchahoiainbcaaaGreatDoor
open Go.RowKit Kv
theorem umost_p (t:Int)(w:World):Calls Tryz.prog 115 #[.int .i64 t] w fun e w'=>e=.returned (.int .i64 (mostT t))/\w=w':=by
 unfold mostT
 go_enter Tryz.func115,Tryz.ntmps115
 go_wp2_with fail
 go_ret
 exact⟨ret_int (by show _=_;omega),rfl⟩
end Go.Proofs.YtchahoiainbcaaaGreatDoor
namespace Kv
open Go Go.RowKit
def strip25 (r:Reg) (i:Nat):Int:=if r.kind=2 then 1 else if r.kind=3 then mostT r.top+1 else if r.kind=4 then 3 else if i % 2=0 then 4 else 12
def many25 (r:Reg):Nat:=if r.kind=5 then 2 else 1
theorem cells7_eq {r:Reg}(hk:r.kind=1∨r.kind=6∨r.kind=7)(hn:1<=r.n):cellsM r=cells7 r:=by
 obtain⟨k,hk0⟩:∃ k:Nat,r.n=(k:Int)+1:=⟨(r.n-1).toNat,by omega⟩
 have ho:oth r=k:=by unfold oth;omega
 unfold cellsM cells7
 rw [ho,hk0,show ((k:Int)+1-1)=(k:Int) by omega]
 rcases hk with e | e | e <;> simp only [e,Int.reduceEq,if_true,if_false]
 · rw [Int.natCast_mul,Int.mul_assoc]
 · rw [Int.natCast_mul,Int.natCast_mul,Int.natCast_add,Int.mul_assoc,Int.mul_assoc,Int.mul_assoc]
   rfl
end Kv
namespace Go.Proofs.YtchahoiainbcaaaGreatDoor
open Go.RowKit Kv
theorem ststrips_p (w:World):Calls Tryz.prog 142 #[] w fun e w'=>e=.returned (.slice (some ⟨w.heap.size,0,none⟩) 1 1)/\w.alloc (.cells #[.int .i64 1,.int .i64 1,.int .i64 1] 42)=w':=by
 go_enter Tryz.func142,Tryz.ntmps142
 go_wp2_with fail
 go_ret
 exact⟨rfl,rfl⟩
set_option maxRecDepth 100000 in
theorem ustrips_p (top:Int)(w:World):Calls Tryz.prog 143 #[.int .i64 top] w fun e w'=>∃ b:Nat,e=.returned (.slice (some ⟨b,0,none⟩) 1 1)/\b=w.heap.size/\Blk w' b (.cells #[.int .i64 (mostT top+1),.int .i64 1,.int .i64 1] 42)/\Ext w w':=by
 have hb:=mostT_bd top
 have x1:=(Ext.refl w).alloc (.cells #[.int .i64 1,.int .i64 1,.int .i64 1] 42)
 have g1:=Blk.new w (.cells #[.int .i64 1,.int .i64 1,.int .i64 1] 42)
 go_enter Tryz.func143,Tryz.ntmps143
 go_wp2_with fail
 refine (ststrips_p _).mono ?_
 rintro e w' ⟨rfl,rfl⟩
 have hbM:0<=mostT top+1:=by omega
 have hwM:=IntWalk.i64_in (mostT top+1) (by omega)
 generalize hW:w.alloc _=W at *
 replace g1:=g1.drew
 have x2:=x1.drew
 clear x1
 have hsz:w.heap.size<=w.heap.size:=Nat.le_refl _
 go_wp2_with fail
 have f1:=frozen_of_heap (show W.drew.heap[w.heap.size]?=_ from g1) 0
 have c1:=g1.cells 0
 have hgs:Blk (W.drew.setCell ⟨w.heap.size,0,none⟩ (.int .i64 (mostT top+1))) w.heap.size (.cells #[.int .i64 (mostT top+1),.int .i64 1,.int .i64 1] 42):=heap_setCell g1 _
 have hxs:=x2.setCell (p:=⟨w.heap.size,0,none⟩) (Nat.le_refl _) (.int .i64 (mostT top+1))
 have hgh:=Lib.hid hgs
 have hxh:=Lib.hid hxs
 clear hgs hxs
 have hM64:=IntWalk.i64_in (1*(mostT top+1)) (by omega)
 simp only [List.getElem?_toArray,List.getElem?_cons_zero] at c1
 go_cut [3] (fun s3 wx=>s3=.slice (some ⟨w.heap.size,0,none⟩) 1 1/\wx=(W.drew.setCell ⟨w.heap.size,0,none⟩ (.int .i64 (mostT top+1))))
 case first =>
  refine wp_region_held_drew (S:=fun _=>True) rfl trivial (fun hHeld=>?_)
  refine tkb 0 ?_
  iterate 3
   refine tkn (v:=?_) rfl (by kernel_rfl) (fun _ _ _ h=>h) (by assumption) ?_ ?_
   rotate_left
   · (intro w hSw;(try dsimp only at hSw);go_simp;try with_reducible rfl)
   try simp only [put_pack]
  refine tke ?_
  refine tk 4 (v:=?_) rfl (by kernel_rfl) (fun _ _ _ h=>h) (by assumption) ?_ ?_
  rotate_left
  · (intro w hSw;(try dsimp only at hSw);go_simp;try with_reducible rfl)
  try simp only [put_pack]
  refine wpAnyH_ready (rs:=[3,5]) (by kernel_rfl) (by simp) ?_
  refine AllReadyH.cons rfl (fun K hKK=>?_) (AllReadyH.cons rfl (fun K hKK=>?_) (AllReadyH.nil))
  · go_simp
    refine hKK.out _ _ trivial (fun hHeld=>?_)
    clear hKK K
    try dsimp only
    refine wpAnyH_ready (rs:=[5]) (by kernel_rfl) (by simp) ?_
    refine AllReadyH.cons rfl (fun K hKK=>?_) (AllReadyH.nil)
    go_simp
    refine (umost_p top _).mono ?_
    rintro e w' ⟨rfl,rfl⟩
    refine hKK.out _ _ trivial (fun hHeld=>?_)
    clear hKK K
    try dsimp only
    refine tkb 6 ?_
    iterate 4
     refine tkn (v:=?_) rfl (by kernel_rfl) (fun _ _ _ h=>h) (by assumption) ?_ ?_
     rotate_left
     · (intro w hSw;(try dsimp only at hSw);go_simp;try with_reducible rfl)
     try simp only [put_pack]
    refine tke ?_
    refine wpAnyH_ready (rs:=[10]) (by kernel_rfl) (by simp) ?_
    refine AllReadyH.cons rfl (fun K hKK=>?_) (AllReadyH.nil)
    go_simp
    refine hKK.out _ _ trivial (fun hHeld=>?_)
    clear hKK K
    try dsimp only
    refine wpAnyH_done (by kernel_rfl) ?_ _
    go_simp
    go_wp2_with fail
    go_meet
    exact⟨rfl,rfl⟩
  · go_simp
    refine (umost_p top _).mono ?_
    rintro e w' ⟨rfl,rfl⟩
    refine hKK.out _ _ trivial (fun hHeld=>?_)
    clear hKK K
    try dsimp only
    refine tk 6 (v:=?_) rfl (by kernel_rfl) (fun _ _ _ h=>h) (by assumption) ?_ ?_
    rotate_left
    · (intro w hSw;(try dsimp only at hSw);go_simp;try with_reducible rfl)
    try simp only [put_pack]
    refine wpAnyH_ready (rs:=[3]) (by kernel_rfl) (by simp) ?_
    refine AllReadyH.cons rfl (fun K hKK=>?_) (AllReadyH.nil)
    go_simp
    refine hKK.out _ _ trivial (fun hHeld=>?_)
    clear hKK K
    try dsimp only
    refine tkb 7 ?_
    iterate 3
     refine tkn (v:=?_) rfl (by kernel_rfl) (fun _ _ _ h=>h) (by assumption) ?_ ?_
     rotate_left
     · (intro w hSw;(try dsimp only at hSw);go_simp;try with_reducible rfl)
     try simp only [put_pack]
    refine tke ?_
    refine wpAnyH_ready (rs:=[10]) (by kernel_rfl) (by simp) ?_
    refine AllReadyH.cons rfl (fun K hKK=>?_) (AllReadyH.nil)
    go_simp
    refine hKK.out _ _ trivial (fun hHeld=>?_)
    clear hKK K
    try dsimp only
    refine wpAnyH_done (by kernel_rfl) ?_ _
    go_simp
    go_wp2_with fail
    go_meet
    exact⟨rfl,rfl⟩
 case rest =>
  obtain⟨rfl,rfl⟩:=hcut
  go_wp2_with fail
  go_ret
  exact⟨_,rfl,rfl,hgh.out,hxh.out⟩
set_option maxRecDepth 100000 in
theorem rstrips25_p (r:Reg)(w:World)(hk:r.kind=2∨r.kind=3∨r.kind=4∨r.kind=5) :
  Calls Tryz.prog 105 #[encR r] w fun e w'=>∃ v,e=.returned v/\StripsAre w w' v (many25 r) (strip25 r):=by
 obtain⟨kind,base,loc,n,wr,rd,top⟩:=r
 simp only at hk
 unfold encR
 simp only
 have hX:=Ext.refl w
 have b1:=Blk.new w (.cells #[.int .i64 kind,.int .i64 base,.int .i64 loc,.int .i64 n,.int .i64 wr,.int .i64 rd,.int .i64 top] 81)
 replace hX:=hX.alloc (.cells #[.int .i64 kind,.int .i64 base,.int .i64 loc,.int .i64 n,.int .i64 wr,.int .i64 rd,.int .i64 top] 81)
 have c_b1:=b1.cells
 rcases hk with rfl | rfl | rfl | rfl
 · go_enter Tryz.func105,Tryz.ntmps105
   go_wp2_with fail
   refine (ststrips_p _).mono ?_
   rintro e w2 ⟨rfl,rfl⟩
   have g1:=Blk.new (w.alloc (.cells #[.int .i64 2,.int .i64 base,.int .i64 loc,.int .i64 n,.int .i64 wr,.int .i64 rd,.int .i64 top] 81)) (.cells #[.int .i64 1,.int .i64 1,.int .i64 1] 42)
   have hx:=(Ext.refl (w.alloc (.cells #[.int .i64 2,.int .i64 base,.int .i64 loc,.int .i64 n,.int .i64 wr,.int .i64 rd,.int .i64 top] 81))).alloc (.cells #[.int .i64 1,.int .i64 1,.int .i64 1] 42)
   simp only [World.size_alloc] at g1
   have hX2:=Lib.hid (hX.trans hx)
   have g1h:=Lib.hid g1
   clear hx g1
   go_wp2_with fail
   go_ret
   refine⟨_,rfl,some ⟨w.heap.size+1,0,none⟩,1,w.heap.size+1,rfl,by simp [many25],by omega,hX2.out,fun i hi=>?_⟩
   obtain rfl:i=0:=by simp [many25] at hi;exact hi
   exact⟨_,_,_,rfl,g1h.out.lt,rfl,g1h.out.cells 0,g1h.out.cells 1,g1h.out.cells 2⟩
 · go_enter Tryz.func105,Tryz.ntmps105
   go_wp2_with fail
   refine (ustrips_p top _).mono ?_
   rintro e w2 ⟨b,rfl,-,g1,hx⟩
   have hX2:=Lib.hid (hX.trans hx)
   have g1h:=Lib.hid g1
   clear hx g1
   go_wp2_with fail
   go_ret
   refine⟨_,rfl,some ⟨b,0,none⟩,1,b,rfl,by simp [many25],by omega,hX2.out,fun i hi=>?_⟩
   obtain rfl:i=0:=by simp [many25] at hi;exact hi
   exact⟨_,_,_,rfl,g1h.out.lt,rfl,g1h.out.cells 0,g1h.out.cells 1,g1h.out.cells 2⟩
 · go_enter Tryz.func105,Tryz.ntmps105
   go_wp2_with fail
   refine (trstrips_p _).mono ?_
   rintro e w2 ⟨rfl,rfl⟩
   have g1:=Blk.new (w.alloc (.cells #[.int .i64 4,.int .i64 base,.int .i64 loc,.int .i64 n,.int .i64 wr,.int .i64 rd,.int .i64 top] 81)) (.cells #[.int .i64 3,.int .i64 1,.int .i64 1] 42)
   have hx:=(Ext.refl (w.alloc (.cells #[.int .i64 4,.int .i64 base,.int .i64 loc,.int .i64 n,.int .i64 wr,.int .i64 rd,.int .i64 top] 81))).alloc (.cells #[.int .i64 3,.int .i64 1,.int .i64 1] 42)
   simp only [World.size_alloc] at g1
   have hX2:=Lib.hid (hX.trans hx)
   have g1h:=Lib.hid g1
   clear hx g1
   go_wp2_with fail
   go_ret
   refine⟨_,rfl,some ⟨w.heap.size+1,0,none⟩,1,w.heap.size+1,rfl,by simp [many25],by omega,hX2.out,fun i hi=>?_⟩
   obtain rfl:i=0:=by simp [many25] at hi;exact hi
   exact⟨_,_,_,rfl,g1h.out.lt,rfl,g1h.out.cells 0,g1h.out.cells 1,g1h.out.cells 2⟩
 · go_enter Tryz.func105,Tryz.ntmps105
   go_wp2_with fail
   refine (sstrips_p _).mono ?_
   rintro e w2 ⟨v,rfl,hr,hx⟩
   have hS:=Lib.hid (strips_pairs (m:=1) hr (hX.trans hx))
   clear hr hx
   go_wp2_with fail
   go_ret
   exact⟨_,rfl,hS.out⟩
theorem sum25 (r:Reg)(hk:r.kind=2∨r.kind=3∨r.kind=4∨r.kind=5):sumF (strip25 r) (many25 r)=cells7 r/\many25 r<=2/\∀ i,0<=strip25 r i/\strip25 r i<=256:=by
 have hm:=mostT_bd r.top
 refine⟨?_,by unfold many25;split <;> omega,fun i=>by unfold strip25;(repeat' split) <;> omega⟩
 rcases hk with e | e | e | e <;> simp [many25,cells7,sumF,strip25,e]
theorem sumF_le (f:Nat->Int)(h:∀ i,0<=f i/\f i<=256):∀ n:Nat,0<=sumF f n/\sumF f n<=256*n
 | 0=>by simp [sumF]
 | n+1=>by
   have h1:=sumF_le f h n
   have h2:=h n
   show 0<=sumF f n+f n/\sumF f n+f n<=_
   omega
set_option maxRecDepth 100000 in
theorem cells25_p (r:Reg)(w:World)(hk:r.kind=2∨r.kind=3∨r.kind=4∨r.kind=5) :
  Calls Tryz.prog 70 #[encR r] w fun e w'=>e=.returned (.int .i64 (cells7 r))/\Ext w w':=by
 have hS:=fun w=>rstrips25_p r w hk
 obtain⟨hsum,hmn,hb0⟩:=sum25 r hk
 have hbd:=sumF_le _ hb0
 clear hb0
 generalize strip25 r=f at *
 generalize many25 r=M at *
 rw [<- hsum]
 clear hsum hk
 obtain⟨kind,base,loc,n,wr,rd,top⟩:=r
 unfold encR at hS ⊢
 simp only at hS ⊢
 have hX:=Ext.refl w
 have b1:=Blk.new w (.cells #[.int .i64 kind,.int .i64 base,.int .i64 loc,.int .i64 n,.int .i64 wr,.int .i64 rd,.int .i64 top] 81)
 replace hX:=hX.alloc (.cells #[.int .i64 kind,.int .i64 base,.int .i64 loc,.int .i64 n,.int .i64 wr,.int .i64 rd,.int .i64 top] 81)
 have c_b1:=b1.cells
 go_enter Tryz.func70,Tryz.ntmps70
 go_wp2_with fail
 refine (hS _).mono ?_
 rintro e w2 ⟨v,rfl,A,c,bb,rfl,r1,r2,hx,hat⟩
 replace hX:=hX.trans hx
 clear hx hS c_b1 b1
 go_wp2_with fail
 go_loopw [3,9] (fun s i wr=>∃ j:Nat,i=.int .i64 j/\j<=M/\s=.int .i64 (sumF f j)/\Ext w2 wr) (fun _ i _=>M-(intOf i).toNat)
 case atStart=>exact⟨0,rfl,by omega,rfl,Ext.refl _⟩
 case round =>
  obtain⟨j,rfl,hj,rfl,hx⟩:=hrel
  by_cases hl:j<M
  · obtain⟨b,x,y,rfl,hb,rfl,e1,e2,e3⟩:=hat j hl
    have e1:=(hx.cell (p:=⟨bb,j*3,none⟩) hb).trans e1
    have e2:=(hx.cell (p:=⟨bb,j*3+1,none⟩) hb).trans e2
    have e3:=(hx.cell (p:=⟨bb,j*3+2,none⟩) hb).trans e3
    have hb1:=hbd j
    have hb2:=hbd (j+1)
    have hs:sumF f (j+1)=sumF f j+f j:=rfl
    rw [hs] at hb2
    have hxa:=Lib.hid (hx.alloc (.cells #[.int .i64 (f j),.int .i64 x,.int .i64 y] 42))
    have hsh:=Lib.hid hs
    clear hat hbd hs
    generalize sumF f j=s at *
    generalize f j=F at *
    go_wp2_with fail
    refine⟨⟨j+1,by go_num,by omega,by rw [hsh.out],hxa.out⟩,?_⟩
    simp [intOf];omega
  · obtain rfl:j=M:=by omega
    clear hat hbd
    have hf:=Lib.hid (hX.trans hx)
    go_wp2_with fail
    go_ret
    exact⟨rfl,hf.out⟩
theorem cells7_p (r:Reg)(w:World)(hr:Fine7 r):Calls Tryz.prog 70 #[encR r] w fun e w'=>e=.returned (.int .i64 (cells7 r))/\Ext w w':=by
 by_cases hk:r.kind=1∨r.kind=6∨r.kind=7
 · rw [<- cells7_eq hk hr.n.1]
   exact cells_all r w hk hr.n
 · exact cells25_p r w (by have:=hr.kind;omega)
end Go.Proofs.YtchahoiainbcaaaGreatDoor
namespace Kv
open Go Go.RowKit
theorem Fine7.ok {r:Reg}(h:Fine7 r)(hk:r.kind=1∨r.kind=6∨r.kind=7):r.ok:=⟨hk,h.base,h.loc,h.n,h.wr⟩
end Kv
namespace Go.Proofs.YtchahoiainbcaaaGreatDoor
open Go.RowKit Kv
set_option maxRecDepth 100000 in
set_option maxHeartbeats 4000000 in
theorem costs_p (r:Reg)(w:World)(h:Fine7 r):Calls Tryz.prog 47 #[encR r] w fun e w'=>e=.returned (.tuple #[.int .i64 (costW7 r),.int .i64 (costR7 r)])/\Ext w w':=by
 have hC:=fun w=>cells7_p r w h
 obtain⟨hk,hb,hl,hn,hw⟩:=h
 have hm:=mostT_bd r.top
 obtain⟨kind,base,loc,n,wr,rd,top⟩:=r
 simp only at hk hb hl hn hw hm
 unfold encR at hC ⊢
 simp only at hC
 clear hb hl hw
 have hX:=Ext.refl w
 have b1:=Blk.new w (.cells #[.int .i64 kind,.int .i64 base,.int .i64 loc,.int .i64 n,.int .i64 wr,.int .i64 rd,.int .i64 top] 81)
 replace hX:=hX.alloc (.cells #[.int .i64 kind,.int .i64 base,.int .i64 loc,.int .i64 n,.int .i64 wr,.int .i64 rd,.int .i64 top] 81)
 have c_b1:=b1.cells
 have hn8:n=1∨n=2∨n=3∨n=4∨n=5∨n=6∨n=7∨n=8:=by omega
 rcases hk with rfl | rfl | rfl | rfl | rfl | rfl | rfl
 · clear hC
   go_enter Tryz.func47,Tryz.ntmps47
   go_wp2_with fail
   go_ret2
   exact⟨rfl,hX⟩
 · clear hC
   go_enter Tryz.func47,Tryz.ntmps47
   go_wp2_with fail
   go_ret2
   exact⟨rfl,hX⟩
 · have e1:cells7 ⟨3,base,loc,n,wr,rd,top⟩=mostT top+1:=rfl
   rw [e1] at hC
   have e2:((costW7 ⟨3,base,loc,n,wr,rd,top⟩:Nat):Int)=mostT top+1:=by show (((mostT top+1).toNat:Nat):Int)=_;omega
   have e3:((costR7 ⟨3,base,loc,n,wr,rd,top⟩:Nat):Int)=mostT top+1:=by show (((mostT top+1).toNat:Nat):Int)=_;omega
   rw [e2,e3]
   clear e1 e2 e3 hn8
   go_enter Tryz.func47,Tryz.ntmps47
   go_wp2_with fail
   refine (hC _).mono ?_
   rintro e w2 ⟨rfl,hx⟩
   clear c_b1
   replace b1:=b1.ext hx
   have c_b1:=b1.cells
   replace hX:=hX.trans hx
   clear hx
   go_wp2_with fail
   go_ret2
   exact⟨rfl,hX⟩
 · clear hC
   go_enter Tryz.func47,Tryz.ntmps47
   go_wp2_with fail
   go_ret2
   exact⟨rfl,hX⟩
 · clear hC
   go_enter Tryz.func47,Tryz.ntmps47
   go_wp2_with fail
   go_ret2
   exact⟨rfl,hX⟩
 · clear hC
   rcases hn8 with rfl | rfl | rfl | rfl | rfl | rfl | rfl | rfl
   · have hm8:max (1:Int) (min 1 8)=1:=by decide
     have hm9:max (0:Int) (1-1-1)=0:=by decide
     go_enter Tryz.func47,Tryz.ntmps47
     go_wp2_with fail
     go_ret2
     exact⟨rfl,hX⟩
   · have hm8:max (1:Int) (min 2 8)=2:=by decide
     have hm9:max (0:Int) (2-1-1)=0:=by decide
     go_enter Tryz.func47,Tryz.ntmps47
     go_wp2_with fail
     go_ret2
     exact⟨rfl,hX⟩
   · have hm8:max (1:Int) (min 3 8)=3:=by decide
     have hm9:max (0:Int) (3-1-1)=1:=by decide
     go_enter Tryz.func47,Tryz.ntmps47
     go_wp2_with fail
     go_ret2
     exact⟨rfl,hX⟩
   · have hm8:max (1:Int) (min 4 8)=4:=by decide
     have hm9:max (0:Int) (4-1-1)=2:=by decide
     go_enter Tryz.func47,Tryz.ntmps47
     go_wp2_with fail
     go_ret2
     exact⟨rfl,hX⟩
   · have hm8:max (1:Int) (min 5 8)=5:=by decide
     have hm9:max (0:Int) (5-1-1)=3:=by decide
     go_enter Tryz.func47,Tryz.ntmps47
     go_wp2_with fail
     go_ret2
     exact⟨rfl,hX⟩
   · have hm8:max (1:Int) (min 6 8)=6:=by decide
     have hm9:max (0:Int) (6-1-1)=4:=by decide
     go_enter Tryz.func47,Tryz.ntmps47
     go_wp2_with fail
     go_ret2
     exact⟨rfl,hX⟩
   · have hm8:max (1:Int) (min 7 8)=7:=by decide
     have hm9:max (0:Int) (7-1-1)=5:=by decide
     go_enter Tryz.func47,Tryz.ntmps47
     go_wp2_with fail
     go_ret2
     exact⟨rfl,hX⟩
   · have hm8:max (1:Int) 8=8:=by decide
     have hm9:max (0:Int) (8-1-1)=6:=by decide
     go_enter Tryz.func47,Tryz.ntmps47
     go_wp2_with fail
     go_ret2
     exact⟨rfl,hX⟩
 · clear hC
   rcases hn8 with rfl | rfl | rfl | rfl | rfl | rfl | rfl | rfl
   · have hm8:max (1:Int) (min 1 8)=1:=by decide
     have hm9:max (0:Int) (1-1-1)=0:=by decide
     go_enter Tryz.func47,Tryz.ntmps47
     go_wp2_with fail
     go_ret2
     exact⟨rfl,hX⟩
   · have hm8:max (1:Int) (min 2 8)=2:=by decide
     have hm9:max (0:Int) (2-1-1)=0:=by decide
     go_enter Tryz.func47,Tryz.ntmps47
     go_wp2_with fail
     go_ret2
     exact⟨rfl,hX⟩
   · have hm8:max (1:Int) (min 3 8)=3:=by decide
     have hm9:max (0:Int) (3-1-1)=1:=by decide
     go_enter Tryz.func47,Tryz.ntmps47
     go_wp2_with fail
     go_ret2
     exact⟨rfl,hX⟩
   · have hm8:max (1:Int) (min 4 8)=4:=by decide
     have hm9:max (0:Int) (4-1-1)=2:=by decide
     go_enter Tryz.func47,Tryz.ntmps47
     go_wp2_with fail
     go_ret2
     exact⟨rfl,hX⟩
   · have hm8:max (1:Int) (min 5 8)=5:=by decide
     have hm9:max (0:Int) (5-1-1)=3:=by decide
     go_enter Tryz.func47,Tryz.ntmps47
     go_wp2_with fail
     go_ret2
     exact⟨rfl,hX⟩
   · have hm8:max (1:Int) (min 6 8)=6:=by decide
     have hm9:max (0:Int) (6-1-1)=4:=by decide
     go_enter Tryz.func47,Tryz.ntmps47
     go_wp2_with fail
     go_ret2
     exact⟨rfl,hX⟩
   · have hm8:max (1:Int) (min 7 8)=7:=by decide
     have hm9:max (0:Int) (7-1-1)=5:=by decide
     go_enter Tryz.func47,Tryz.ntmps47
     go_wp2_with fail
     go_ret2
     exact⟨rfl,hX⟩
   · have hm8:max (1:Int) 8=8:=by decide
     have hm9:max (0:Int) (8-1-1)=6:=by decide
     go_enter Tryz.func47,Tryz.ntmps47
     go_wp2_with fail
     go_ret2
     exact⟨rfl,hX⟩
end Go.Proofs.YtchahoiainbcaaaGreatDoor
namespace Kv
theorem mulb {a b A B:Int}(ha:0<=a/\a<=A)(hb:0<=b/\b<=B):0<=a*b/\a*b<=A*B :=
 ⟨Int.mul_nonneg ha.1 hb.1,Int.mul_le_mul ha.2 hb.2 hb.1 (Int.le_trans ha.1 ha.2)⟩
def ownReg (N:Nat):Reg:=⟨6,0,0,N,0,-1,1⟩
def allReg (N:Nat):Reg:=⟨7,0,0,N,-1,-1,1⟩
def cOwnW (mode:Int) (N:Nat):Int:=if mode=1 then 1 else costW7 (ownReg N)
def cOwnR (mode:Int) (N:Nat):Int:=if mode=1 then 1 else costR7 (ownReg N)
def cAllW (mode:Int) (N:Nat):Int:=if mode=1 then 1 else costW7 (allReg N)
def cAllR (mode:Int) (N:Nat):Int:=if mode=1 then 1 else costR7 (allReg N)
theorem costs_bd8 {N:Nat}(h:N<=8)(mode:Int):(0<=cOwnW mode N/\cOwnW mode N<=20000)/\(0<=cOwnR mode N/\cOwnR mode N<=20000)/\(0<=cAllW mode N/\cAllW mode N<=20000)/\(0<=cAllR mode N/\cAllR mode N<=20000):=by
 have key:∀ N:Nat,N<9->costW7 (ownReg N)<=20000/\costR7 (ownReg N)<=20000/\costW7 (allReg N)<=20000/\costR7 (allReg N)<=20000:=by decide +kernel
 have:=key N (by omega)
 unfold cOwnW cOwnR cAllW cAllR
 split <;> omega
def lkIn (alg mode:Int) (N:Nat):Int :=
 if alg=1 then 3*N else if alg=2 then N
 else if alg=3 then 3*cOwnW mode N+cAllR mode N+3*((N:Int)-1)*cOwnR mode N
 else if alg=4 then ((N:Int)-1)*(cOwnW mode N+cAllW mode N+((N:Int)-1)*cOwnR mode N)
 else if alg=5 then cOwnW mode N+2*cAllW mode N+2*cAllR mode N
 else if alg=6 then (levels (N:Int):Int)*(2*cAllW mode N+cAllR mode N)
 else if alg=7 then (levels (N:Int):Int)*(2*cAllW mode N+2*cAllR mode N)
 else (N:Int)*(2*cAllW mode N+2*cAllR mode N)+(levels ((N:Int)*((N:Int)+1) / 2):Int)*(2*cAllW mode N+cAllR mode N)
def lkOut (alg mode:Int) (N:Nat):Int :=
 if alg=1 then 1 else if alg=2 then 1
 else if alg=3 then cAllW mode N+cOwnW mode N
 else if alg=4 then cOwnW mode N
 else if alg=5 then cAllW mode N+cOwnW mode N
 else if alg=6∨alg=7 then (levels (N:Int):Int)*cAllW mode N
 else (levels ((N:Int)*((N:Int)+1) / 2):Int)*cAllW mode N
end Kv
namespace Go.Proofs.YtchahoiainbcaaaGreatDoor
open Go.RowKit Kv
theorem Blk.setZ {w:World}{b k i:Nat}{o:Obj}(h:Blk w k o)(hk:k≠b)(u:Value):Blk (w.setCell ⟨b,i,none⟩ u) k o:=(heap_setCell_ne w u hk).trans h
theorem set2 {w:World}{b:Nat}{x y:Value}{t:TypeId}(h:Blk w b (.cells #[x,y] t))(u v:Value):Blk ((w.setCell ⟨b,0,none⟩ u).setCell ⟨b,1,none⟩ v) b (.cells #[u,v] t):=heap_setCell (heap_setCell h u) v
set_option maxRecDepth 100000 in
set_option maxHeartbeats 1000000 in
theorem lcosts_p (alg:Int)(N:Nat)(mode base loc room:Int)(w:World)(h1:1<=N/\N<=8)(hm:mode=1∨mode=2) :
  Calls Tryz.prog 23 #[lockV alg N mode base loc room] w fun e w'=>e=.returned (.tuple #[.agg #[.int .i64 (cOwnW mode N),.int .i64 (cOwnR mode N)],.agg #[.int .i64 (cAllW mode N),.int .i64 (cAllR mode N)]])/\Ext w w':=by
 have hC1:=fun w=>costs_p (ownReg N) w ⟨by simp [ownReg],by unfold ownReg;simp only;omega,by unfold ownReg;simp only;omega,by unfold ownReg;simp only;omega,by unfold ownReg;simp only;omega⟩
 have hC2:=fun w=>costs_p (allReg N) w ⟨by simp [allReg],by unfold allReg;simp only;omega,by unfold allReg;simp only;omega,by unfold allReg;simp only;omega,by unfold allReg;simp only;omega⟩
 unfold lockV
 have hX:=Ext.refl w
 have b1:=Blk.new w (.cells #[.int .i64 alg,.int .i64 N,.int .i64 mode,.int .i64 base,.int .i64 loc,.int .i64 room] 23)
 replace hX:=hX.alloc (.cells #[.int .i64 alg,.int .i64 N,.int .i64 mode,.int .i64 base,.int .i64 loc,.int .i64 room] 23)
 have b2:=Blk.new (w.alloc (.cells #[.int .i64 alg,.int .i64 N,.int .i64 mode,.int .i64 base,.int .i64 loc,.int .i64 room] 23)) (.cells #[.int .i64 0,.int .i64 0] 51)
 simp only [World.size_alloc] at b2
 replace b1:=b1.alloc (.cells #[.int .i64 0,.int .i64 0] 51)
 replace hX:=hX.alloc (.cells #[.int .i64 0,.int .i64 0] 51)
 have b3:=Blk.new ((w.alloc (.cells #[.int .i64 alg,.int .i64 N,.int .i64 mode,.int .i64 base,.int .i64 loc,.int .i64 room] 23)).alloc (.cells #[.int .i64 0,.int .i64 0] 51)) (.cells #[.int .i64 0,.int .i64 0] 51)
 simp only [World.size_alloc] at b3
 replace b1:=b1.alloc (.cells #[.int .i64 0,.int .i64 0] 51)
 replace b2:=b2.alloc (.cells #[.int .i64 0,.int .i64 0] 51)
 replace hX:=hX.alloc (.cells #[.int .i64 0,.int .i64 0] 51)
 have c_b1:=b1.cells
 have c_b2:=b2.cells
 have c_b3:=b3.cells
 rcases hm with rfl | rfl
 · clear hC1 hC2
   show Calls Tryz.prog 23 _ w fun e w'=>e=.returned (.tuple #[.agg #[.int .i64 1,.int .i64 1],.agg #[.int .i64 1,.int .i64 1]])/\Ext w w'
   go_enter Tryz.func23,Tryz.ntmps23
   go_wp2_with fail
   have g2:=((Blk.new (w.alloc (.cells #[.int .i64 alg,.int .i64 N,.int .i64 1,.int .i64 base,.int .i64 loc,.int .i64 room] 23)) (.cells #[.int .i64 1,.int .i64 1] 51)).alloc (.cells #[.int .i64 1,.int .i64 1] 51)).cells
   have g3:=(Blk.new ((w.alloc (.cells #[.int .i64 alg,.int .i64 N,.int .i64 1,.int .i64 base,.int .i64 loc,.int .i64 room] 23)).alloc (.cells #[.int .i64 1,.int .i64 1] 51)) (.cells #[.int .i64 1,.int .i64 1] 51)).cells
   simp only [World.size_alloc] at g2 g3
   have hx:=(((Ext.refl w).alloc (.cells #[.int .i64 alg,.int .i64 N,.int .i64 1,.int .i64 base,.int .i64 loc,.int .i64 room] 23)).alloc (.cells #[.int .i64 1,.int .i64 1] 51)).alloc (.cells #[.int .i64 1,.int .i64 1] 51)
   generalize World.alloc (World.alloc (World.alloc w _) _) _=W at *
   exact bodyPost_ret (v:=.tuple #[.agg #[.int .i64 1,.int .i64 1],.agg #[.int .i64 1,.int .i64 1]]) (by simp [results,Tryz.results23,go_sem,g2,g3]) rfl ⟨rfl,hx⟩
 · have e1:cOwnW 2 N=costW7 (ownReg N):=rfl
   have e2:cOwnR 2 N=costR7 (ownReg N):=rfl
   have e3:cAllW 2 N=costW7 (allReg N):=rfl
   have e4:cAllR 2 N=costR7 (allReg N):=rfl
   rw [e1,e2,e3,e4]
   clear e1 e2 e3 e4
   generalize costW7 (ownReg N)=x1 at *
   generalize costR7 (ownReg N)=x2 at *
   generalize costW7 (allReg N)=x3 at *
   generalize costR7 (allReg N)=x4 at *
   have hb1:∀ w,(Instr.build 81 #[(0,.int .i64 6),(3,.int .i64 N),(4,.int .i64 0),(5,.int .i64 (-1)),(6,.int .i64 1)]).run Tryz.prog w=.ok (encR (ownReg N)) w:=fun w=>run_build w 81 _ _ (by kernel_rfl)
   have hb2:∀ w,(Instr.build 81 #[(0,.int .i64 7),(3,.int .i64 N),(4,.int .i64 (-1)),(5,.int .i64 (-1)),(6,.int .i64 1)]).run Tryz.prog w=.ok (encR (allReg N)) w:=fun w=>run_build w 81 _ _ (by kernel_rfl)
   go_enter Tryz.func23,Tryz.ntmps23
   go_wp2_with fail
   refine (hC1 _).mono ?_
   rintro e w2 ⟨rfl,hx⟩
   replace b1:=b1.ext hx
   replace b2:=b2.ext hx
   replace b3:=b3.ext hx
   replace hX:=hX.trans hx
   clear hx c_b1 c_b2 c_b3 hC1
   have c_b1:=b1.cells
   go_wp2_with fail
   refine (hC2 _).mono ?_
   rintro e w3 ⟨rfl,hx⟩
   replace b1:=b1.ext hx
   replace b2:=b2.ext hx
   replace b3:=b3.ext hx
   replace hX:=hX.trans hx
   clear hx c_b1 hC2
   have f2:=frozen_of_heap b2
   have f3:=frozen_of_heap b3
   have c_b2:=b2.cells
   have c_b3:=b3.cells
   go_wp2_with fail
   have q2:=set2 b2 (.int .i64 x1) (.int .i64 x2)
   have q3:=((Blk.setZ b3 (i:=0) (show w.heap.size+1+1≠w.heap.size+1 by omega) (.int .i64 x1)).setZ (i:=1) (show w.heap.size+1+1≠w.heap.size+1 by omega) (.int .i64 x2))
   have r3:=set2 q3 (.int .i64 x3) (.int .i64 x4)
   have r2:=((Blk.setZ q2 (i:=0) (show w.heap.size+1≠w.heap.size+1+1 by omega) (.int .i64 x3)).setZ (i:=1) (show w.heap.size+1≠w.heap.size+1+1 by omega) (.int .i64 x4))
   have hxx:=(((hX.setCell (p:=⟨w.heap.size+1,0,none⟩) (show w.heap.size<=w.heap.size+1 by omega) (.int .i64 x1)).setCell (p:=⟨w.heap.size+1,1,none⟩) (show w.heap.size<=w.heap.size+1 by omega) (.int .i64 x2)).setCell (p:=⟨w.heap.size+1+1,0,none⟩) (show w.heap.size<=w.heap.size+1+1 by omega) (.int .i64 x3)).setCell (p:=⟨w.heap.size+1+1,1,none⟩) (show w.heap.size<=w.heap.size+1+1 by omega) (.int .i64 x4)
   generalize World.setCell (World.setCell (World.setCell (World.setCell w3 _ _) _ _) _ _) _ _=W at *
   have g2:=r2.cells
   have g3:=r3.cells
   exact bodyPost_ret (v:=.tuple #[.agg #[.int .i64 x1,.int .i64 x2],.agg #[.int .i64 x3,.int .i64 x4]]) (by simp [results,Tryz.results23,go_sem,g2,g3]) rfl ⟨rfl,hxx⟩
set_option maxRecDepth 100000 in
set_option maxHeartbeats 1000000 in
theorem lalone_p (alg:Int)(N:Nat)(mode base loc room:Int)(rs:List Reg)(w:World)(hk:LkOk alg N mode base loc room rs) :
  Calls Tryz.prog 12 #[lockV alg N mode base loc room] w fun e w'=>e=.returned (.tuple #[.int .i64 (lkIn alg mode N),.int .i64 (lkOut alg mode N)])/\Ext w w':=by
 have hF:=fun w=>lfine_ok alg N mode base loc room rs w hk
 have hm:mode=1∨mode=2:=by have:=hk.hmode;omega
 have hn:=hk.hn
 have ha:=hk.halg
 have hC:=fun w=>lcosts_p alg N mode base loc room w hn hm
 obtain⟨k1,k2,k3,k4⟩:=costs_bd8 hn.2 mode
 have hL1:=fun w=>levels_p (N:Int) (by omega) w
 have hprod:=mulb (a:=(N:Int)) (b:=(N:Int)+1) (A:=8) (B:=9) (by omega) (by omega)
 have hq:((N:Int)*((N:Int)+1)).tdiv 2=(N:Int)*((N:Int)+1) / 2:=by
  obtain⟨z,hz⟩:∃ z:Nat,(N:Int)*((N:Int)+1)=z:=⟨((N:Int)*((N:Int)+1)).toNat,by omega⟩
  rw [hz,Int.tdiv_eq_ediv_of_nonneg (by omega)]
 have hL2:=fun w=>levels_p ((N:Int)*((N:Int)+1) / 2) (by omega) w
 have l1:levels (N:Int)<=6:=lev_le (m:=N) (by omega)
 have l2:levels ((N:Int)*((N:Int)+1) / 2)<=6:=by
  obtain⟨z,hz⟩:∃ z:Nat,(N:Int)*((N:Int)+1) / 2=z:=⟨((N:Int)*((N:Int)+1) / 2).toNat,by omega⟩
  rw [hz]
  exact lev_le (by omega)
 obtain⟨xi,hxi⟩:∃ xi,xi=lkIn alg mode N:=⟨_,rfl⟩
 obtain⟨xo,hxo⟩:∃ xo,xo=lkOut alg mode N:=⟨_,rfl⟩
 rw [<- hxi,<- hxo]
 unfold lkIn at hxi
 unfold lkOut at hxo
 generalize cOwnW mode N=x1 at *
 generalize cOwnR mode N=x2 at *
 generalize cAllW mode N=x3 at *
 generalize cAllR mode N=x4 at *
 generalize hlv1:levels (N:Int)=v1 at *
 generalize hlv2:levels ((N:Int)*((N:Int)+1) / 2)=v2 at *
 generalize hN2:(N:Int)*((N:Int)+1)=n2 at *
 have wn2:IntKind.i64.wrap ((N:Int)*((N:Int)+1))=n2:=by rw [hN2];exact IntWalk.i64_in _ (by omega)
 have whf:wrap64 (n2 / 2)=n2 / 2:=by unfold wrap64;omega
 have hh:=Lib.hid (And.intro hxi hxo)
 clear hxi hxo hlv1 hlv2 hN2 hk hprod
 unfold lockV at hF hC ⊢
 have hX:=Ext.refl w
 have b1:=Blk.new w (.cells #[.int .i64 alg,.int .i64 N,.int .i64 mode,.int .i64 base,.int .i64 loc,.int .i64 room] 23)
 replace hX:=hX.alloc (.cells #[.int .i64 alg,.int .i64 N,.int .i64 mode,.int .i64 base,.int .i64 loc,.int .i64 room] 23)
 have c_b1:=b1.cells
 go_enter Tryz.func12,Tryz.ntmps12
 go_wp2_with fail
 refine (hF _).mono ?_
 rintro e w2 ⟨rfl,hx⟩
 replace b1:=b1.ext hx
 replace hX:=hX.trans hx
 clear hx c_b1 hF
 have c_b1:=b1.cells
 go_wp2_with fail
 refine (hC _).mono ?_
 rintro e w3 ⟨rfl,hx⟩
 replace b1:=b1.ext hx
 replace hX:=hX.trans hx
 clear hx c_b1 hC
 go_wp2_with fail
 have B2:=(Blk.new w3 (.cells #[.int .i64 x1,.int .i64 x2] 51)).alloc (.cells #[.int .i64 x3,.int .i64 x4] 51)
 have B3:=Blk.new (w3.alloc (.cells #[.int .i64 x1,.int .i64 x2] 51)) (.cells #[.int .i64 x3,.int .i64 x4] 51)
 have hx:=((Ext.refl w3).alloc (.cells #[.int .i64 x1,.int .i64 x2] 51)).alloc (.cells #[.int .i64 x3,.int .i64 x4] 51)
 simp only [World.size_alloc] at B3
 generalize World.alloc (World.alloc w3 _) _=W at *
 replace b1:=b1.ext hx
 replace hX:=hX.trans hx
 clear hx
 have hS:∀ w',Ext W w'->(∀ i,w'.cell? ⟨w3.heap.size,i,none⟩=(#[.int .i64 x1,.int .i64 x2]:Array Value)[i]?)/\(∀ i,w'.cell? ⟨w3.heap.size+1,i,none⟩=(#[.int .i64 x3,.int .i64 x4]:Array Value)[i]?):=fun w' hx=>⟨(B2.ext hx).cells,(B3.ext hx).cells⟩
 refine wp_region_held_drew (S:=fun w'=>(∀ i,w'.cell? ⟨w3.heap.size,i,none⟩=(#[.int .i64 x1,.int .i64 x2]:Array Value)[i]?)/\(∀ i,w'.cell? ⟨w3.heap.size+1,i,none⟩=(#[.int .i64 x3,.int .i64 x4]:Array Value)[i]?)) rfl (hS _ (Ext.refl W).drew) (fun hHeld=>?_)
 refine tkb 0 ?_
 iterate 12
  refine tkn (v:=?_) rfl (by kernel_rfl) (fun _ _ _ h=>h) (by assumption) ?_ ?_
  rotate_left
  · (intro w hSw;(try dsimp only at hSw);go_simp;try with_reducible rfl)
  try simp only [put_pack]
 refine tke ?_
 refine wpAnyH_done (by kernel_rfl) ?_ _
 go_simp
 replace b1:=b1.drew
 replace hX:=hX.drew
 clear B2 B3 hS hHeld
 generalize World.drew W=V at *
 have c_b1:=b1.cells
 go_wp2_with fail
 refine (hL1 _).mono ?_
 rintro e w' ⟨rfl,rfl⟩
 clear hL1
 go_wp2_with fail
 refine (hL2 _).mono ?_
 rintro e w' ⟨rfl,rfl⟩
 clear hL2
 have p3:=mulb (a:=3*((N:Int)-1)) (b:=x2) (A:=21) (B:=20000) (by omega) k2
 have p4a:=mulb (a:=(N:Int)-1) (b:=x2) (A:=7) (B:=20000) (by omega) k2
 have p4:=mulb (a:=(N:Int)-1) (b:=x1+x3+((N:Int)-1)*x2) (A:=7) (B:=180000) (by omega) (by omega)
 have p6:=mulb (a:=(v1:Int)) (b:=2*x3+x4) (A:=6) (B:=60000) (by omega) (by omega)
 have p6o:=mulb (a:=(v1:Int)) (b:=x3) (A:=6) (B:=20000) (by omega) k3
 have p7:=mulb (a:=(v1:Int)) (b:=2*x3+2*x4) (A:=6) (B:=80000) (by omega) (by omega)
 have p8:=mulb (a:=(N:Int)) (b:=2*x3+2*x4) (A:=8) (B:=80000) (by omega) (by omega)
 have p8b:=mulb (a:=(v2:Int)) (b:=2*x3+x4) (A:=6) (B:=60000) (by omega) (by omega)
 have p8o:=mulb (a:=(v2:Int)) (b:=x3) (A:=6) (B:=20000) (by omega) k3
 clear hm hq wn2 whf
 have:alg=1∨alg=2∨alg=3∨alg=4∨alg=5∨alg=6∨alg=7∨alg=8:=by omega
 clear ha
 rcases this with rfl | rfl | rfl | rfl | rfl | rfl | rfl | rfl
 all_goals
  go_wp2_with fail
  go_ret2
  refine⟨?_,hX⟩
  rw [hh.out.1,hh.out.2]
  rfl
end Go.Proofs.YtchahoiainbcaaaGreatDoor
namespace Kv
abbrev Trip:=Int × Int × Int
def tv (t:Trip):List Go.Value:=[.int .i64 t.1,.int .i64 t.2.1,.int .i64 t.2.2]
def pairT (m:Nat):List Trip:=(List.replicate m ()).flatMap fun _=>[(4,1,1099511627776),(12,1,1)]
def trip (r:Reg):List Trip:=if r.kind=1 then [(1,3,clamp r.top 1099511627776)] else if r.kind=6 then pairT ((r.n-1).toNat*(r.n-1).toNat) else pairT (r.n.toNat*((r.n-1).toNat*(r.n-1).toNat))
def lkT (alg:Int) (N:Nat) (room:Int) (rs:List Reg):List Trip:=if alg=1 then [((N:Int),1,1),((N:Int),1,room)] else if alg=2 then [((N:Int),1,1)] else rs.flatMap trip
def safeOf (T:List Trip):Int:=(T.map fun t=>if t.2.1=1 then t.1 else 0).sum
def bitsOf (T:List Trip):Int:=(T.map fun t=>t.1*(levels (t.2.2+1):Int)).sum
def aloneOf (T:List Trip):Bool:=T.all fun t=>!(decide (0<t.1)&&(decide (t.2.1≠1)||decide (1<t.2.2)))
theorem isum_snoc {α:Type}(f:α->Int)(l:List α)(j:Nat)(r:α)(h:l[j]?=some r):((l.take (j+1)).map f).sum=((l.take j).map f).sum+f r:=by
 rw [List.take_add_one,h]
 simp
theorem isum_bd {α:Type}(f:α->Int)(b:Int)(l:List α)(h:∀ r∈l,0<=f r/\f r<=b):0<=(l.map f).sum/\(l.map f).sum<=b*l.length:=by
 induction l with
 | nil=>simp
 | cons x l ih =>
   have h1:=h x (by simp)
   have h2:=ih fun r hr=>h r (List.mem_cons_of_mem _ hr)
   simp only [List.map_cons,List.sum_cons,List.length_cons]
   rw [Int.natCast_add,Int.mul_add]
   omega
def TripBd (T:List Trip):Prop:=(∀ t∈T,0<=t.1/\t.1<=100/\0<=t.2.2/\t.2.2<=1099511627776)/\T.length<=300000
end Kv
namespace Go.Proofs.YtchahoiainbcaaaGreatDoor
open Go.RowKit Kv
theorem svals_trip (r:Reg):svals r=(trip r).flatMap tv/\manyF r=(trip r).length:=by
 have hp:∀ m,pairVals m=(pairT m).flatMap tv/\2*m=(pairT m).length:=by
  intro m
  unfold pairVals pairT
  induction m with
  | zero=>exact⟨rfl,rfl⟩
  | succ m ih =>
    obtain⟨h1,h2⟩:=ih
    rw [List.replicate_succ,List.flatMap_cons,List.flatMap_cons,List.flatMap_append,h1,List.length_append,<- h2]
    exact⟨rfl,by simp;omega⟩
 unfold svals manyF trip
 split
 · exact⟨rfl,rfl⟩
 · split
   · exact hp _
   · exact hp _
theorem lkS_trip (alg:Int)(N:Nat)(room:Int)(rs:List Reg):lkS alg N room rs=(lkT alg N room rs).flatMap tv/\lkM alg rs=(lkT alg N room rs).length:=by
 unfold lkS lkM lkT
 split
 · exact⟨rfl,rfl⟩
 · split
   · exact⟨rfl,rfl⟩
   · unfold sumN
     induction rs with
     | nil=>exact⟨rfl,rfl⟩
     | cons r rs ih =>
       obtain⟨h1,h2⟩:=ih
       obtain⟨k1,k2⟩:=svals_trip r
       rw [List.flatMap_cons,List.flatMap_cons,List.flatMap_append,h1,k1,List.map_cons,List.sum_cons,h2,k2,List.length_append]
       exact⟨rfl,rfl⟩
theorem trips_open {B:Nat}{w:World}{v:Value}{T:List Trip}(h:FRecs B w v T.length (T.flatMap tv)):∃ A c,v=.slice A T.length c/\T.length<=c/\∀ (i:Nat) t,T[i]?=some t ->
  ∃ b,A=some ⟨b,0,none⟩/\b<w.heap.size/\w.cell? ⟨b,i*3,none⟩=some (.int .i64 t.1)/\w.cell? ⟨b,i*3+1,none⟩=some (.int .i64 t.2.1)/\w.cell? ⟨b,i*3+2,none⟩=some (.int .i64 t.2.2):=by
 obtain⟨A,c,rfl,h1,h2,h3,h4,h5⟩:=h
 refine⟨A,c,rfl,h1,fun i t ht=>?_⟩
 have hi:=(List.getElem?_eq_some_iff.1 ht).1
 cases A with
 | none=>have:=h3 rfl;omega
 | some ad =>
   obtain⟨b,rfl,k1,k2⟩:=h4 ad rfl
   have f:=fun j hj=>flat_at tv 3 (fun _=>rfl) T i j t ht hj
   rw [Nat.mul_comm i 3]
   exact⟨b,rfl,k2,h5 b rfl _ _ (f 0 (by omega)),h5 b rfl _ _ (f 1 (by omega)),h5 b rfl _ _ (f 2 (by omega))⟩
set_option maxRecDepth 100000 in
set_option maxHeartbeats 1000000 in
theorem msafe_p (alg N mode base loc room:Int)(T:List Trip)(w:World)(hT:TripBd T)
  (hS:∀ w,Calls Tryz.prog 19 #[lockV alg N mode base loc room] w fun e w'=>∃ v,e=.returned v/\FRecs w.heap.size w' v T.length (T.flatMap tv)/\Ext w w') :
  Calls Tryz.prog 6 #[lockV alg N mode base loc room] w fun e w'=>e=.returned (.int .i64 (safeOf T))/\Ext w w':=by
 unfold lockV at *
 have hX:=Ext.refl w
 have b1:=Blk.new w (.cells #[.int .i64 alg,.int .i64 N,.int .i64 mode,.int .i64 base,.int .i64 loc,.int .i64 room] 23)
 replace hX:=hX.alloc (.cells #[.int .i64 alg,.int .i64 N,.int .i64 mode,.int .i64 base,.int .i64 loc,.int .i64 room] 23)
 have c_b1:=b1.cells
 have hsum:∀ j,0<=safeOf (T.take j)/\safeOf (T.take j)<=100*(T.take j).length:=fun j=>isum_bd _ 100 _ fun t ht=>by
  have:=hT.1 t (List.mem_of_mem_take ht)
  split <;> omega
 have hlen:=hT.2
 go_enter Tryz.func6,Tryz.ntmps6
 go_wp2_with fail
 refine (hS _).mono ?_
 rintro e w2 ⟨v,rfl,hf,hx⟩
 obtain⟨A,c,rfl,hc,hat⟩:=trips_open hf
 replace hX:=hX.trans hx
 clear hx hS c_b1 b1 hf
 go_wp2_with fail
 go_loopw [3,9] (fun s i wr=>∃ j:Nat,i=.int .i64 j/\j<=T.length/\s=.int .i64 (safeOf (T.take j))/\Ext w2 wr) (fun _ i _=>T.length-(intOf i).toNat)
 case atStart=>exact⟨0,rfl,by omega,rfl,Ext.refl _⟩
 case round =>
  obtain⟨j,rfl,hj,rfl,hx⟩:=hrel
  by_cases hlt:j<T.length
  · have htj:T[j]?=some T[j]:=List.getElem?_eq_getElem hlt
    have hbt:=hT.1 _ (List.getElem_mem hlt)
    generalize T[j]=t at htj hbt
    obtain⟨b,rfl,hb,e1,e2,e3⟩:=hat j t htj
    have e1:=(hx.cell (p:=⟨b,j*3,none⟩) hb).trans e1
    have e2:=(hx.cell (p:=⟨b,j*3+1,none⟩) hb).trans e2
    have e3:=(hx.cell (p:=⟨b,j*3+2,none⟩) hb).trans e3
    have hs:safeOf (T.take (j+1))=safeOf (T.take j)+if t.2.1=1 then t.1 else 0:=isum_snoc _ T j t htj
    have hb1:=hsum j
    have htk:(T.take j).length<=300000:=by rw [List.length_take];omega
    obtain⟨m,k,tp⟩:=t
    simp only at e1 e2 e3 hs hbt
    have hxa:=Lib.hid (hx.alloc (.cells #[.int .i64 m,.int .i64 k,.int .i64 tp] 42))
    have hsh:=Lib.hid hs
    clear hat hsum hs htj hT
    generalize safeOf (T.take j)=s at *
    by_cases hk:k=1
    · subst hk
      go_wp2_with fail
      refine⟨⟨j+1,by go_num,by omega,by rw [hsh.out,if_pos rfl],hxa.out⟩,?_⟩
      simp [intOf];omega
    · have dk:(k==1)=false:=by rw [beq_eq_false_iff_ne];exact hk
      go_wp2_with fail
      refine⟨⟨j+1,by go_num,by omega,by rw [hsh.out,if_neg hk,Int.add_zero],hxa.out⟩,?_⟩
      simp [intOf];omega
  · obtain rfl:j=T.length:=by omega
    rw [List.take_length]
    clear hat hsum
    have hf:=Lib.hid (hX.trans hx)
    go_wp2_with fail
    go_ret
    exact⟨rfl,hf.out⟩
set_option maxRecDepth 100000 in
set_option maxHeartbeats 1000000 in
theorem mbits_p (alg N mode base loc room:Int)(T:List Trip)(w:World)(hT:TripBd T)
  (hS:∀ w,Calls Tryz.prog 19 #[lockV alg N mode base loc room] w fun e w'=>∃ v,e=.returned v/\FRecs w.heap.size w' v T.length (T.flatMap tv)/\Ext w w') :
  Calls Tryz.prog 8 #[lockV alg N mode base loc room] w fun e w'=>e=.returned (.int .i64 (bitsOf T))/\Ext w w':=by
 unfold lockV at *
 have hX:=Ext.refl w
 have b1:=Blk.new w (.cells #[.int .i64 alg,.int .i64 N,.int .i64 mode,.int .i64 base,.int .i64 loc,.int .i64 room] 23)
 replace hX:=hX.alloc (.cells #[.int .i64 alg,.int .i64 N,.int .i64 mode,.int .i64 base,.int .i64 loc,.int .i64 room] 23)
 have c_b1:=b1.cells
 have hpb:∀ t∈T,0<=t.1*(levels (t.2.2+1):Int)/\t.1*(levels (t.2.2+1):Int)<=100*64:=fun t ht=>by
  have:=hT.1 t ht
  have h2:=levels_le (t.2.2+1)
  exact mulb (by omega) (by omega)
 have hsum:∀ j,0<=bitsOf (T.take j)/\bitsOf (T.take j)<=100*64*(T.take j).length:=fun j=>isum_bd _ _ _ fun t ht=>hpb t (List.mem_of_mem_take ht)
 have hlen:=hT.2
 go_enter Tryz.func8,Tryz.ntmps8
 go_wp2_with fail
 refine (hS _).mono ?_
 rintro e w2 ⟨v,rfl,hf,hx⟩
 obtain⟨A,c,rfl,hc,hat⟩:=trips_open hf
 replace hX:=hX.trans hx
 clear hx hS c_b1 b1 hf
 go_wp2_with fail
 go_loopw [3,9] (fun s i wr=>∃ j:Nat,i=.int .i64 j/\j<=T.length/\s=.int .i64 (bitsOf (T.take j))/\Ext w2 wr) (fun _ i _=>T.length-(intOf i).toNat)
 case atStart=>exact⟨0,rfl,by omega,rfl,Ext.refl _⟩
 case round =>
  obtain⟨j,rfl,hj,rfl,hx⟩:=hrel
  by_cases hlt:j<T.length
  · have htj:T[j]?=some T[j]:=List.getElem?_eq_getElem hlt
    have hbt:=hT.1 _ (List.getElem_mem hlt)
    have hpt:=hpb _ (List.getElem_mem hlt)
    generalize T[j]=t at htj hbt hpt
    obtain⟨b,rfl,hb,e1,e2,e3⟩:=hat j t htj
    have e1:=(hx.cell (p:=⟨b,j*3,none⟩) hb).trans e1
    have e2:=(hx.cell (p:=⟨b,j*3+1,none⟩) hb).trans e2
    have e3:=(hx.cell (p:=⟨b,j*3+2,none⟩) hb).trans e3
    have hs:bitsOf (T.take (j+1))=bitsOf (T.take j)+t.1*(levels (t.2.2+1):Int):=isum_snoc _ T j t htj
    have hb1:=hsum j
    have htk:(T.take j).length<=300000:=by rw [List.length_take];omega
    obtain⟨m,k,tp⟩:=t
    simp only at e1 e2 e3 hs hbt hpt
    have hL:=fun w=>levels_p (tp+1) (by omega) w
    generalize levels (tp+1)=lv at *
    have hxa:=hx.alloc (.cells #[.int .i64 m,.int .i64 k,.int .i64 tp] 42)
    have g1:=Blk.new wr (.cells #[.int .i64 m,.int .i64 k,.int .i64 tp] 42)
    have hsh:=Lib.hid hs
    clear hat hsum hs htj hT hpb
    generalize bitsOf (T.take j)=s at *
    have wm:IntKind.i64.wrap (m*(lv:Int))=m*(lv:Int):=IntWalk.i64_in _ (by omega)
    have ws:IntKind.i64.wrap (s+m*(lv:Int))=s+m*(lv:Int):=IntWalk.i64_in _ (by omega)
    have wt:IntKind.i64.wrap (tp+1)=tp+1:=IntWalk.i64_in _ (by omega)
    go_upto_region 5 with fail
    have g2:=g1.cells
    have hxd:=hxa.drew
    generalize World.alloc wr _=W at *
    refine wp_region_held_drew (S:=fun w'=>∀ i,w'.cell? ⟨wr.heap.size,i,none⟩=(#[.int .i64 m,.int .i64 k,.int .i64 tp]:Array Value)[i]?) rfl g2 (fun hHeld=>?_)
    refine tkb 0 ?_
    iterate 6
     refine tkn (v:=?_) rfl (by kernel_rfl) (fun _ _ _ h=>h) (by assumption) ?_ ?_
     rotate_left
     · (intro w hSw;(try dsimp only at hSw);go_simp;try with_reducible rfl)
     try simp only [put_pack]
    refine tke ?_
    refine wpAnyH_ready (rs:=[6]) (by kernel_rfl) (by simp) ?_
    refine AllReadyH.cons rfl (fun K hKK=>?_) (AllReadyH.nil)
    go_simp
    refine (hL _).mono ?_
    rintro e w' ⟨rfl,rfl⟩
    refine hKK.out _ _ hHeld (fun hHeld=>?_)
    clear hKK K
    try dsimp only
    refine tkb 7 ?_
    iterate 3
     refine tkn (v:=?_) rfl (by kernel_rfl) (fun _ _ _ h=>h) (by assumption) ?_ ?_
     rotate_left
     · (intro w hSw;(try dsimp only at hSw);go_simp;try with_reducible rfl)
     try simp only [put_pack]
    refine tke ?_
    refine wpAnyH_done (by kernel_rfl) ?_ _
    go_simp
    clear hHeld
    have hxh:=Lib.hid hxd
    go_wp2_with fail
    refine⟨⟨j+1,by go_num,by omega,by rw [hsh.out],hxh.out⟩,?_⟩
    simp [intOf];omega
  · obtain rfl:j=T.length:=by omega
    rw [List.take_length]
    clear hat hsum
    have hf:=Lib.hid (hX.trans hx)
    go_wp2_with fail
    go_ret
    exact⟨rfl,hf.out⟩
set_option maxRecDepth 100000 in
set_option maxHeartbeats 1000000 in
theorem malone_p (alg N mode base loc room:Int)(T:List Trip)(w:World)(hT:TripBd T)
  (hS:∀ w,Calls Tryz.prog 19 #[lockV alg N mode base loc room] w fun e w'=>∃ v,e=.returned v/\FRecs w.heap.size w' v T.length (T.flatMap tv)/\Ext w w') :
  Calls Tryz.prog 15 #[lockV alg N mode base loc room] w fun e w'=>e=.returned (.bool (aloneOf T))/\Ext w w':=by
 unfold lockV at *
 have hX:=Ext.refl w
 have b1:=Blk.new w (.cells #[.int .i64 alg,.int .i64 N,.int .i64 mode,.int .i64 base,.int .i64 loc,.int .i64 room] 23)
 replace hX:=hX.alloc (.cells #[.int .i64 alg,.int .i64 N,.int .i64 mode,.int .i64 base,.int .i64 loc,.int .i64 room] 23)
 have c_b1:=b1.cells
 have hlen:=hT.2
 go_enter Tryz.func15,Tryz.ntmps15
 go_wp2_with fail
 refine (hS _).mono ?_
 rintro e w2 ⟨v,rfl,hf,hx⟩
 obtain⟨A,c,rfl,hc,hat⟩:=trips_open hf
 replace hX:=hX.trans hx
 clear hx hS c_b1 b1 hf
 go_wp2_with fail
 go_loopw [8] (fun i wr=>∃ j:Nat,i=.int .i64 j/\j<=T.length/\aloneOf (T.take j)=true/\Ext w2 wr) (fun i _=>T.length-(intOf i).toNat)
 case atStart=>exact⟨0,rfl,by omega,rfl,Ext.refl _⟩
 case round =>
  obtain⟨j,rfl,hj,hal,hx⟩:=hrel
  by_cases hlt:j<T.length
  · have htj:T[j]?=some T[j]:=List.getElem?_eq_getElem hlt
    have hbt:=hT.1 _ (List.getElem_mem hlt)
    have hmem:=List.getElem_mem hlt
    generalize T[j]=t at htj hbt hmem
    obtain⟨b,rfl,hb,e1,e2,e3⟩:=hat j t htj
    have e1:=(hx.cell (p:=⟨b,j*3,none⟩) hb).trans e1
    have e2:=(hx.cell (p:=⟨b,j*3+1,none⟩) hb).trans e2
    have e3:=(hx.cell (p:=⟨b,j*3+2,none⟩) hb).trans e3
    have hs:aloneOf (T.take (j+1))=(aloneOf (T.take j)&&!(decide (0<t.1)&&(decide (t.2.1≠1)||decide (1<t.2.2)))):=by
     unfold aloneOf
     rw [List.take_add_one,htj,List.all_append]
     simp
    have hbad:(decide (0<t.1)&&(decide (t.2.1≠1)||decide (1<t.2.2)))=true->aloneOf T=false:=fun h=>by
     unfold aloneOf
     rw [List.all_eq_false]
     exact⟨t,hmem,by rw [h];decide⟩
    rw [hal] at hs
    obtain⟨m,k,tp⟩:=t
    simp only at e1 e2 e3 hs hbt hbad
    have hxa:=Lib.hid (hx.alloc (.cells #[.int .i64 m,.int .i64 k,.int .i64 tp] 42))
    have hsh:=Lib.hid (And.intro hs hbad)
    clear hat hs htj hT hal hbad hmem
    by_cases h1:0<m
    · have d1:decide (0<m)=true:=decide_eq_true h1
      by_cases h2:k=1
      · subst h2
        by_cases h3:1<tp
        · have d3:decide (1<tp)=true:=decide_eq_true h3
          have hf:=Lib.hid (hX.trans hxa.out)
          go_wp2_with fail
          go_ret
          exact⟨by rw [hsh.out.2 (by simp [h1,h3])];rfl,hf.out⟩
        · have d3:decide (1<tp)=false:=decide_eq_false h3
          go_wp2_with fail
          refine⟨⟨j+1,by go_num,by omega,by rw [hsh.out.1];simp [h3],hxa.out⟩,?_⟩
          simp [intOf];omega
      · have d2:(k != 1)=true:=by rw [bne_iff_ne];exact h2
        have hf:=Lib.hid (hX.trans hxa.out)
        go_wp2_with fail
        go_ret
        exact⟨by rw [hsh.out.2 (by simp [h1,h2])];rfl,hf.out⟩
    · have d1:decide (0<m)=false:=decide_eq_false h1
      go_wp2_with fail
      refine⟨⟨j+1,by go_num,by omega,by rw [hsh.out.1];simp [h1],hxa.out⟩,?_⟩
      simp [intOf];omega
  · obtain rfl:j=T.length:=by omega
    rw [List.take_length] at hal
    clear hat
    have hf:=Lib.hid (And.intro hal (hX.trans hx))
    clear hal
    go_wp2_with fail
    go_ret
    exact⟨by rw [hf.out.1];rfl,hf.out.2⟩
end Go.Proofs.YtchahoiainbcaaaGreatDoor
namespace Kv
open Go.Lib
theorem bjoin_cons (x y:List UInt8)(l:List (List UInt8)):join (x :: y :: l) [32]=x++32 :: join (y :: l) [32]:=by
 unfold join
 simp [List.intercalate,List.intersperse]
theorem bjoin_one (x:List UInt8):join [x] [32]=x:=by simp [join,List.intercalate,List.intersperse]
theorem bjoin_bd:∀ (l:List (List UInt8)) (x:List UInt8) (m:Nat),(∀ w∈x :: l,w.length<=m)->(join (x :: l) [32]).length<=(m+1)*(l.length+1)
 | [],x,m,h=>by
   rw [bjoin_one]
   have:=h x (by simp)
   rw [List.length_nil,Nat.zero_add,Nat.mul_one]
   omega
 | y :: l,x,m,h=>by
   rw [bjoin_cons,List.length_append,List.length_cons]
   have h1:=h x (by simp)
   have h2:=bjoin_bd l y m fun w hw=>h w (List.mem_cons_of_mem _ hw)
   rw [List.length_cons,Nat.mul_succ]
   omega
def algW:List (List UInt8):=[[98,97,107,101,114,121],[111,110,101,98,105,116],[98,108,97,99,107],[102,105,108,116,101,114],[102,97,115,116],[112,101,116,101,114,115,111,110],[107,101,115,115,101,108,115],[97,100,97,112,116]]
def wordL (alg:Int):List UInt8:=algW.getD (alg-1).toNat []
def modeL (mode:Int):List UInt8:=if mode=2 then [98,117,105,108,116] else [110,97,116,105,118,101]
def cardL (alg mode:Int) (nums:List Int) (al:Bool):List (List UInt8) :=
 ([wordL alg,modeL mode]++nums.map digits)++((if alg=1∨alg=3 then [[100,111,111,114]] else [])++((if alg=2∨alg=5 then [[115,116,97,114,118,101,115]] else [])++((if al=true then [[98,105,116,115]] else [])++(if alg=1 then [[103,114,111,119,115]] else []))))
end Kv
namespace Go.Proofs.YtchahoiainbcaaaGreatDoor
open Go.RowKit Kv
theorem info_strB:(Tryz.prog.info? 9).map (fun i=>(i.zero,i.size,i.bytes))=some (some (.string ⟨#[]⟩),1,16):=by kernel_rfl
def strB (s:List UInt8):Value:=.string ⟨s.toArray⟩
set_option maxRecDepth 100000 in
theorem word_p (alg:Int)(w:World)(ha:1<=alg/\alg<=8):Calls Tryz.prog 10 #[.int .i64 alg] w fun e w'=>e=.returned (strB (wordL alg))/\Ext w w':=by
 have hW:∀ w,Calls Tryz.prog 22 #[] w fun e w'=>e=.returned (.agg (algW.map strB).toArray)/\Ext w w':=by
  intro w
  have hX:=(Ext.refl w).alloc (.cells (algW.map strB).toArray 49)
  have hc:=(Blk.new w (.cells (algW.map strB).toArray 49)).cells
  unfold algW strB at *
  simp only [List.map_cons,List.map_nil] at *
  go_enter Tryz.func22,Tryz.ntmps22
  go_wp2_with fail
  exact bodyPost_ret (v:=.agg #[.string ⟨#[98,97,107,101,114,121]⟩,.string ⟨#[111,110,101,98,105,116]⟩,.string ⟨#[98,108,97,99,107]⟩,.string ⟨#[102,105,108,116,101,114]⟩,.string ⟨#[102,97,115,116]⟩,.string ⟨#[112,101,116,101,114,115,111,110]⟩,.string ⟨#[107,101,115,115,101,108,115]⟩,.string ⟨#[97,100,97,112,116]⟩]) (by simp [results,Tryz.results22,go_sem,hc]) rfl ⟨rfl,hX⟩
 have:alg=1∨alg=2∨alg=3∨alg=4∨alg=5∨alg=6∨alg=7∨alg=8:=by omega
 clear ha
 unfold algW strB at hW
 simp only [List.map_cons,List.map_nil] at hW
 rcases this with rfl | rfl | rfl | rfl | rfl | rfl | rfl | rfl
 all_goals
  go_enter Tryz.func10,Tryz.ntmps10
  go_wp2_with fail
  refine (hW _).mono ?_
  rintro e w2 ⟨rfl,hx⟩
  have hxa:=Lib.hid (hx.alloc (.cells #[.string ⟨#[98,97,107,101,114,121]⟩,.string ⟨#[111,110,101,98,105,116]⟩,.string ⟨#[98,108,97,99,107]⟩,.string ⟨#[102,105,108,116,101,114]⟩,.string ⟨#[102,97,115,116]⟩,.string ⟨#[112,101,116,101,114,115,111,110]⟩,.string ⟨#[107,101,115,115,101,108,115]⟩,.string ⟨#[97,100,97,112,116]⟩] 49))
  clear hx
  go_wp2_with fail
  go_ret
  exact⟨rfl,hxa.out⟩
theorem mode_p (mode:Int)(w:World):Calls Tryz.prog 11 #[.int .i64 mode] w fun e w'=>e=.returned (strB (modeL mode))/\w=w':=by
 by_cases h:mode=2
 · subst h
   go_enter Tryz.func11,Tryz.ntmps11
   go_wp2_with fail
   go_ret
   exact⟨rfl,rfl⟩
 · have d:(mode==2)=false:=by rw [beq_eq_false_iff_ne];exact h
   have e1:modeL mode=[110,97,116,105,118,101]:=if_neg h
   rw [e1]
   clear e1 h
   go_enter Tryz.func11,Tryz.ntmps11
   go_wp2_with fail
   go_ret
   exact⟨rfl,rfl⟩
theorem line_p {B:Nat}(ws:List (List UInt8))(v:Value)(w:World)(h:w.ownsRow B 9 1 v ws.length (ws.map strB))(h0:ws≠[])(hl:ws.length<=20)(hm:∀ x∈ws,x.length<=100) :
  Calls Tryz.prog 16 #[v] w fun e w'=>e=.returned (strB (Go.Lib.join ws [32]))/\Ext w w':=by
 have e1:(ws.map fun x=>(⟨x.toArray⟩:ByteArray)).map (·.data.toList)=ws:=by
  rw [List.map_map]
  exact (List.map_congr_left fun x _=>by simp).trans (List.map_id ws)
 have hlen:(Go.Lib.join ws [32]).length<=3000:=by
  cases ws with
  | nil=>exact absurd rfl h0
  | cons x l =>
    have:=bjoin_bd l x 100 hm
    rw [List.length_cons] at hl
    have h2:101*(l.length+1)<=101*20:=Nat.mul_le_mul_left _ hl
    omega
 obtain⟨A,cp,rfl,q1,q2,q3⟩:=vals_row h
 obtain⟨b,rfl,hb,hc⟩:=q3 (by simpa using h0)
 have hj:=Tryz.strings_Join b 0 cp (ws.map fun x=>⟨x.toArray⟩) ⟨#[32]⟩ w (fun j x hx=>by
  rw [List.getElem?_map] at hx
  obtain⟨y,hy,rfl⟩:=Option.map_eq_some_iff.1 hx
  rw [Nat.zero_add]
  exact hc j _ (by rw [List.getElem?_map,hy];rfl)) hb (by rw [List.length_map];omega) (by rw [List.length_map];exact q1) (by rw [e1];show (Go.Lib.join ws [32]).length<=_;omega)
 rw [e1,List.length_map] at hj
 clear h q3 hc hm hlen e1 h0
 go_enter Tryz.func16,Tryz.ntmps16
 go_wp2_with fail
 refine hj.mono ?_
 rintro e w2 ⟨rfl,hx⟩
 go_wp2_with fail
 go_ret
 exact⟨rfl,hx⟩
end Go.Proofs.YtchahoiainbcaaaGreatDoor
