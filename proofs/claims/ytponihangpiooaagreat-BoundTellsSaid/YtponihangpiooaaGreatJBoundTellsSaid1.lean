/-
  BoundTellsSaid: part 1 of its proof.
-/
import Derived.Test.YtponihangpiooaaGreatJBoundTellsSaid0
import Derived.Deep.DeepCutAuto
import Derived.Laws.AppendOwnNone
import Derived.Laws.MakeOwn
import Derived.Laws.FloatArith
import Derived.Laws.ComplexArith
import Derived.Shelf.Strconv.Itoa0
import Derived.Shelf.Slices.Reverse
import Derived.Shelf.Slices.Equal
import Derived.Ground.Names2Prog
import Derived.Shelf.Slices.Clone
import Derived.Shelf.Slices.Cells
import Derived.Shelf.Slices.Empties2
import Derived.Ground.SlbCloneProg
import Derived.Shelf.Bytes.SlClone
import Derived.Ground.SlgnProg
import Derived.Shelf.SlicesE.Reverse
import Derived.Shelf.SlicesE.Clone
import Derived.Test.YtponihangpiooaaGreatProg
import Derived.Lib.LaidTab
import Derived.ScopeJumps
import Derived.WalkMore
import Derived.Maps.AppendAt
namespace Go.Proofs.YtponihangpiooaaGreat
open Go.RowKit Kv
theorem within_p (a m:Int)(w:World)(h:0<=a/\0<=m/\m<=10000):Calls Tryz.prog 207 #[.int .i64 a,.int .i64 m,.int .i64 32768] w fun e w'=>e=.returned (.bool (decide (a<=32768)&&decide (a+m<=32768)))/\w=w':=by
 obtain⟨h0,h1,h2⟩:=h
 by_cases e1:a<=32768
 · have d:decide (a<=32768)=true:=by simpa using e1
   rw [d,Bool.true_and]
   go_enter Tryz.func207,Tryz.ntmps207
   go_wp2_with fail
   go_ret
   exact⟨rfl,rfl⟩
 · have d:decide (a<=32768)=false:=by simpa using e1
   rw [d,Bool.false_and]
   go_enter Tryz.func207,Tryz.ntmps207
   go_wp2_with fail
   go_ret
   exact⟨rfl,rfl⟩
theorem greatest1_p (w:World):Calls Tryz.prog 206 #[.int .i64 1] w fun e w'=>e=.returned (.int .i64 1099511627776)/\w=w':=by
 go_enter Tryz.func206,Tryz.ntmps206
 go_wp2_with fail
 go_ret
 exact⟨rfl,rfl⟩
theorem greatest6_p (w:World):Calls Tryz.prog 206 #[.int .i64 6] w fun e w'=>e=.returned (.int .i64 1048576)/\w=w':=by
 go_enter Tryz.func206,Tryz.ntmps206
 go_wp2_with fail
 go_ret
 exact⟨rfl,rfl⟩
theorem greatest7_p (w:World):Calls Tryz.prog 206 #[.int .i64 7] w fun e w'=>e=.returned (.int .i64 255)/\w=w':=by
 go_enter Tryz.func206,Tryz.ntmps206
 go_wp2_with fail
 go_ret
 exact⟨rfl,rfl⟩
theorem mlocals_p (n:Int)(w:World)(h1:1<=n)(h2:n<=8):Calls Tryz.prog 231 #[.int .i64 n] w fun e w'=>e=.returned (.int .i64 (n*(2+18*(n-1)*(n-1))))/\w=w':=by
 have hb:=locals_bd n h1 h2
 go_enter Tryz.func231,Tryz.ntmps231
 go_wp2_with fail
 refine (mthreads_p n _ h1 h2).mono ?_
 rintro e w' ⟨rfl,rfl⟩
 go_wp2_with fail
 refine (tlocals_p n _ h1 h2).mono ?_
 rintro e w' ⟨rfl,rfl⟩
 go_wp2_with fail
 go_ret
 exact⟨rfl,rfl⟩
theorem locals_p (r:Reg)(w:World)(hk:r.kind=1∨r.kind=6∨r.kind=7)(hn:1<=r.n/\r.n<=8):Calls Tryz.prog 153 #[encR r] w fun e w'=>e=.returned (.int .i64 (localsM r))/\Ext w w':=by
 obtain⟨kind,base,loc,n,wr,rd,top⟩:=r
 simp only at hk hn
 unfold encR localsM
 simp only
 have hX:=Ext.refl w
 have b1:=Blk.new w (.cells #[.int .i64 kind,.int .i64 base,.int .i64 loc,.int .i64 n,.int .i64 wr,.int .i64 rd,.int .i64 top] 59)
 replace hX:=hX.alloc (.cells #[.int .i64 kind,.int .i64 base,.int .i64 loc,.int .i64 n,.int .i64 wr,.int .i64 rd,.int .i64 top] 59)
 have c_b1:=b1.cells
 rcases hk with rfl | rfl | rfl
 · go_enter Tryz.func153,Tryz.ntmps153
   go_wp2_with fail
   go_ret
   exact⟨rfl,hX⟩
 · go_enter Tryz.func153,Tryz.ntmps153
   go_wp2_with fail
   refine (tlocals_p n _ hn.1 hn.2).mono ?_
   rintro e w' ⟨rfl,rfl⟩
   go_wp2_with fail
   go_ret
   exact⟨rfl,hX⟩
 · go_enter Tryz.func153,Tryz.ntmps153
   go_wp2_with fail
   refine (mlocals_p n _ hn.1 hn.2).mono ?_
   rintro e w' ⟨rfl,rfl⟩
   go_wp2_with fail
   go_ret
   exact⟨rfl,hX⟩
set_option maxRecDepth 100000 in
set_option maxHeartbeats 2000000 in
theorem pfine1_p (base loc n wr top C D:Int)(w:World)(hb:0<=base)(hl:0<=loc)(hn:1<=n/\n<=8)(hw:-1<=wr/\wr<n)(ht:1<=top/\top<=255)(hz:0<=C/\C<=6272/\0<=D/\D<=7072)
  (hC:∀ w,Calls Tryz.prog 142 #[.agg #[.int .i64 1,.int .i64 base,.int .i64 loc,.int .i64 n,.int .i64 wr,.int .i64 (-1),.int .i64 top]] w fun e w'=>e=.returned (.int .i64 C)/\Ext w w')
  (hL:∀ w,Calls Tryz.prog 153 #[.agg #[.int .i64 1,.int .i64 base,.int .i64 loc,.int .i64 n,.int .i64 wr,.int .i64 (-1),.int .i64 top]] w fun e w'=>e=.returned (.int .i64 D)/\Ext w w') :
  Calls Tryz.prog 145 #[.agg #[.int .i64 1,.int .i64 base,.int .i64 loc,.int .i64 n,.int .i64 wr,.int .i64 (-1),.int .i64 top]] w fun e w'=>e=.returned (.bool (decide (base<=32768)&&decide (loc<=32768)&&decide (base+C<=32768)&&decide (loc+D<=32768)))/\Ext w w':=by
 have d3:decide (n<1)=false:=by simpa using hn.1
 have d4:decide (8<n)=false:=by simpa using hn.2
 have d5:decide (top<1)=false:=by simpa using ht.1
 have d6:decide (1099511627776<top)=false:=by rw [decide_eq_false_iff_not];omega
 have d7:decide (wr < -1)=false:=by rw [decide_eq_false_iff_not];omega
 have d8:decide (n<=wr)=false:=by rw [decide_eq_false_iff_not];omega
 have d9:decide (n<=-1)=false:=by rw [decide_eq_false_iff_not];omega
 have hX:=Ext.refl w
 have b1:=Blk.new w (.cells #[.int .i64 1,.int .i64 base,.int .i64 loc,.int .i64 n,.int .i64 wr,.int .i64 (-1),.int .i64 top] 59)
 replace hX:=hX.alloc (.cells #[.int .i64 1,.int .i64 base,.int .i64 loc,.int .i64 n,.int .i64 wr,.int .i64 (-1),.int .i64 top] 59)
 have c_b1:=b1.cells
 have hW1:=fun w=>within_p base C w ⟨hb,by omega⟩
 have hW2:=fun w=>within_p loc D w ⟨hl,by omega⟩
 have he:(decide (base<=32768)&&decide (loc<=32768)&&decide (base+C<=32768)&&decide (loc+D<=32768))=((decide (base<=32768)&&decide (base+C<=32768))&&(decide (loc<=32768)&&decide (loc+D<=32768))):=by
  cases decide (base<=32768) <;> cases decide (loc<=32768) <;> simp
 rw [he]
 clear he
 generalize (decide (base<=32768)&&decide (base+C<=32768))=F1 at *
 generalize (decide (loc<=32768)&&decide (loc+D<=32768))=F2 at *
 clear hz hb hl hn hw ht
 go_enter Tryz.func145,Tryz.ntmps145
 go_wp2_with fail
 generalize w.alloc (.cells #[.int .i64 1,.int .i64 base,.int .i64 loc,.int .i64 n,.int .i64 wr,.int .i64 (-1),.int .i64 top] 59)=W0 at *
 have hE:=hX.drew
 replace b1:=b1.drew
 clear hX c_b1
 have hX:=hE
 have c_b1:=b1.cells
 go_region_held2 (fun w'=>∀ i,w'.cell? ⟨w.heap.size,i,none⟩=(#[.int .i64 1,.int .i64 base,.int .i64 loc,.int .i64 n,.int .i64 wr,.int .i64 (-1),.int .i64 top]:Array Value)[i]?) (exact c_b1)
  (first
    | (go_at_call 206
       refine (greatest1_p _).mono ?_
       rintro e w' ⟨rfl,rfl⟩))
 rename_i hh
 clear hh hE
 generalize W0.drew=W at *
 go_wp2_with fail
 have hS:∀ w',Ext W w'->(∀ i,w'.cell? ⟨w.heap.size,i,none⟩=(#[.int .i64 1,.int .i64 base,.int .i64 loc,.int .i64 n,.int .i64 wr,.int .i64 (-1),.int .i64 top]:Array Value)[i]?):=fun w' hx=>(b1.ext hx).cells
 have hXW:=hX
 clear hX c_b1
 have hX:=(Ext.refl W).drew
 cases F1 with
 | true =>
   go_region_held2 (fun w'=>∀ i,w'.cell? ⟨w.heap.size,i,none⟩=(#[.int .i64 1,.int .i64 base,.int .i64 loc,.int .i64 n,.int .i64 wr,.int .i64 (-1),.int .i64 top]:Array Value)[i]?) (exact hS _ hX)
    (first
       | (go_at_call 142
          refine (hC _).mono ?_
          rintro e w2 ⟨rfl,hx⟩
          replace hX:=hX.trans hx
          clear hx)
       | (go_at_call 153
          refine (hL _).mono ?_
          rintro e w2 ⟨rfl,hx⟩
          replace hX:=hX.trans hx
          clear hx)
       | (go_at_call_of 207 (Value.int IntKind.i64 base)
          refine (hW1 _).mono ?_
          rintro e w' ⟨rfl,rfl⟩)
       | (go_at_call_of 207 (Value.int IntKind.i64 loc)
          refine (hW2 _).mono ?_
          rintro e w' ⟨rfl,rfl⟩))
   go_wp2_with fail
   go_ret
   exact⟨rfl,hXW.trans hX⟩
 | false =>
   refine wp_region_held_drew (S:=(fun w'=>∀ i,w'.cell? ⟨w.heap.size,i,none⟩=(#[.int .i64 1,.int .i64 base,.int .i64 loc,.int .i64 n,.int .i64 wr,.int .i64 (-1),.int .i64 top]:Array Value)[i]?)) rfl (hS _ hX) (fun hHeld=>?_)
   refine tkb 0 ?_
   iterate 3
    refine tkn (v:=?_) rfl (by kernel_rfl) (fun _ _ _ h=>h) (by assumption) ?_ ?_
    rotate_left
    · (intro w hSw;(try dsimp only at hSw);go_simp;try with_reducible rfl)
    try simp only [put_pack]
   refine tke ?_
   refine wpAnyH_ready (rs:=[3]) (by kernel_rfl) (by simp) ?_
   refine AllReadyH.cons rfl (fun K hKK=>?_) (AllReadyH.nil)
   go_simp
   refine (hC _).mono ?_
   rintro e w2 ⟨rfl,hx⟩
   replace hX:=hX.trans hx
   clear hx
   refine hKK.out _ _ (hS _ hX) (fun hHeld=>?_)
   clear hKK K
   try dsimp only
   refine wpAnyH_ready (rs:=[4]) (by kernel_rfl) (by simp) ?_
   refine AllReadyH.cons rfl (fun K hKK=>?_) (AllReadyH.nil)
   go_simp
   refine (hW1 _).mono ?_
   rintro e w' ⟨rfl,rfl⟩
   refine hKK.out _ _ (hS _ hX) (fun hHeld=>?_)
   clear hKK K
   try dsimp only
   refine tk 5 (v:=?_) rfl (by kernel_rfl) (fun _ _ _ h=>h) (by assumption) ?_ ?_
   rotate_left
   · (intro w hSw;(try dsimp only at hSw);go_simp;try with_reducible rfl)
   try simp only [put_pack]
   refine sk 6 rfl (by kernel_rfl) (fun _ _ _ h=>h) (by assumption) ?_
   try simp only [put_pack]
   refine sk 7 rfl (by kernel_rfl) (fun _ _ _ h=>h) (by assumption) ?_
   try simp only [put_pack]
   refine sk 8 rfl (by kernel_rfl) (fun _ _ _ h=>h) (by assumption) ?_
   try simp only [put_pack]
   refine sk 9 rfl (by kernel_rfl) (fun _ _ _ h=>h) (by assumption) ?_
   try simp only [put_pack]
   refine sk 10 rfl (by kernel_rfl) (fun _ _ _ h=>h) (by assumption) ?_
   try simp only [put_pack]
   refine tk 11 (v:=?_) rfl (by kernel_rfl) (fun _ _ _ h=>h) (by assumption) ?_ ?_
   rotate_left
   · (intro w hSw;(try dsimp only at hSw);go_simp;try with_reducible rfl)
   try simp only [put_pack]
   refine tk 12 (v:=?_) rfl (by kernel_rfl) (fun _ _ _ h=>h) (by assumption) ?_ ?_
   rotate_left
   · (intro w hSw;(try dsimp only at hSw);go_simp;try with_reducible rfl)
   try simp only [put_pack]
   refine wpAnyH_done (by kernel_rfl) ?_ _
   go_simp
   go_wp2_with fail
   go_ret
   refine⟨?_,hXW.trans hX⟩
   rfl
set_option maxRecDepth 100000 in
set_option maxHeartbeats 2000000 in
theorem pfine6_p (base loc n wr top C D:Int)(w:World)(hb:0<=base)(hl:0<=loc)(hn:1<=n/\n<=8)(hw:0<=wr/\wr<n)(ht:1<=top/\top<=255)(hz:0<=C/\C<=6272/\0<=D/\D<=7072)
  (hC:∀ w,Calls Tryz.prog 142 #[.agg #[.int .i64 6,.int .i64 base,.int .i64 loc,.int .i64 n,.int .i64 wr,.int .i64 (-1),.int .i64 top]] w fun e w'=>e=.returned (.int .i64 C)/\Ext w w')
  (hL:∀ w,Calls Tryz.prog 153 #[.agg #[.int .i64 6,.int .i64 base,.int .i64 loc,.int .i64 n,.int .i64 wr,.int .i64 (-1),.int .i64 top]] w fun e w'=>e=.returned (.int .i64 D)/\Ext w w') :
  Calls Tryz.prog 145 #[.agg #[.int .i64 6,.int .i64 base,.int .i64 loc,.int .i64 n,.int .i64 wr,.int .i64 (-1),.int .i64 top]] w fun e w'=>e=.returned (.bool (decide (base<=32768)&&decide (loc<=32768)&&decide (base+C<=32768)&&decide (loc+D<=32768)))/\Ext w w':=by
 have d3:decide (n<1)=false:=by simpa using hn.1
 have d4:decide (8<n)=false:=by simpa using hn.2
 have d5:decide (top<1)=false:=by simpa using ht.1
 have d6:decide (1048576<top)=false:=by rw [decide_eq_false_iff_not];omega
 have d7:decide (wr < -1)=false:=by rw [decide_eq_false_iff_not];omega
 have d8:decide (n<=wr)=false:=by rw [decide_eq_false_iff_not];omega
 have d9:decide (n<=-1)=false:=by rw [decide_eq_false_iff_not];omega
 have dn:(wr==-1)=false:=by rw [beq_eq_false_iff_ne];omega
 have hX:=Ext.refl w
 have b1:=Blk.new w (.cells #[.int .i64 6,.int .i64 base,.int .i64 loc,.int .i64 n,.int .i64 wr,.int .i64 (-1),.int .i64 top] 59)
 replace hX:=hX.alloc (.cells #[.int .i64 6,.int .i64 base,.int .i64 loc,.int .i64 n,.int .i64 wr,.int .i64 (-1),.int .i64 top] 59)
 have c_b1:=b1.cells
 have hW1:=fun w=>within_p base C w ⟨hb,by omega⟩
 have hW2:=fun w=>within_p loc D w ⟨hl,by omega⟩
 have he:(decide (base<=32768)&&decide (loc<=32768)&&decide (base+C<=32768)&&decide (loc+D<=32768))=((decide (base<=32768)&&decide (base+C<=32768))&&(decide (loc<=32768)&&decide (loc+D<=32768))):=by
  cases decide (base<=32768) <;> cases decide (loc<=32768) <;> simp
 rw [he]
 clear he
 generalize (decide (base<=32768)&&decide (base+C<=32768))=F1 at *
 generalize (decide (loc<=32768)&&decide (loc+D<=32768))=F2 at *
 clear hz hb hl hn hw ht
 go_enter Tryz.func145,Tryz.ntmps145
 go_wp2_with fail
 generalize w.alloc (.cells #[.int .i64 6,.int .i64 base,.int .i64 loc,.int .i64 n,.int .i64 wr,.int .i64 (-1),.int .i64 top] 59)=W0 at *
 have hE:=hX.drew
 replace b1:=b1.drew
 clear hX c_b1
 have hX:=hE
 have c_b1:=b1.cells
 go_region_held2 (fun w'=>∀ i,w'.cell? ⟨w.heap.size,i,none⟩=(#[.int .i64 6,.int .i64 base,.int .i64 loc,.int .i64 n,.int .i64 wr,.int .i64 (-1),.int .i64 top]:Array Value)[i]?) (exact c_b1)
  (first
    | (go_at_call 206
       refine (greatest6_p _).mono ?_
       rintro e w' ⟨rfl,rfl⟩))
 rename_i hh
 clear hh hE
 generalize W0.drew=W at *
 go_wp2_with fail
 have hS:∀ w',Ext W w'->(∀ i,w'.cell? ⟨w.heap.size,i,none⟩=(#[.int .i64 6,.int .i64 base,.int .i64 loc,.int .i64 n,.int .i64 wr,.int .i64 (-1),.int .i64 top]:Array Value)[i]?):=fun w' hx=>(b1.ext hx).cells
 have hXW:=hX
 clear hX c_b1
 have hX:=(Ext.refl W).drew
 cases F1 with
 | true =>
   go_region_held2 (fun w'=>∀ i,w'.cell? ⟨w.heap.size,i,none⟩=(#[.int .i64 6,.int .i64 base,.int .i64 loc,.int .i64 n,.int .i64 wr,.int .i64 (-1),.int .i64 top]:Array Value)[i]?) (exact hS _ hX)
    (first
       | (go_at_call 142
          refine (hC _).mono ?_
          rintro e w2 ⟨rfl,hx⟩
          replace hX:=hX.trans hx
          clear hx)
       | (go_at_call 153
          refine (hL _).mono ?_
          rintro e w2 ⟨rfl,hx⟩
          replace hX:=hX.trans hx
          clear hx)
       | (go_at_call_of 207 (Value.int IntKind.i64 base)
          refine (hW1 _).mono ?_
          rintro e w' ⟨rfl,rfl⟩)
       | (go_at_call_of 207 (Value.int IntKind.i64 loc)
          refine (hW2 _).mono ?_
          rintro e w' ⟨rfl,rfl⟩))
   go_wp2_with fail
   go_ret
   exact⟨rfl,hXW.trans hX⟩
 | false =>
   refine wp_region_held_drew (S:=(fun w'=>∀ i,w'.cell? ⟨w.heap.size,i,none⟩=(#[.int .i64 6,.int .i64 base,.int .i64 loc,.int .i64 n,.int .i64 wr,.int .i64 (-1),.int .i64 top]:Array Value)[i]?)) rfl (hS _ hX) (fun hHeld=>?_)
   refine tkb 0 ?_
   iterate 3
    refine tkn (v:=?_) rfl (by kernel_rfl) (fun _ _ _ h=>h) (by assumption) ?_ ?_
    rotate_left
    · (intro w hSw;(try dsimp only at hSw);go_simp;try with_reducible rfl)
    try simp only [put_pack]
   refine tke ?_
   refine wpAnyH_ready (rs:=[3]) (by kernel_rfl) (by simp) ?_
   refine AllReadyH.cons rfl (fun K hKK=>?_) (AllReadyH.nil)
   go_simp
   refine (hC _).mono ?_
   rintro e w2 ⟨rfl,hx⟩
   replace hX:=hX.trans hx
   clear hx
   refine hKK.out _ _ (hS _ hX) (fun hHeld=>?_)
   clear hKK K
   try dsimp only
   refine wpAnyH_ready (rs:=[4]) (by kernel_rfl) (by simp) ?_
   refine AllReadyH.cons rfl (fun K hKK=>?_) (AllReadyH.nil)
   go_simp
   refine (hW1 _).mono ?_
   rintro e w' ⟨rfl,rfl⟩
   refine hKK.out _ _ (hS _ hX) (fun hHeld=>?_)
   clear hKK K
   try dsimp only
   refine tk 5 (v:=?_) rfl (by kernel_rfl) (fun _ _ _ h=>h) (by assumption) ?_ ?_
   rotate_left
   · (intro w hSw;(try dsimp only at hSw);go_simp;try with_reducible rfl)
   try simp only [put_pack]
   refine sk 6 rfl (by kernel_rfl) (fun _ _ _ h=>h) (by assumption) ?_
   try simp only [put_pack]
   refine sk 7 rfl (by kernel_rfl) (fun _ _ _ h=>h) (by assumption) ?_
   try simp only [put_pack]
   refine sk 8 rfl (by kernel_rfl) (fun _ _ _ h=>h) (by assumption) ?_
   try simp only [put_pack]
   refine sk 9 rfl (by kernel_rfl) (fun _ _ _ h=>h) (by assumption) ?_
   try simp only [put_pack]
   refine sk 10 rfl (by kernel_rfl) (fun _ _ _ h=>h) (by assumption) ?_
   try simp only [put_pack]
   refine tk 11 (v:=?_) rfl (by kernel_rfl) (fun _ _ _ h=>h) (by assumption) ?_ ?_
   rotate_left
   · (intro w hSw;(try dsimp only at hSw);go_simp;try with_reducible rfl)
   try simp only [put_pack]
   refine tk 12 (v:=?_) rfl (by kernel_rfl) (fun _ _ _ h=>h) (by assumption) ?_ ?_
   rotate_left
   · (intro w hSw;(try dsimp only at hSw);go_simp;try with_reducible rfl)
   try simp only [put_pack]
   refine wpAnyH_done (by kernel_rfl) ?_ _
   go_simp
   go_wp2_with fail
   go_ret
   refine⟨?_,hXW.trans hX⟩
   rfl
set_option maxRecDepth 100000 in
set_option maxHeartbeats 2000000 in
theorem pfine7_p (base loc n wr top C D:Int)(w:World)(hb:0<=base)(hl:0<=loc)(hn:1<=n/\n<=8)(hw:-1<=wr/\wr<n)(ht:1<=top/\top<=255)(hz:0<=C/\C<=6272/\0<=D/\D<=7072)
  (hC:∀ w,Calls Tryz.prog 142 #[.agg #[.int .i64 7,.int .i64 base,.int .i64 loc,.int .i64 n,.int .i64 wr,.int .i64 (-1),.int .i64 top]] w fun e w'=>e=.returned (.int .i64 C)/\Ext w w')
  (hL:∀ w,Calls Tryz.prog 153 #[.agg #[.int .i64 7,.int .i64 base,.int .i64 loc,.int .i64 n,.int .i64 wr,.int .i64 (-1),.int .i64 top]] w fun e w'=>e=.returned (.int .i64 D)/\Ext w w') :
  Calls Tryz.prog 145 #[.agg #[.int .i64 7,.int .i64 base,.int .i64 loc,.int .i64 n,.int .i64 wr,.int .i64 (-1),.int .i64 top]] w fun e w'=>e=.returned (.bool (decide (base<=32768)&&decide (loc<=32768)&&decide (base+C<=32768)&&decide (loc+D<=32768)))/\Ext w w':=by
 have d3:decide (n<1)=false:=by simpa using hn.1
 have d4:decide (8<n)=false:=by simpa using hn.2
 have d5:decide (top<1)=false:=by simpa using ht.1
 have d6:decide (255<top)=false:=by rw [decide_eq_false_iff_not];omega
 have d7:decide (wr < -1)=false:=by rw [decide_eq_false_iff_not];omega
 have d8:decide (n<=wr)=false:=by rw [decide_eq_false_iff_not];omega
 have d9:decide (n<=-1)=false:=by rw [decide_eq_false_iff_not];omega
 have hX:=Ext.refl w
 have b1:=Blk.new w (.cells #[.int .i64 7,.int .i64 base,.int .i64 loc,.int .i64 n,.int .i64 wr,.int .i64 (-1),.int .i64 top] 59)
 replace hX:=hX.alloc (.cells #[.int .i64 7,.int .i64 base,.int .i64 loc,.int .i64 n,.int .i64 wr,.int .i64 (-1),.int .i64 top] 59)
 have c_b1:=b1.cells
 have hW1:=fun w=>within_p base C w ⟨hb,by omega⟩
 have hW2:=fun w=>within_p loc D w ⟨hl,by omega⟩
 have he:(decide (base<=32768)&&decide (loc<=32768)&&decide (base+C<=32768)&&decide (loc+D<=32768))=((decide (base<=32768)&&decide (base+C<=32768))&&(decide (loc<=32768)&&decide (loc+D<=32768))):=by
  cases decide (base<=32768) <;> cases decide (loc<=32768) <;> simp
 rw [he]
 clear he
 generalize (decide (base<=32768)&&decide (base+C<=32768))=F1 at *
 generalize (decide (loc<=32768)&&decide (loc+D<=32768))=F2 at *
 clear hz hb hl hn hw ht
 go_enter Tryz.func145,Tryz.ntmps145
 go_wp2_with fail
 generalize w.alloc (.cells #[.int .i64 7,.int .i64 base,.int .i64 loc,.int .i64 n,.int .i64 wr,.int .i64 (-1),.int .i64 top] 59)=W0 at *
 have hE:=hX.drew
 replace b1:=b1.drew
 clear hX c_b1
 have hX:=hE
 have c_b1:=b1.cells
 go_region_held2 (fun w'=>∀ i,w'.cell? ⟨w.heap.size,i,none⟩=(#[.int .i64 7,.int .i64 base,.int .i64 loc,.int .i64 n,.int .i64 wr,.int .i64 (-1),.int .i64 top]:Array Value)[i]?) (exact c_b1)
  (first
    | (go_at_call 206
       refine (greatest7_p _).mono ?_
       rintro e w' ⟨rfl,rfl⟩))
 rename_i hh
 clear hh hE
 generalize W0.drew=W at *
 go_wp2_with fail
 have hS:∀ w',Ext W w'->(∀ i,w'.cell? ⟨w.heap.size,i,none⟩=(#[.int .i64 7,.int .i64 base,.int .i64 loc,.int .i64 n,.int .i64 wr,.int .i64 (-1),.int .i64 top]:Array Value)[i]?):=fun w' hx=>(b1.ext hx).cells
 have hXW:=hX
 clear hX c_b1
 have hX:=(Ext.refl W).drew
 cases F1 with
 | true =>
   go_region_held2 (fun w'=>∀ i,w'.cell? ⟨w.heap.size,i,none⟩=(#[.int .i64 7,.int .i64 base,.int .i64 loc,.int .i64 n,.int .i64 wr,.int .i64 (-1),.int .i64 top]:Array Value)[i]?) (exact hS _ hX)
    (first
       | (go_at_call 142
          refine (hC _).mono ?_
          rintro e w2 ⟨rfl,hx⟩
          replace hX:=hX.trans hx
          clear hx)
       | (go_at_call 153
          refine (hL _).mono ?_
          rintro e w2 ⟨rfl,hx⟩
          replace hX:=hX.trans hx
          clear hx)
       | (go_at_call_of 207 (Value.int IntKind.i64 base)
          refine (hW1 _).mono ?_
          rintro e w' ⟨rfl,rfl⟩)
       | (go_at_call_of 207 (Value.int IntKind.i64 loc)
          refine (hW2 _).mono ?_
          rintro e w' ⟨rfl,rfl⟩))
   go_wp2_with fail
   go_ret
   exact⟨rfl,hXW.trans hX⟩
 | false =>
   refine wp_region_held_drew (S:=(fun w'=>∀ i,w'.cell? ⟨w.heap.size,i,none⟩=(#[.int .i64 7,.int .i64 base,.int .i64 loc,.int .i64 n,.int .i64 wr,.int .i64 (-1),.int .i64 top]:Array Value)[i]?)) rfl (hS _ hX) (fun hHeld=>?_)
   refine tkb 0 ?_
   iterate 3
    refine tkn (v:=?_) rfl (by kernel_rfl) (fun _ _ _ h=>h) (by assumption) ?_ ?_
    rotate_left
    · (intro w hSw;(try dsimp only at hSw);go_simp;try with_reducible rfl)
    try simp only [put_pack]
   refine tke ?_
   refine wpAnyH_ready (rs:=[3]) (by kernel_rfl) (by simp) ?_
   refine AllReadyH.cons rfl (fun K hKK=>?_) (AllReadyH.nil)
   go_simp
   refine (hC _).mono ?_
   rintro e w2 ⟨rfl,hx⟩
   replace hX:=hX.trans hx
   clear hx
   refine hKK.out _ _ (hS _ hX) (fun hHeld=>?_)
   clear hKK K
   try dsimp only
   refine wpAnyH_ready (rs:=[4]) (by kernel_rfl) (by simp) ?_
   refine AllReadyH.cons rfl (fun K hKK=>?_) (AllReadyH.nil)
   go_simp
   refine (hW1 _).mono ?_
   rintro e w' ⟨rfl,rfl⟩
   refine hKK.out _ _ (hS _ hX) (fun hHeld=>?_)
   clear hKK K
   try dsimp only
   refine tk 5 (v:=?_) rfl (by kernel_rfl) (fun _ _ _ h=>h) (by assumption) ?_ ?_
   rotate_left
   · (intro w hSw;(try dsimp only at hSw);go_simp;try with_reducible rfl)
   try simp only [put_pack]
   refine sk 6 rfl (by kernel_rfl) (fun _ _ _ h=>h) (by assumption) ?_
   try simp only [put_pack]
   refine sk 7 rfl (by kernel_rfl) (fun _ _ _ h=>h) (by assumption) ?_
   try simp only [put_pack]
   refine sk 8 rfl (by kernel_rfl) (fun _ _ _ h=>h) (by assumption) ?_
   try simp only [put_pack]
   refine sk 9 rfl (by kernel_rfl) (fun _ _ _ h=>h) (by assumption) ?_
   try simp only [put_pack]
   refine sk 10 rfl (by kernel_rfl) (fun _ _ _ h=>h) (by assumption) ?_
   try simp only [put_pack]
   refine tk 11 (v:=?_) rfl (by kernel_rfl) (fun _ _ _ h=>h) (by assumption) ?_ ?_
   rotate_left
   · (intro w hSw;(try dsimp only at hSw);go_simp;try with_reducible rfl)
   try simp only [put_pack]
   refine tk 12 (v:=?_) rfl (by kernel_rfl) (fun _ _ _ h=>h) (by assumption) ?_ ?_
   rotate_left
   · (intro w hSw;(try dsimp only at hSw);go_simp;try with_reducible rfl)
   try simp only [put_pack]
   refine wpAnyH_done (by kernel_rfl) ?_ _
   go_simp
   go_wp2_with fail
   go_ret
   refine⟨?_,hXW.trans hX⟩
   rfl
theorem fine_p (r:Reg)(w:World)(h:Drawn r)(hC:∀ w,Calls Tryz.prog 142 #[encR r] w fun e w'=>e=.returned (.int .i64 (cellsM r))/\Ext w w'):Calls Tryz.prog 145 #[encR r] w fun e w'=>e=.returned (.bool (fineM r))/\Ext w w':=by
 obtain⟨hk,hb,hl,hn,hw,hw6,hrd,ht⟩:=h
 have hL:=fun w=>locals_p r w hk hn
 have hz:=cells_nat r hn
 obtain⟨kind,base,loc,n,wr,rd,top⟩:=r
 simp only at hk hb hl hn hw hw6 hrd ht
 subst hrd
 unfold fineM
 rcases hk with rfl | rfl | rfl
 · exact pfine1_p base loc n wr top _ _ w hb hl hn hw ht hz hC hL
 · exact pfine6_p base loc n wr top _ _ w hb hl hn ⟨hw6 rfl,hw.2⟩ ht hz hC hL
 · exact pfine7_p base loc n wr top _ _ w hb hl hn hw ht hz hC hL
@[go_sem] theorem build_reg (a b c d e f g:Int) (w:World):(Instr.build 59 #[(0,.int .i64 a),(1,.int .i64 b),(2,.int .i64 c),(3,.int .i64 d),(4,.int .i64 e),(5,.int .i64 f),(6,.int .i64 g)]).run Tryz.prog w=.ok (.agg #[.int .i64 a,.int .i64 b,.int .i64 c,.int .i64 d,.int .i64 e,.int .i64 f,.int .i64 g]) w:=run_build w 59 _ _ (by kernel_rfl)
def LayPost (B:Nat) (w:World) (o:Option (List Reg)) (e:Ending) (w':World):Prop :=
 Ext w w'/\match o with
  | some rs=>∃ v,e=.returned (.tuple #[v,.int .i64 0])/\w'.ownsRow B 59 7 v rs.length (rs.flatMap regVals)
  | none=>∃ x:Int,x≠0/\e=.returned (.tuple #[.slice none 0 0,.int .i64 x])
theorem layFrom_cons (n mode:Int)(q:Want)(l:List Want)(b c:Int):layFrom n mode (q :: l) b c=if fineM (regOf n mode b c q) then (layFrom n mode l (b+cellsM (regOf n mode b c q)) (c+localsM (regOf n mode b c q))).map (regOf n mode b c q :: ·) else none:=rfl
theorem argsM_false {l:List Want}{n mode b c:Int}(h:¬ (1<=mode/\mode<=2/\1<=n/\n<=8/\0<=b/\0<=c)):layM l n mode b c=none:=by
 unfold layM argsM
 rw [show decide (1<=mode/\mode<=2/\1<=n/\n<=8/\0<=b/\0<=c)=false from by simpa using h]
 rfl
theorem argsM_bad {l:List Want}{n mode b c:Int}{i:Nat}{q:Want}(hq:l[i]?=some q)(h:¬ (-1<=q.wr/\q.wr<n)):layM l n mode b c=none:=by
 unfold layM argsM
 have:(l.all fun q=>decide (-1<=q.wr/\q.wr<n))=false:=by
  rw [List.all_eq_false]
  exact⟨q,List.mem_of_getElem? hq,by simpa using h⟩
 rw [this,Bool.and_false]
 rfl
theorem argsM_good {l:List Want}{n mode b c:Int}(h:1<=mode/\mode<=2/\1<=n/\n<=8/\0<=b/\0<=c)(hq:∀ (k:Nat) q,l[k]?=some q->-1<=q.wr/\q.wr<n):layM l n mode b c=layFrom n mode l b c:=by
 unfold layM argsM
 rw [show decide (1<=mode/\mode<=2/\1<=n/\n<=8/\0<=b/\0<=c)=true from by simpa using h]
 have:(l.all fun q=>decide (-1<=q.wr/\q.wr<n))=true:=by
  rw [List.all_eq_true]
  intro q hm
  obtain⟨k,hk⟩:=List.getElem?_of_mem hm
  simpa using hq k q hk
 rw [this]
 rfl
set_option maxRecDepth 100000 in
set_option maxHeartbeats 2000000 in
theorem lay_r (va:Value)(l:List Want)(n mode base loc:Int)(w:World)(h:WantsAt w va l)(hlen:l.length<=1000) :
  Calls Tryz.prog 202 #[va,.int .i64 n,.int .i64 mode,.int .i64 base,.int .i64 loc] w (LayPost w.heap.size w (layM l n mode base loc)):=by
 obtain⟨A,c,rfl,q1,q2,hv⟩:=h
 by_cases h0:1<=mode/\mode<=2/\1<=n/\n<=8/\0<=base/\0<=loc
 · have hmd:mode=1∨mode=2:=by omega
   rcases hmd with rfl | rfl
   · have hgood:=Lib.hid (fun hq=>argsM_good (l:=l) h0 hq)
     have hbad:=Lib.hid (fun (i:Nat) q hq hx=>argsM_bad (l:=l) (n:=n) (mode:=1) (b:=base) (c:=loc) (i:=i) (q:=q) hq hx)
     obtain⟨-,-,n1,n2,b1,l1⟩:=h0
     go_enter Tryz.func202,Tryz.ntmps202
     have d3:decide (n<1)=false:=by rw [decide_eq_false_iff_not];omega
     have d4:decide (8<n)=false:=by rw [decide_eq_false_iff_not];omega
     have d5:decide (base<0)=false:=by rw [decide_eq_false_iff_not];omega
     have d6:decide (loc<0)=false:=by rw [decide_eq_false_iff_not];omega
     go_wp2_with fail
     go_loopw [12] (fun i wr=>∃ j:Nat,i=.int .i64 j/\j<=l.length/\Hid (∀ (k:Nat) q,k<j->l[k]?=some q->-1<=q.wr/\q.wr<n)/\w=wr) (fun i _=>l.length-(intOf i).toNat)
     case atStart=>exact⟨0,rfl,by omega,fun k q hk=>by omega,rfl⟩
     case round =>
      obtain⟨j,rfl,hj,hs,rfl⟩:=hrel
      by_cases hl:j<l.length
      · obtain⟨q,hq⟩:∃ q,l[j]?=some q:=⟨_,List.getElem?_eq_getElem hl⟩
        obtain⟨b,rfl,hb,e1,e2⟩:=want_at hv hq
        by_cases f1:q.wr < -1
        · have d7:decide (q.wr < -1)=true:=by simpa using f1
          have hf:=Lib.hid (hbad.out j q hq (by omega))
          clear hq hgood hbad hs
          go_wp2_with fail
          rw [hf.out]
          refine bodyPost_ret (v:=.tuple #[.slice none 0 0,.int .i64 1]) (by simp [results,Tryz.results202,go_sem]) rfl ?_
          exact⟨Ext.refl _,1,by decide,rfl⟩
        · have d7:decide (q.wr < -1)=false:=by rw [decide_eq_false_iff_not];omega
          by_cases f2:n<=q.wr
          · have d8:decide (n<=q.wr)=true:=by simpa using f2
            have hf:=Lib.hid (hbad.out j q hq (by omega))
            clear hq hgood hbad hs
            go_wp2_with fail
            rw [hf.out]
            refine bodyPost_ret (v:=.tuple #[.slice none 0 0,.int .i64 1]) (by simp [results,Tryz.results202,go_sem]) rfl ?_
            exact⟨Ext.refl _,1,by decide,rfl⟩
          · have d8:decide (n<=q.wr)=false:=by rw [decide_eq_false_iff_not];omega
            have hs2:Hid (∀ (k:Nat) q,k<j+1->l[k]?=some q->-1<=q.wr/\q.wr<n):=Lib.hid fun k q' hk hq'=>by
             by_cases e:k=j
             · subst e
               rw [hq] at hq'
               obtain rfl:q=q':=by simpa using hq'
               omega
             · exact hs.out k q' (by omega) hq'
            clear hq hs hgood hbad
            go_wp2_with fail
            refine⟨⟨j+1,by go_num,by omega,hs2,by trivial⟩,?_⟩
            simp [intOf];omega
      · have hlay:=Lib.hid (hgood.out fun k q hq=>hs.out k q (by have:=(List.getElem?_eq_some_iff.1 hq).1;omega) hq)
        have hwr:=Lib.hid (fun (k:Nat) (q:Want) (hq:l[k]?=some q)=>hs.out k q (by have:=(List.getElem?_eq_some_iff.1 hq).1;omega) hq)
        clear hgood hbad hs
        go_wp2_with fail
        go_loopw [3,4,13,14] (fun b' c' v i wr=>∃ (j:Nat) (bi ci:Int) (pre:List Reg),b'=.int .i64 bi/\c'=.int .i64 ci/\i=.int .i64 j/\j<=l.length/\pre.length=j/\0<=bi/\0<=ci/\Hid (layFrom n 1 l base loc=(layFrom n 1 (l.drop j) bi ci).map (pre++·))/\wr.ownsRow w.heap.size 59 7 v j (pre.flatMap regVals)/\Ext w wr) (fun _ _ _ i _=>l.length-(intOf i).toNat)
        case atStart=>exact⟨0,base,loc,[],rfl,rfl,rfl,by omega,rfl,b1,l1,by unfold Hid;simp,World.ownsRow_nil _ _ _ _,Ext.refl _⟩
        case round =>
         obtain⟨j,bi,ci,pre,rfl,rfl,rfl,hj,hpl,hbi,hci,hM,hown,hE⟩:=hrel
         by_cases hl:j<l.length
         · obtain⟨q,hq⟩:∃ q,l[j]?=some q:=⟨_,List.getElem?_eq_getElem hl⟩
           obtain⟨b,rfl,hb,e1,e2⟩:=want_at (hv.ext hE) hq
           obtain⟨w1,w2⟩:=hwr.out j q hq
           have hdr:l.drop j=q :: l.drop (j+1):=by
            rw [List.drop_eq_getElem_cons hl]
            congr 1
            rw [List.getElem?_eq_getElem hl] at hq
            simpa using hq
           have hMh:=Lib.hid hM
           have hownh:=Lib.hid hown
           have hdrh:=Lib.hid hdr
           clear hM hown hdr hq
           have hS:∀ w',Ext wr w'->w'.cell? ⟨b,j*2,none⟩=some (.int .i64 q.wr)/\w'.cell? ⟨b,j*2+1,none⟩=some (.int .i64 q.top):=fun w' hx=>⟨(hx.cell (p:=⟨b,j*2,none⟩) hb).trans e1,(hx.cell (p:=⟨b,j*2+1,none⟩) hb).trans e2⟩
           go_upto_region 12 with fail
           go_cut [15] (fun r wx=>r=.pointer (some ⟨wr.heap.size,0,none⟩)/\wx=(wr.alloc (.cells #[.int .i64 1,.int .i64 bi,.int .i64 ci,.int .i64 n,.int .i64 q.wr,.int .i64 (-1),.int .i64 (clamp q.top 255)] 59)).drew)
           case first =>
            go_region_held2 (fun w'=>w'.cell? ⟨b,j*2,none⟩=some (.int .i64 q.wr)/\w'.cell? ⟨b,j*2+1,none⟩=some (.int .i64 q.top)) (first | exact hS _ ((Ext.refl _).drew) | (refine hS _ ?_;repeat first | with_reducible exact Ext.refl _ | with_reducible refine Ext.drew ?_ | with_reducible refine Ext.setCell ?_ (Nat.le_refl _) _ | with_reducible refine Ext.alloc ?_ _))
             (first
               | (go_at_call 178
                  refine (clamp_r _ _ _).mono ?_
                  rintro e w' ⟨rfl,rfl⟩))
            all_goals
             go_wp2_with fail
             go_meet
             exact⟨rfl,rfl⟩
           case rest =>
            obtain⟨rfl,rfl⟩:=hcut
            have g1:=Blk.new wr (.cells #[.int .i64 1,.int .i64 bi,.int .i64 ci,.int .i64 n,.int .i64 q.wr,.int .i64 (-1),.int .i64 (clamp q.top 255)] 59)
            have x1:Ext wr (wr.alloc (.cells #[.int .i64 1,.int .i64 bi,.int .i64 ci,.int .i64 n,.int .i64 q.wr,.int .i64 (-1),.int .i64 (clamp q.top 255)] 59)).drew:=((Ext.refl wr).alloc _).drew
            replace g1:=g1.drew
            generalize World.drew _=W1 at *
            have c_1:=g1.cells
            have fz:=frozen_of_heap g1
            go_upto_if 82 with fail
            go_cut [15] (fun r wx=>r=.pointer (some ⟨wr.heap.size,0,none⟩)/\Blk wx wr.heap.size (.cells #[.int .i64 1,.int .i64 bi,.int .i64 ci,.int .i64 n,.int .i64 q.wr,.int .i64 (-1),.int .i64 (topM q.top)] 59)/\Ext wr wx)
            case first =>
             by_cases hz:clamp q.top 255=0
             · have hz2:(clamp q.top 255==0)=true:=by simpa using hz
               go_wp2_with fail
               go_meet
               refine⟨rfl,?_,x1.setCell (Nat.le_refl _) _⟩
               have:=heap_setCell (i:=6) g1 (.int .i64 1)
               rw [show topM q.top=1 from by unfold topM;rw [if_pos hz]]
               exact this
             · have hz2:(clamp q.top 255==0)=false:=by simpa using hz
               go_wp2_with fail
               go_meet
               refine⟨rfl,?_,x1⟩
               rw [show topM q.top=clamp q.top 255 from by unfold topM;rw [if_neg hz]]
               exact g1
            case rest =>
             obtain⟨rfl,g2,x2⟩:=hcut
             clear g1 x1 c_1 fz W1
             obtain⟨e3,e4⟩:=hS wc x2
             have c_2:=g2.cells
             have fz:=frozen_of_heap g2
             have hk:kindM 1 q.wr=1:=by unfold kindM;rw [if_neg (by omega)]
             have hrg:regOf n 1 bi ci q=⟨1,bi,ci,n,q.wr,-1,topM q.top⟩:=by unfold regOf;rw [hk]
             have htm:=topM_bd q.top
             have hdn:Drawn ⟨1,bi,ci,n,q.wr,-1,topM q.top⟩:=⟨by simp,hbi,hci,⟨n1,n2⟩,⟨w1,w2⟩,(fun h=>by cases h),rfl,htm⟩
             have hlf:=Lib.hid (show layFrom n 1 (l.drop j) bi ci=if fineM ⟨1,bi,ci,n,q.wr,-1,topM q.top⟩ then (layFrom n 1 (l.drop (j+1)) (bi+cellsM ⟨1,bi,ci,n,q.wr,-1,topM q.top⟩) (ci+localsM ⟨1,bi,ci,n,q.wr,-1,topM q.top⟩)).map (⟨1,bi,ci,n,q.wr,-1,topM q.top⟩ :: ·) else none from by rw [hdrh.out,layFrom_cons,hrg])
             have hFF:=fun W=>fine_r ⟨1,bi,ci,n,q.wr,-1,topM q.top⟩ W hdn
             have hCC:=fun W=>cells_r ⟨1,bi,ci,n,q.wr,-1,topM q.top⟩ W (by simp) ⟨n1,n2⟩
             have hLL:=fun W=>locals_r ⟨1,bi,ci,n,q.wr,-1,topM q.top⟩ W (by simp) ⟨n1,n2⟩
             have hcn:=cells_nat ⟨1,bi,ci,n,q.wr,-1,topM q.top⟩ ⟨n1,n2⟩
             have hfb:fineM ⟨1,bi,ci,n,q.wr,-1,topM q.top⟩=true->bi<=32768/\ci<=32768:=by
              unfold fineM
              simp only [Bool.and_eq_true,decide_eq_true_eq]
              omega
             clear hdn hk hrg htm hdrh
             unfold encR at hFF hCC hLL
             generalize topM q.top=tp at *
             generalize cellsM _=C at *
             generalize localsM _=D at *
             generalize hfm:fineM _=F at *
             clear hfm
             go_wp2_with fail
             have g3:=g2
             have x3:=x2
             generalize wc=W at *
             clear g2 x2 c_2 fz e3 e4
             refine (hFF _).mono ?_
             rintro e w3 ⟨rfl,hx⟩
             clear hFF
             replace g3:=g3.ext hx
             replace x3:=x3.trans hx
             clear hx
             have c_3:=g3.cells
             cases F with
             | false =>
               have hres:=Lib.hid (show layM l n 1 base loc=none from by rw [hlay.out,hMh.out,hlf.out];rfl)
               go_wp2_with fail
               rw [hres.out]
               exact bodyPost_ret (v:=.tuple #[.slice none 0 0,.int .i64 6]) (by simp [results,Tryz.results202,go_sem]) rfl ⟨hE.trans x3,6,by decide,rfl⟩
             | true =>
               obtain⟨hb1,hb2⟩:=hfb rfl
               have s1:=IntWalk.i64_in (bi+C) (by omega)
               have s2:=IntWalk.i64_in (ci+D) (by omega)
               have hown3:=row_ext hownh.out x3
               have hRn:Hid (u13.ownBlock≠some wr.heap.size):=Lib.hid fun e=>by have:=(hownh.out.lt _ e).2;omega
               have hE3:=hE.trans x3
               have hM2:=Lib.hid (show layFrom n 1 l base loc=(layFrom n 1 (l.drop (j+1)) (bi+C) (ci+D)).map ((pre++[⟨1,bi,ci,n,q.wr,-1,tp⟩])++·) from by
                rw [hMh.out,hlf.out]
                simp only [if_true,Option.map_map]
                congr 1
                funext x
                simp)
               clear hfb hlf hMh hownh hb1 hb2
               go_wp2_with (at_builtin;refine append_rec info_reg Tryz.underlying195 rfl (by decide) (by decide) rfl _ _ rfl _ j (pre.flatMap regVals) [.int .i64 1,.int .i64 bi,.int .i64 ci,.int .i64 n,.int .i64 q.wr,.int .i64 (-1),.int .i64 tp] hE3 hown3 rfl rfl rfl (by simp [Value.oneCell']) (by omega) ?_)
               intro v' w4 ho4 hx4 hbk
               have g4:Blk w4 wr.heap.size _:=(hbk _ g3.lt hRn.out).trans g3
               have c_4:=g4.cells
               clear hbk hown3 hE3 c_3 hRn g3 x3
               go_wp2_with fail
               refine (hCC _).mono ?_
               rintro e w5 ⟨rfl,hx⟩
               replace g4:=g4.ext hx
               replace ho4:=row_ext ho4 hx
               replace hx4:=hx4.trans hx
               clear c_4 hx hCC
               have c_4:=g4.cells
               go_wp2_with fail
               refine (hLL _).mono ?_
               rintro e w6 ⟨rfl,hx⟩
               replace ho4:=row_ext ho4 hx
               replace hx4:=hx4.trans hx
               clear c_4 g4 hx hLL
               have ho5:=Lib.hid ho4
               clear ho4
               go_wp2_with fail
               refine⟨⟨j+1,bi+C,ci+D,pre++[⟨1,bi,ci,n,q.wr,-1,tp⟩],rfl,rfl,by go_num,by omega,by simp [hpl],by omega,by omega,hM2,by rw [List.flatMap_append];exact ho5.out,hx4⟩,?_⟩
               simp [intOf];omega
         · have hf:layFrom n 1 l base loc=some pre:=by
            rw [hM.out,List.drop_eq_nil_of_le (by omega)]
            simp [layFrom]
           have hres:=Lib.hid (hlay.out.trans hf)
           clear hM hf hlay hwr
           have hownh:=Lib.hid hown
           clear hown
           go_wp2_with fail
           rw [hres.out]
           refine bodyPost_ret (v:=.tuple #[u13,.int .i64 0]) (by simp [results,Tryz.results202,go_sem]) rfl ?_
           exact⟨hE,u13,rfl,by rw [hpl];exact hownh.out⟩
   · have hgood:=Lib.hid (fun hq=>argsM_good (l:=l) h0 hq)
     have hbad:=Lib.hid (fun (i:Nat) q hq hx=>argsM_bad (l:=l) (n:=n) (mode:=2) (b:=base) (c:=loc) (i:=i) (q:=q) hq hx)
     obtain⟨-,-,n1,n2,b1,l1⟩:=h0
     go_enter Tryz.func202,Tryz.ntmps202
     have d3:decide (n<1)=false:=by rw [decide_eq_false_iff_not];omega
     have d4:decide (8<n)=false:=by rw [decide_eq_false_iff_not];omega
     have d5:decide (base<0)=false:=by rw [decide_eq_false_iff_not];omega
     have d6:decide (loc<0)=false:=by rw [decide_eq_false_iff_not];omega
     go_wp2_with fail
     go_loopw [12] (fun i wr=>∃ j:Nat,i=.int .i64 j/\j<=l.length/\Hid (∀ (k:Nat) q,k<j->l[k]?=some q->-1<=q.wr/\q.wr<n)/\w=wr) (fun i _=>l.length-(intOf i).toNat)
     case atStart=>exact⟨0,rfl,by omega,fun k q hk=>by omega,rfl⟩
     case round =>
      obtain⟨j,rfl,hj,hs,rfl⟩:=hrel
      by_cases hl:j<l.length
      · obtain⟨q,hq⟩:∃ q,l[j]?=some q:=⟨_,List.getElem?_eq_getElem hl⟩
        obtain⟨b,rfl,hb,e1,e2⟩:=want_at hv hq
        by_cases f1:q.wr < -1
        · have d7:decide (q.wr < -1)=true:=by simpa using f1
          have hf:=Lib.hid (hbad.out j q hq (by omega))
          clear hq hgood hbad hs
          go_wp2_with fail
          rw [hf.out]
          refine bodyPost_ret (v:=.tuple #[.slice none 0 0,.int .i64 1]) (by simp [results,Tryz.results202,go_sem]) rfl ?_
          exact⟨Ext.refl _,1,by decide,rfl⟩
        · have d7:decide (q.wr < -1)=false:=by rw [decide_eq_false_iff_not];omega
          by_cases f2:n<=q.wr
          · have d8:decide (n<=q.wr)=true:=by simpa using f2
            have hf:=Lib.hid (hbad.out j q hq (by omega))
            clear hq hgood hbad hs
            go_wp2_with fail
            rw [hf.out]
            refine bodyPost_ret (v:=.tuple #[.slice none 0 0,.int .i64 1]) (by simp [results,Tryz.results202,go_sem]) rfl ?_
            exact⟨Ext.refl _,1,by decide,rfl⟩
          · have d8:decide (n<=q.wr)=false:=by rw [decide_eq_false_iff_not];omega
            have hs2:Hid (∀ (k:Nat) q,k<j+1->l[k]?=some q->-1<=q.wr/\q.wr<n):=Lib.hid fun k q' hk hq'=>by
             by_cases e:k=j
             · subst e
               rw [hq] at hq'
               obtain rfl:q=q':=by simpa using hq'
               omega
             · exact hs.out k q' (by omega) hq'
            clear hq hs hgood hbad
            go_wp2_with fail
            refine⟨⟨j+1,by go_num,by omega,hs2,by trivial⟩,?_⟩
            simp [intOf];omega
      · have hlay:=Lib.hid (hgood.out fun k q hq=>hs.out k q (by have:=(List.getElem?_eq_some_iff.1 hq).1;omega) hq)
        have hwr:=Lib.hid (fun (k:Nat) (q:Want) (hq:l[k]?=some q)=>hs.out k q (by have:=(List.getElem?_eq_some_iff.1 hq).1;omega) hq)
        clear hgood hbad hs
        go_wp2_with fail
        go_loopw [3,4,13,14] (fun b' c' v i wr=>∃ (j:Nat) (bi ci:Int) (pre:List Reg),b'=.int .i64 bi/\c'=.int .i64 ci/\i=.int .i64 j/\j<=l.length/\pre.length=j/\0<=bi/\0<=ci/\Hid (layFrom n 2 l base loc=(layFrom n 2 (l.drop j) bi ci).map (pre++·))/\wr.ownsRow w.heap.size 59 7 v j (pre.flatMap regVals)/\Ext w wr) (fun _ _ _ i _=>l.length-(intOf i).toNat)
        case atStart=>exact⟨0,base,loc,[],rfl,rfl,rfl,by omega,rfl,b1,l1,by unfold Hid;simp,World.ownsRow_nil _ _ _ _,Ext.refl _⟩
        case round =>
         obtain⟨j,bi,ci,pre,rfl,rfl,rfl,hj,hpl,hbi,hci,hM,hown,hE⟩:=hrel
         by_cases hl:j<l.length
         · obtain⟨q,hq⟩:∃ q,l[j]?=some q:=⟨_,List.getElem?_eq_getElem hl⟩
           obtain⟨b,rfl,hb,e1,e2⟩:=want_at (hv.ext hE) hq
           obtain⟨w1,w2⟩:=hwr.out j q hq
           have hdr:l.drop j=q :: l.drop (j+1):=by
            rw [List.drop_eq_getElem_cons hl]
            congr 1
            rw [List.getElem?_eq_getElem hl] at hq
            simpa using hq
           have hMh:=Lib.hid hM
           have hownh:=Lib.hid hown
           have hdrh:=Lib.hid hdr
           clear hM hown hdr hq
           have hS:∀ w',Ext wr w'->w'.cell? ⟨b,j*2,none⟩=some (.int .i64 q.wr)/\w'.cell? ⟨b,j*2+1,none⟩=some (.int .i64 q.top):=fun w' hx=>⟨(hx.cell (p:=⟨b,j*2,none⟩) hb).trans e1,(hx.cell (p:=⟨b,j*2+1,none⟩) hb).trans e2⟩
           go_upto_region 12 with fail
           go_cut [15] (fun r wx=>r=.pointer (some ⟨wr.heap.size,0,none⟩)/\wx=(wr.alloc (.cells #[.int .i64 1,.int .i64 bi,.int .i64 ci,.int .i64 n,.int .i64 q.wr,.int .i64 (-1),.int .i64 (clamp q.top 255)] 59)).drew)
           case first =>
            go_region_held2 (fun w'=>w'.cell? ⟨b,j*2,none⟩=some (.int .i64 q.wr)/\w'.cell? ⟨b,j*2+1,none⟩=some (.int .i64 q.top)) (first | exact hS _ ((Ext.refl _).drew) | (refine hS _ ?_;repeat first | with_reducible exact Ext.refl _ | with_reducible refine Ext.drew ?_ | with_reducible refine Ext.setCell ?_ (Nat.le_refl _) _ | with_reducible refine Ext.alloc ?_ _))
             (first
               | (go_at_call 178
                  refine (clamp_r _ _ _).mono ?_
                  rintro e w' ⟨rfl,rfl⟩))
            all_goals
             go_wp2_with fail
             go_meet
             exact⟨rfl,rfl⟩
           case rest =>
            obtain⟨rfl,rfl⟩:=hcut
            have g1:=Blk.new wr (.cells #[.int .i64 1,.int .i64 bi,.int .i64 ci,.int .i64 n,.int .i64 q.wr,.int .i64 (-1),.int .i64 (clamp q.top 255)] 59)
            have x1:Ext wr (wr.alloc (.cells #[.int .i64 1,.int .i64 bi,.int .i64 ci,.int .i64 n,.int .i64 q.wr,.int .i64 (-1),.int .i64 (clamp q.top 255)] 59)).drew:=((Ext.refl wr).alloc _).drew
            replace g1:=g1.drew
            generalize World.drew _=W1 at *
            have c_1:=g1.cells
            have fz:=frozen_of_heap g1
            go_upto_if 82 with fail
            go_cut [15] (fun r wx=>r=.pointer (some ⟨wr.heap.size,0,none⟩)/\Blk wx wr.heap.size (.cells #[.int .i64 1,.int .i64 bi,.int .i64 ci,.int .i64 n,.int .i64 q.wr,.int .i64 (-1),.int .i64 (topM q.top)] 59)/\Ext wr wx)
            case first =>
             by_cases hz:clamp q.top 255=0
             · have hz2:(clamp q.top 255==0)=true:=by simpa using hz
               go_wp2_with fail
               go_meet
               refine⟨rfl,?_,x1.setCell (Nat.le_refl _) _⟩
               have:=heap_setCell (i:=6) g1 (.int .i64 1)
               rw [show topM q.top=1 from by unfold topM;rw [if_pos hz]]
               exact this
             · have hz2:(clamp q.top 255==0)=false:=by simpa using hz
               go_wp2_with fail
               go_meet
               refine⟨rfl,?_,x1⟩
               rw [show topM q.top=clamp q.top 255 from by unfold topM;rw [if_neg hz]]
               exact g1
            case rest =>
             obtain⟨rfl,g2,x2⟩:=hcut
             clear g1 x1 c_1 fz W1
             obtain⟨e3,e4⟩:=hS wc x2
             have c_2:=g2.cells
             have fz:=frozen_of_heap g2
             by_cases hw0:0<=q.wr
             · have dw:decide (0<=q.wr)=true:=by simpa using hw0
               have dv:decide (q.wr<0)=false:=by rw [decide_eq_false_iff_not];omega
               have hk:kindM 2 q.wr=6:=by unfold kindM;rw [if_pos rfl,if_pos hw0]
               have hrg:regOf n 2 bi ci q=⟨6,bi,ci,n,q.wr,-1,topM q.top⟩:=by unfold regOf;rw [hk]
               have htm:=topM_bd q.top
               have hdn:Drawn ⟨6,bi,ci,n,q.wr,-1,topM q.top⟩:=⟨by simp,hbi,hci,⟨n1,n2⟩,⟨w1,w2⟩,fun _=>hw0,rfl,htm⟩
               have hlf:=Lib.hid (show layFrom n 2 (l.drop j) bi ci=if fineM ⟨6,bi,ci,n,q.wr,-1,topM q.top⟩ then (layFrom n 2 (l.drop (j+1)) (bi+cellsM ⟨6,bi,ci,n,q.wr,-1,topM q.top⟩) (ci+localsM ⟨6,bi,ci,n,q.wr,-1,topM q.top⟩)).map (⟨6,bi,ci,n,q.wr,-1,topM q.top⟩ :: ·) else none from by rw [hdrh.out,layFrom_cons,hrg])
               have hFF:=fun W=>fine_r ⟨6,bi,ci,n,q.wr,-1,topM q.top⟩ W hdn
               have hCC:=fun W=>cells_r ⟨6,bi,ci,n,q.wr,-1,topM q.top⟩ W (by simp) ⟨n1,n2⟩
               have hLL:=fun W=>locals_r ⟨6,bi,ci,n,q.wr,-1,topM q.top⟩ W (by simp) ⟨n1,n2⟩
               have hcn:=cells_nat ⟨6,bi,ci,n,q.wr,-1,topM q.top⟩ ⟨n1,n2⟩
               have hfb:fineM ⟨6,bi,ci,n,q.wr,-1,topM q.top⟩=true->bi<=32768/\ci<=32768:=by
                unfold fineM
                simp only [Bool.and_eq_true,decide_eq_true_eq]
                omega
               clear hdn hk hrg htm hdrh
               unfold encR at hFF hCC hLL
               generalize topM q.top=tp at *
               generalize cellsM _=C at *
               generalize localsM _=D at *
               generalize hfm:fineM _=F at *
               clear hfm
               go_wp2_with fail
               have g3:=heap_setCell (i:=0) g2 (.int .i64 6)
               have x3:=x2.setCell (p:=⟨wr.heap.size,0,none⟩) (Nat.le_refl _) (.int .i64 6)
               replace g3:Blk (wc.setCell ⟨wr.heap.size,0,none⟩ (.int .i64 6)) wr.heap.size (.cells #[.int .i64 6,.int .i64 bi,.int .i64 ci,.int .i64 n,.int .i64 q.wr,.int .i64 (-1),.int .i64 tp] 59):=g3
               generalize wc.setCell _ _=W at *
               clear g2 x2 c_2 fz e3 e4
               refine (hFF _).mono ?_
               rintro e w3 ⟨rfl,hx⟩
               clear hFF
               replace g3:=g3.ext hx
               replace x3:=x3.trans hx
               clear hx
               have c_3:=g3.cells
               cases F with
               | false =>
                 have hres:=Lib.hid (show layM l n 2 base loc=none from by rw [hlay.out,hMh.out,hlf.out];rfl)
                 go_wp2_with fail
                 rw [hres.out]
                 exact bodyPost_ret (v:=.tuple #[.slice none 0 0,.int .i64 6]) (by simp [results,Tryz.results202,go_sem]) rfl ⟨hE.trans x3,6,by decide,rfl⟩
               | true =>
                 obtain⟨hb1,hb2⟩:=hfb rfl
                 have s1:=IntWalk.i64_in (bi+C) (by omega)
                 have s2:=IntWalk.i64_in (ci+D) (by omega)
                 have hown3:=row_ext hownh.out x3
                 have hRn:Hid (u13.ownBlock≠some wr.heap.size):=Lib.hid fun e=>by have:=(hownh.out.lt _ e).2;omega
                 have hE3:=hE.trans x3
                 have hM2:=Lib.hid (show layFrom n 2 l base loc=(layFrom n 2 (l.drop (j+1)) (bi+C) (ci+D)).map ((pre++[⟨6,bi,ci,n,q.wr,-1,tp⟩])++·) from by
                  rw [hMh.out,hlf.out]
                  simp only [if_true,Option.map_map]
                  congr 1
                  funext x
                  simp)
                 clear hfb hlf hMh hownh hb1 hb2
                 go_wp2_with (at_builtin;refine append_rec info_reg Tryz.underlying195 rfl (by decide) (by decide) rfl _ _ rfl _ j (pre.flatMap regVals) [.int .i64 6,.int .i64 bi,.int .i64 ci,.int .i64 n,.int .i64 q.wr,.int .i64 (-1),.int .i64 tp] hE3 hown3 rfl rfl rfl (by simp [Value.oneCell']) (by omega) ?_)
                 intro v' w4 ho4 hx4 hbk
                 have g4:Blk w4 wr.heap.size _:=(hbk _ g3.lt hRn.out).trans g3
                 have c_4:=g4.cells
                 clear hbk hown3 hE3 c_3 hRn g3 x3
                 go_wp2_with fail
                 refine (hCC _).mono ?_
                 rintro e w5 ⟨rfl,hx⟩
                 replace g4:=g4.ext hx
                 replace ho4:=row_ext ho4 hx
                 replace hx4:=hx4.trans hx
                 clear c_4 hx hCC
                 have c_4:=g4.cells
                 go_wp2_with fail
                 refine (hLL _).mono ?_
                 rintro e w6 ⟨rfl,hx⟩
                 replace ho4:=row_ext ho4 hx
                 replace hx4:=hx4.trans hx
                 clear c_4 g4 hx hLL
                 have ho5:=Lib.hid ho4
                 clear ho4
                 go_wp2_with fail
                 refine⟨⟨j+1,bi+C,ci+D,pre++[⟨6,bi,ci,n,q.wr,-1,tp⟩],rfl,rfl,by go_num,by omega,by simp [hpl],by omega,by omega,hM2,by rw [List.flatMap_append];exact ho5.out,hx4⟩,?_⟩
                 simp [intOf];omega
             · have dw:decide (0<=q.wr)=false:=by simpa using hw0
               have dv:decide (q.wr<0)=true:=by rw [decide_eq_true_eq];omega
               have hk:kindM 2 q.wr=7:=by unfold kindM;rw [if_pos rfl,if_neg hw0]
               have hrg:regOf n 2 bi ci q=⟨7,bi,ci,n,q.wr,-1,topM q.top⟩:=by unfold regOf;rw [hk]
               have htm:=topM_bd q.top
               have hdn:Drawn ⟨7,bi,ci,n,q.wr,-1,topM q.top⟩:=⟨by simp,hbi,hci,⟨n1,n2⟩,⟨w1,w2⟩,(fun h=>by cases h),rfl,htm⟩
               have hlf:=Lib.hid (show layFrom n 2 (l.drop j) bi ci=if fineM ⟨7,bi,ci,n,q.wr,-1,topM q.top⟩ then (layFrom n 2 (l.drop (j+1)) (bi+cellsM ⟨7,bi,ci,n,q.wr,-1,topM q.top⟩) (ci+localsM ⟨7,bi,ci,n,q.wr,-1,topM q.top⟩)).map (⟨7,bi,ci,n,q.wr,-1,topM q.top⟩ :: ·) else none from by rw [hdrh.out,layFrom_cons,hrg])
               have hFF:=fun W=>fine_r ⟨7,bi,ci,n,q.wr,-1,topM q.top⟩ W hdn
               have hCC:=fun W=>cells_r ⟨7,bi,ci,n,q.wr,-1,topM q.top⟩ W (by simp) ⟨n1,n2⟩
               have hLL:=fun W=>locals_r ⟨7,bi,ci,n,q.wr,-1,topM q.top⟩ W (by simp) ⟨n1,n2⟩
               have hcn:=cells_nat ⟨7,bi,ci,n,q.wr,-1,topM q.top⟩ ⟨n1,n2⟩
               have hfb:fineM ⟨7,bi,ci,n,q.wr,-1,topM q.top⟩=true->bi<=32768/\ci<=32768:=by
                unfold fineM
                simp only [Bool.and_eq_true,decide_eq_true_eq]
                omega
               clear hdn hk hrg htm hdrh
               unfold encR at hFF hCC hLL
               generalize topM q.top=tp at *
               generalize cellsM _=C at *
               generalize localsM _=D at *
               generalize hfm:fineM _=F at *
               clear hfm
               go_wp2_with fail
               have g3:=heap_setCell (i:=0) g2 (.int .i64 7)
               have x3:=x2.setCell (p:=⟨wr.heap.size,0,none⟩) (Nat.le_refl _) (.int .i64 7)
               replace g3:Blk (wc.setCell ⟨wr.heap.size,0,none⟩ (.int .i64 7)) wr.heap.size (.cells #[.int .i64 7,.int .i64 bi,.int .i64 ci,.int .i64 n,.int .i64 q.wr,.int .i64 (-1),.int .i64 tp] 59):=g3
               generalize wc.setCell _ _=W at *
               clear g2 x2 c_2 fz e3 e4
               refine (hFF _).mono ?_
               rintro e w3 ⟨rfl,hx⟩
               clear hFF
               replace g3:=g3.ext hx
               replace x3:=x3.trans hx
               clear hx
               have c_3:=g3.cells
               cases F with
               | false =>
                 have hres:=Lib.hid (show layM l n 2 base loc=none from by rw [hlay.out,hMh.out,hlf.out];rfl)
                 go_wp2_with fail
                 rw [hres.out]
                 exact bodyPost_ret (v:=.tuple #[.slice none 0 0,.int .i64 6]) (by simp [results,Tryz.results202,go_sem]) rfl ⟨hE.trans x3,6,by decide,rfl⟩
               | true =>
                 obtain⟨hb1,hb2⟩:=hfb rfl
                 have s1:=IntWalk.i64_in (bi+C) (by omega)
                 have s2:=IntWalk.i64_in (ci+D) (by omega)
                 have hown3:=row_ext hownh.out x3
                 have hRn:Hid (u13.ownBlock≠some wr.heap.size):=Lib.hid fun e=>by have:=(hownh.out.lt _ e).2;omega
                 have hE3:=hE.trans x3
                 have hM2:=Lib.hid (show layFrom n 2 l base loc=(layFrom n 2 (l.drop (j+1)) (bi+C) (ci+D)).map ((pre++[⟨7,bi,ci,n,q.wr,-1,tp⟩])++·) from by
                  rw [hMh.out,hlf.out]
                  simp only [if_true,Option.map_map]
                  congr 1
                  funext x
                  simp)
                 clear hfb hlf hMh hownh hb1 hb2
                 go_wp2_with (at_builtin;refine append_rec info_reg Tryz.underlying195 rfl (by decide) (by decide) rfl _ _ rfl _ j (pre.flatMap regVals) [.int .i64 7,.int .i64 bi,.int .i64 ci,.int .i64 n,.int .i64 q.wr,.int .i64 (-1),.int .i64 tp] hE3 hown3 rfl rfl rfl (by simp [Value.oneCell']) (by omega) ?_)
                 intro v' w4 ho4 hx4 hbk
                 have g4:Blk w4 wr.heap.size _:=(hbk _ g3.lt hRn.out).trans g3
                 have c_4:=g4.cells
                 clear hbk hown3 hE3 c_3 hRn g3 x3
                 go_wp2_with fail
                 refine (hCC _).mono ?_
                 rintro e w5 ⟨rfl,hx⟩
                 replace g4:=g4.ext hx
                 replace ho4:=row_ext ho4 hx
                 replace hx4:=hx4.trans hx
                 clear c_4 hx hCC
                 have c_4:=g4.cells
                 go_wp2_with fail
                 refine (hLL _).mono ?_
                 rintro e w6 ⟨rfl,hx⟩
                 replace ho4:=row_ext ho4 hx
                 replace hx4:=hx4.trans hx
                 clear c_4 g4 hx hLL
                 have ho5:=Lib.hid ho4
                 clear ho4
                 go_wp2_with fail
                 refine⟨⟨j+1,bi+C,ci+D,pre++[⟨7,bi,ci,n,q.wr,-1,tp⟩],rfl,rfl,by go_num,by omega,by simp [hpl],by omega,by omega,hM2,by rw [List.flatMap_append];exact ho5.out,hx4⟩,?_⟩
                 simp [intOf];omega
         · have hf:layFrom n 2 l base loc=some pre:=by
            rw [hM.out,List.drop_eq_nil_of_le (by omega)]
            simp [layFrom]
           have hres:=Lib.hid (hlay.out.trans hf)
           clear hM hf hlay hwr
           have hownh:=Lib.hid hown
           clear hown
           go_wp2_with fail
           rw [hres.out]
           refine bodyPost_ret (v:=.tuple #[u13,.int .i64 0]) (by simp [results,Tryz.results202,go_sem]) rfl ?_
           exact⟨hE,u13,rfl,by rw [hpl];exact hownh.out⟩
 · rw [argsM_false h0]
   go_enter Tryz.func202,Tryz.ntmps202
   have hfin:LayPost w.heap.size w none (.returned (.tuple #[.slice none 0 0,.int .i64 1])) w:=⟨Ext.refl _,1,by decide,rfl⟩
   by_cases m1:mode<1
   · have d1:decide (mode<1)=true:=by simpa using m1
     go_wp2_with fail
     exact bodyPost_ret (v:=.tuple #[.slice none 0 0,.int .i64 1]) (by simp [results,Tryz.results202,go_sem]) rfl hfin
   · have d1:decide (mode<1)=false:=by simpa using m1
     by_cases m2:2<mode
     · have d2:decide (2<mode)=true:=by simpa using m2
       go_wp2_with fail
       exact bodyPost_ret (v:=.tuple #[.slice none 0 0,.int .i64 1]) (by simp [results,Tryz.results202,go_sem]) rfl hfin
     · have d2:decide (2<mode)=false:=by simpa using m2
       by_cases m3:n<1
       · have d3:decide (n<1)=true:=by simpa using m3
         go_wp2_with fail
         exact bodyPost_ret (v:=.tuple #[.slice none 0 0,.int .i64 1]) (by simp [results,Tryz.results202,go_sem]) rfl hfin
       · have d3:decide (n<1)=false:=by simpa using m3
         by_cases m4:8<n
         · have d4:decide (8<n)=true:=by simpa using m4
           go_wp2_with fail
           exact bodyPost_ret (v:=.tuple #[.slice none 0 0,.int .i64 1]) (by simp [results,Tryz.results202,go_sem]) rfl hfin
         · have d4:decide (8<n)=false:=by simpa using m4
           by_cases m5:base<0
           · have d5:decide (base<0)=true:=by simpa using m5
             go_wp2_with fail
             exact bodyPost_ret (v:=.tuple #[.slice none 0 0,.int .i64 1]) (by simp [results,Tryz.results202,go_sem]) rfl hfin
           · have d5:decide (base<0)=false:=by simpa using m5
             have d6:decide (loc<0)=true:=by rw [decide_eq_true_eq];omega
             go_wp2_with fail
             exact bodyPost_ret (v:=.tuple #[.slice none 0 0,.int .i64 1]) (by simp [results,Tryz.results202,go_sem]) rfl hfin
@[go_sem] theorem build_regw (a b c d e:Int) (w:World):(Instr.build 59 #[(0,.int .i64 a),(3,.int .i64 b),(4,.int .i64 c),(5,.int .i64 d),(6,.int .i64 e)]).run Tryz.prog w=.ok (.agg #[.int .i64 a,.int .i64 0,.int .i64 0,.int .i64 b,.int .i64 c,.int .i64 d,.int .i64 e]) w:=run_build w 59 _ _ (by kernel_rfl)
theorem topM_max (t:Int):max 1 (min t 255)=topM t:=by
 unfold topM clamp within
 split <;> omega
theorem want_p (q:Want)(n mode:Int)(w:World)(hm:mode=1∨mode=2)(hq:-1<=q.wr):Calls Tryz.prog 292 #[.agg #[.int .i64 q.wr,.int .i64 q.top],.int .i64 n,.int .i64 mode] w fun e w'=>e=.returned (encR (regOf n mode 0 0 q))/\Ext w w':=by
 obtain⟨wr,top⟩:=q
 unfold encR regOf
 simp only at hq ⊢
 have ht:=topM_max top
 rcases hm with rfl | rfl
 · rw [show kindM 1 wr=1 from by unfold kindM;rw [if_neg (by omega)]]
   clear hq
   go_enter Tryz.func292,Tryz.ntmps292
   go_wp2_with fail
   refine bodyPost_ret (v:=.agg #[.int .i64 1,.int .i64 0,.int .i64 0,.int .i64 n,.int .i64 wr,.int .i64 (-1),.int .i64 (topM top)]) (by simp [results,Tryz.results292,go_sem]) rfl ⟨rfl,?_⟩
   exact (((Ext.refl _).alloc _).alloc _).alloc _
 · by_cases h:wr=-1
   · rw [show kindM 2 wr=7 from by unfold kindM;rw [if_pos rfl,if_neg (by omega)]]
     have d:(wr==-1)=true:=by rw [beq_iff_eq];exact h
     clear hq h
     go_enter Tryz.func292,Tryz.ntmps292
     go_wp2_with fail
     refine bodyPost_ret (v:=.agg #[.int .i64 7,.int .i64 0,.int .i64 0,.int .i64 n,.int .i64 wr,.int .i64 (-1),.int .i64 (topM top)]) (by simp [results,Tryz.results292,go_sem]) rfl ⟨rfl,?_⟩
     exact (((Ext.refl _).alloc _).alloc _).alloc _
   · rw [show kindM 2 wr=6 from by unfold kindM;rw [if_pos rfl,if_pos (by omega)]]
     have d:(wr==-1)=false:=by rw [beq_eq_false_iff_ne];exact h
     clear hq h
     go_enter Tryz.func292,Tryz.ntmps292
     go_wp2_with fail
     refine bodyPost_ret (v:=.agg #[.int .i64 6,.int .i64 0,.int .i64 0,.int .i64 n,.int .i64 wr,.int .i64 (-1),.int .i64 (topM top)]) (by simp [results,Tryz.results292,go_sem]) rfl ⟨rfl,?_⟩
     exact (((Ext.refl _).alloc _).alloc _).alloc _
set_option maxRecDepth 100000 in
set_option maxHeartbeats 2000000 in
theorem lay_p (va:Value)(l:List Want)(n mode base loc:Int)(w:World)(h:WantsAt w va l)(hlen:l.length<=1000)(hC:∀ (r:Reg) w,Drawn r->r.n=n->Calls Tryz.prog 142 #[encR r] w fun e w'=>e=.returned (.int .i64 (cellsM r))/\Ext w w') :
  Calls Tryz.prog 208 #[va,.int .i64 n,.int .i64 mode,.int .i64 base,.int .i64 loc] w (LayPost w.heap.size w (layM l n mode base loc)):=by
 obtain⟨A,c,rfl,q1,q2,hv⟩:=h
 by_cases h0:1<=mode/\mode<=2/\1<=n/\n<=8/\0<=base/\0<=loc
 · have hmd:mode=1∨mode=2:=by omega
   rcases hmd with rfl | rfl
   · have hgood:=Lib.hid (fun hq=>argsM_good (l:=l) h0 hq)
     have hbad:=Lib.hid (fun (i:Nat) q hq hx=>argsM_bad (l:=l) (n:=n) (mode:=1) (b:=base) (c:=loc) (i:=i) (q:=q) hq hx)
     obtain⟨-,-,n1,n2,b1,l1⟩:=h0
     have d3:decide (n<1)=false:=by rw [decide_eq_false_iff_not];omega
     have d4:decide (8<n)=false:=by rw [decide_eq_false_iff_not];omega
     have d5:decide (base<0)=false:=by rw [decide_eq_false_iff_not];omega
     have d6:decide (loc<0)=false:=by rw [decide_eq_false_iff_not];omega
     go_enter Tryz.func208,Tryz.ntmps208
     go_wp2_with fail
     go_loopw [40] (fun i wr=>∃ j:Nat,i=.int .i64 j/\j<=l.length/\Hid (∀ (k:Nat) q,k<j->l[k]?=some q->-1<=q.wr/\q.wr<n)/\Ext w wr) (fun i _=>l.length-(intOf i).toNat)
     case atStart=>exact⟨0,rfl,by omega,fun k q hk=>by omega,Ext.refl _⟩
     case round =>
      obtain⟨j,rfl,hj,hs,hE⟩:=hrel
      by_cases hl:j<l.length
      · obtain⟨q,hq⟩:∃ q,l[j]?=some q:=⟨_,List.getElem?_eq_getElem hl⟩
        obtain⟨b,rfl,hb,e1,e2⟩:=want_at (hv.ext hE) hq
        have hE2:=hE.alloc (.cells #[.int .i64 q.wr,.int .i64 q.top] 228)
        by_cases f1:q.wr < -1
        · have d7:decide (q.wr < -1)=true:=by simpa using f1
          have hf:=Lib.hid (hbad.out j q hq (by omega))
          clear hq hgood hbad hs
          go_wp2_with fail
          rw [hf.out]
          refine bodyPost_ret (v:=.tuple #[.slice none 0 0,.int .i64 1]) (by simp [results,Tryz.results208,go_sem]) rfl ?_
          exact⟨hE2,1,by decide,rfl⟩
        · have d7:decide (q.wr < -1)=false:=by rw [decide_eq_false_iff_not];omega
          by_cases f2:n<=q.wr
          · have d8:decide (n<=q.wr)=true:=by simpa using f2
            have hf:=Lib.hid (hbad.out j q hq (by omega))
            clear hq hgood hbad hs
            go_wp2_with fail
            rw [hf.out]
            refine bodyPost_ret (v:=.tuple #[.slice none 0 0,.int .i64 1]) (by simp [results,Tryz.results208,go_sem]) rfl ?_
            exact⟨hE2,1,by decide,rfl⟩
          · have d8:decide (n<=q.wr)=false:=by rw [decide_eq_false_iff_not];omega
            have hs2:Hid (∀ (k:Nat) q,k<j+1->l[k]?=some q->-1<=q.wr/\q.wr<n):=Lib.hid fun k q' hk hq'=>by
             by_cases e:k=j
             · subst e
               rw [hq] at hq'
               obtain rfl:q=q':=by simpa using hq'
               omega
             · exact hs.out k q' (by omega) hq'
            have hE3:=Lib.hid hE2
            clear hq hs hgood hbad hE2
            go_wp2_with fail
            refine⟨⟨j+1,by go_num,by omega,hs2,hE3.out⟩,?_⟩
            simp [intOf];omega
      · have hlay:=Lib.hid (hgood.out fun k q hq=>hs.out k q (by have:=(List.getElem?_eq_some_iff.1 hq).1;omega) hq)
        have hwr:=Lib.hid (fun (k:Nat) (q:Want) (hq:l[k]?=some q)=>hs.out k q (by have:=(List.getElem?_eq_some_iff.1 hq).1;omega) hq)
        clear hgood hbad hs
        go_wp2_with fail
        have hE0:=Lib.hid hE
        clear hE
        go_loopw [3,4,14,56] (fun b' c' v i wr=>∃ (j:Nat) (bi ci:Int) (pre:List Reg),b'=.int .i64 bi/\c'=.int .i64 ci/\i=.int .i64 j/\j<=l.length/\pre.length=j/\0<=bi/\0<=ci/\Hid (layFrom n 1 l base loc=(layFrom n 1 (l.drop j) bi ci).map (pre++·))/\wr.ownsRow w.heap.size 59 7 v j (pre.flatMap regVals)/\Ext w wr) (fun _ _ _ i _=>l.length-(intOf i).toNat)
        case atStart=>exact⟨0,base,loc,[],rfl,rfl,rfl,by omega,rfl,b1,l1,by unfold Hid;simp,World.ownsRow_nil _ _ _ _,hE0.out⟩
        case round =>
         clear hE0
         obtain⟨j,bi,ci,pre,rfl,rfl,rfl,hj,hpl,hbi,hci,hM,hown,hE⟩:=hrel
         by_cases hl:j<l.length
         · obtain⟨q,hq⟩:∃ q,l[j]?=some q:=⟨_,List.getElem?_eq_getElem hl⟩
           obtain⟨b,rfl,hb,e1,e2⟩:=want_at (hv.ext hE) hq
           obtain⟨w1,w2⟩:=hwr.out j q hq
           have hdr:l.drop j=q :: l.drop (j+1):=by
            rw [List.drop_eq_getElem_cons hl]
            congr 1
            rw [List.getElem?_eq_getElem hl] at hq
            simpa using hq
           have hMh:=Lib.hid hM
           have hownh:=Lib.hid hown
           clear hM hown hq
           have hrk:regOf n 1 bi ci q=⟨kindM 1 q.wr,bi,ci,n,q.wr,-1,topM q.top⟩:=rfl
           have hWW:=fun W=>want_p q n 1 W (by omega) w1
           have hK:kindM 1 q.wr=1∨kindM 1 q.wr=6∨kindM 1 q.wr=7:=by unfold kindM;split <;> (try split) <;> simp
           have hK6:kindM 1 q.wr=6->0<=q.wr:=by unfold kindM;split <;> (try split) <;> omega
           have htm:=topM_bd q.top
           have hdn:Drawn ⟨kindM 1 q.wr,bi,ci,n,q.wr,-1,topM q.top⟩:=⟨hK,hbi,hci,⟨n1,n2⟩,⟨w1,w2⟩,hK6,rfl,htm⟩
           have hlf:=Lib.hid (show layFrom n 1 (l.drop j) bi ci=if fineM ⟨kindM 1 q.wr,bi,ci,n,q.wr,-1,topM q.top⟩ then (layFrom n 1 (l.drop (j+1)) (bi+cellsM ⟨kindM 1 q.wr,bi,ci,n,q.wr,-1,topM q.top⟩) (ci+localsM ⟨kindM 1 q.wr,bi,ci,n,q.wr,-1,topM q.top⟩)).map (⟨kindM 1 q.wr,bi,ci,n,q.wr,-1,topM q.top⟩ :: ·) else none from by rw [hdr,layFrom_cons,hrk])
           have hCC:=fun W=>hC ⟨kindM 1 q.wr,bi,ci,n,q.wr,-1,topM q.top⟩ W hdn rfl
           have hFF:=fun W=>fine_p ⟨kindM 1 q.wr,bi,ci,n,q.wr,-1,topM q.top⟩ W hdn hCC
           have hLL:=fun W=>locals_p ⟨kindM 1 q.wr,bi,ci,n,q.wr,-1,topM q.top⟩ W hK ⟨n1,n2⟩
           have hcn:=cells_nat ⟨kindM 1 q.wr,bi,ci,n,q.wr,-1,topM q.top⟩ ⟨n1,n2⟩
           have hfb:fineM ⟨kindM 1 q.wr,bi,ci,n,q.wr,-1,topM q.top⟩=true->bi<=32768/\ci<=32768:=by
            unfold fineM
            simp only [Bool.and_eq_true,decide_eq_true_eq]
            omega
           clear hdn hrk htm hdr hK hK6
           unfold encR regOf at hWW
           unfold encR at hFF hCC hLL
           simp only at hWW hFF hCC hLL
           generalize kindM 1 q.wr=kk at *
           generalize topM q.top=tp at *
           generalize cellsM _=C at *
           generalize localsM _=D at *
           generalize hfm:fineM _=F at *
           clear hfm
           go_wp2_with fail
           refine (hWW _).mono ?_
           rintro e w3 ⟨rfl,hx⟩
           clear hWW
           have g3:=Blk.new w3 (.cells #[.int .i64 kk,.int .i64 bi,.int .i64 ci,.int .i64 n,.int .i64 q.wr,.int .i64 (-1),.int .i64 tp] 59)
           have x3:Ext wr (w3.alloc (.cells #[.int .i64 kk,.int .i64 bi,.int .i64 ci,.int .i64 n,.int .i64 q.wr,.int .i64 (-1),.int .i64 tp] 59)):=(((Ext.refl wr).alloc _).trans hx).alloc _
           have hz3:wr.heap.size<w3.heap.size:=by have:=hx.size;simp at this;omega
           clear hx
           go_wp2_with fail
           generalize w3.alloc _=W at *
           have c_3:=g3.cells
           refine (hFF _).mono ?_
           rintro e w4 ⟨rfl,hx⟩
           clear hFF c_3
           replace g3:=g3.ext hx
           replace x3:=x3.trans hx
           clear hx
           have c_3:=g3.cells
           cases F with
           | false =>
             have hres:=Lib.hid (show layM l n 1 base loc=none from by rw [hlay.out,hMh.out,hlf.out];rfl)
             go_wp2_with fail
             rw [hres.out]
             exact bodyPost_ret (v:=.tuple #[.slice none 0 0,.int .i64 6]) (by simp [results,Tryz.results208,go_sem]) rfl ⟨hE.trans x3,6,by decide,rfl⟩
           | true =>
             obtain⟨hb1,hb2⟩:=hfb rfl
             have s1:=IntWalk.i64_in (bi+C) (by omega)
             have s2:=IntWalk.i64_in (ci+D) (by omega)
             have hown3:=row_ext hownh.out x3
             have hRn:Hid (u14.ownBlock≠some w3.heap.size):=Lib.hid fun e=>by have:=(hownh.out.lt _ e).2;omega
             have hE3:=hE.trans x3
             have hM2:=Lib.hid (show layFrom n 1 l base loc=(layFrom n 1 (l.drop (j+1)) (bi+C) (ci+D)).map ((pre++[⟨kk,bi,ci,n,q.wr,-1,tp⟩])++·) from by
              rw [hMh.out,hlf.out]
              simp only [if_true,Option.map_map]
              congr 1
              funext x
              simp)
             clear hfb hlf hMh hownh hb1 hb2
             go_wp2_with (at_builtin;refine append_rec info_reg Tryz.underlying195 rfl (by decide) (by decide) rfl _ _ rfl _ j (pre.flatMap regVals) [.int .i64 kk,.int .i64 bi,.int .i64 ci,.int .i64 n,.int .i64 q.wr,.int .i64 (-1),.int .i64 tp] hE3 hown3 rfl rfl rfl (by simp [Value.oneCell']) (by omega) ?_)
             intro v' w5 ho4 hx4 hbk
             have g4:Blk w5 w3.heap.size _:=(hbk _ g3.lt hRn.out).trans g3
             have c_4:=g4.cells
             clear hbk hown3 hE3 c_3 hRn g3 x3
             go_wp2_with fail
             refine (hCC _).mono ?_
             rintro e w6 ⟨rfl,hx⟩
             replace g4:=g4.ext hx
             replace ho4:=row_ext ho4 hx
             replace hx4:=hx4.trans hx
             clear c_4 hx hCC
             have c_4:=g4.cells
             go_wp2_with fail
             refine (hLL _).mono ?_
             rintro e w7 ⟨rfl,hx⟩
             replace ho4:=row_ext ho4 hx
             replace hx4:=hx4.trans hx
             clear c_4 g4 hx hLL
             have ho5:=Lib.hid ho4
             clear ho4
             go_wp2_with fail
             refine⟨⟨j+1,bi+C,ci+D,pre++[⟨kk,bi,ci,n,q.wr,-1,tp⟩],rfl,rfl,by go_num,by omega,by simp [hpl],by omega,by omega,hM2,by rw [List.flatMap_append];exact ho5.out,hx4⟩,?_⟩
             simp [intOf];omega
         · have hf:layFrom n 1 l base loc=some pre:=by
            rw [hM.out,List.drop_eq_nil_of_le (by omega)]
            simp [layFrom]
           have hres:=Lib.hid (hlay.out.trans hf)
           clear hM hf hlay hwr
           have hownh:=Lib.hid hown
           clear hown
           go_wp2_with fail
           rw [hres.out]
           refine bodyPost_ret (v:=.tuple #[u14,.int .i64 0]) (by simp [results,Tryz.results208,go_sem]) rfl ?_
           exact⟨hE,u14,rfl,by rw [hpl];exact hownh.out⟩
   · have hgood:=Lib.hid (fun hq=>argsM_good (l:=l) h0 hq)
     have hbad:=Lib.hid (fun (i:Nat) q hq hx=>argsM_bad (l:=l) (n:=n) (mode:=2) (b:=base) (c:=loc) (i:=i) (q:=q) hq hx)
     obtain⟨-,-,n1,n2,b1,l1⟩:=h0
     have d3:decide (n<1)=false:=by rw [decide_eq_false_iff_not];omega
     have d4:decide (8<n)=false:=by rw [decide_eq_false_iff_not];omega
     have d5:decide (base<0)=false:=by rw [decide_eq_false_iff_not];omega
     have d6:decide (loc<0)=false:=by rw [decide_eq_false_iff_not];omega
     go_enter Tryz.func208,Tryz.ntmps208
     go_wp2_with fail
     go_loopw [40] (fun i wr=>∃ j:Nat,i=.int .i64 j/\j<=l.length/\Hid (∀ (k:Nat) q,k<j->l[k]?=some q->-1<=q.wr/\q.wr<n)/\Ext w wr) (fun i _=>l.length-(intOf i).toNat)
     case atStart=>exact⟨0,rfl,by omega,fun k q hk=>by omega,Ext.refl _⟩
     case round =>
      obtain⟨j,rfl,hj,hs,hE⟩:=hrel
      by_cases hl:j<l.length
      · obtain⟨q,hq⟩:∃ q,l[j]?=some q:=⟨_,List.getElem?_eq_getElem hl⟩
        obtain⟨b,rfl,hb,e1,e2⟩:=want_at (hv.ext hE) hq
        have hE2:=hE.alloc (.cells #[.int .i64 q.wr,.int .i64 q.top] 228)
        by_cases f1:q.wr < -1
        · have d7:decide (q.wr < -1)=true:=by simpa using f1
          have hf:=Lib.hid (hbad.out j q hq (by omega))
          clear hq hgood hbad hs
          go_wp2_with fail
          rw [hf.out]
          refine bodyPost_ret (v:=.tuple #[.slice none 0 0,.int .i64 1]) (by simp [results,Tryz.results208,go_sem]) rfl ?_
          exact⟨hE2,1,by decide,rfl⟩
        · have d7:decide (q.wr < -1)=false:=by rw [decide_eq_false_iff_not];omega
          by_cases f2:n<=q.wr
          · have d8:decide (n<=q.wr)=true:=by simpa using f2
            have hf:=Lib.hid (hbad.out j q hq (by omega))
            clear hq hgood hbad hs
            go_wp2_with fail
            rw [hf.out]
            refine bodyPost_ret (v:=.tuple #[.slice none 0 0,.int .i64 1]) (by simp [results,Tryz.results208,go_sem]) rfl ?_
            exact⟨hE2,1,by decide,rfl⟩
          · have d8:decide (n<=q.wr)=false:=by rw [decide_eq_false_iff_not];omega
            have hs2:Hid (∀ (k:Nat) q,k<j+1->l[k]?=some q->-1<=q.wr/\q.wr<n):=Lib.hid fun k q' hk hq'=>by
             by_cases e:k=j
             · subst e
               rw [hq] at hq'
               obtain rfl:q=q':=by simpa using hq'
               omega
             · exact hs.out k q' (by omega) hq'
            have hE3:=Lib.hid hE2
            clear hq hs hgood hbad hE2
            go_wp2_with fail
            refine⟨⟨j+1,by go_num,by omega,hs2,hE3.out⟩,?_⟩
            simp [intOf];omega
      · have hlay:=Lib.hid (hgood.out fun k q hq=>hs.out k q (by have:=(List.getElem?_eq_some_iff.1 hq).1;omega) hq)
        have hwr:=Lib.hid (fun (k:Nat) (q:Want) (hq:l[k]?=some q)=>hs.out k q (by have:=(List.getElem?_eq_some_iff.1 hq).1;omega) hq)
        clear hgood hbad hs
        go_wp2_with fail
        have hE0:=Lib.hid hE
        clear hE
        go_loopw [3,4,14,56] (fun b' c' v i wr=>∃ (j:Nat) (bi ci:Int) (pre:List Reg),b'=.int .i64 bi/\c'=.int .i64 ci/\i=.int .i64 j/\j<=l.length/\pre.length=j/\0<=bi/\0<=ci/\Hid (layFrom n 2 l base loc=(layFrom n 2 (l.drop j) bi ci).map (pre++·))/\wr.ownsRow w.heap.size 59 7 v j (pre.flatMap regVals)/\Ext w wr) (fun _ _ _ i _=>l.length-(intOf i).toNat)
        case atStart=>exact⟨0,base,loc,[],rfl,rfl,rfl,by omega,rfl,b1,l1,by unfold Hid;simp,World.ownsRow_nil _ _ _ _,hE0.out⟩
        case round =>
         clear hE0
         obtain⟨j,bi,ci,pre,rfl,rfl,rfl,hj,hpl,hbi,hci,hM,hown,hE⟩:=hrel
         by_cases hl:j<l.length
         · obtain⟨q,hq⟩:∃ q,l[j]?=some q:=⟨_,List.getElem?_eq_getElem hl⟩
           obtain⟨b,rfl,hb,e1,e2⟩:=want_at (hv.ext hE) hq
           obtain⟨w1,w2⟩:=hwr.out j q hq
           have hdr:l.drop j=q :: l.drop (j+1):=by
            rw [List.drop_eq_getElem_cons hl]
            congr 1
            rw [List.getElem?_eq_getElem hl] at hq
            simpa using hq
           have hMh:=Lib.hid hM
           have hownh:=Lib.hid hown
           clear hM hown hq
           have hrk:regOf n 2 bi ci q=⟨kindM 2 q.wr,bi,ci,n,q.wr,-1,topM q.top⟩:=rfl
           have hWW:=fun W=>want_p q n 2 W (by omega) w1
           have hK:kindM 2 q.wr=1∨kindM 2 q.wr=6∨kindM 2 q.wr=7:=by unfold kindM;split <;> (try split) <;> simp
           have hK6:kindM 2 q.wr=6->0<=q.wr:=by unfold kindM;split <;> (try split) <;> omega
           have htm:=topM_bd q.top
           have hdn:Drawn ⟨kindM 2 q.wr,bi,ci,n,q.wr,-1,topM q.top⟩:=⟨hK,hbi,hci,⟨n1,n2⟩,⟨w1,w2⟩,hK6,rfl,htm⟩
           have hlf:=Lib.hid (show layFrom n 2 (l.drop j) bi ci=if fineM ⟨kindM 2 q.wr,bi,ci,n,q.wr,-1,topM q.top⟩ then (layFrom n 2 (l.drop (j+1)) (bi+cellsM ⟨kindM 2 q.wr,bi,ci,n,q.wr,-1,topM q.top⟩) (ci+localsM ⟨kindM 2 q.wr,bi,ci,n,q.wr,-1,topM q.top⟩)).map (⟨kindM 2 q.wr,bi,ci,n,q.wr,-1,topM q.top⟩ :: ·) else none from by rw [hdr,layFrom_cons,hrk])
           have hCC:=fun W=>hC ⟨kindM 2 q.wr,bi,ci,n,q.wr,-1,topM q.top⟩ W hdn rfl
           have hFF:=fun W=>fine_p ⟨kindM 2 q.wr,bi,ci,n,q.wr,-1,topM q.top⟩ W hdn hCC
           have hLL:=fun W=>locals_p ⟨kindM 2 q.wr,bi,ci,n,q.wr,-1,topM q.top⟩ W hK ⟨n1,n2⟩
           have hcn:=cells_nat ⟨kindM 2 q.wr,bi,ci,n,q.wr,-1,topM q.top⟩ ⟨n1,n2⟩
           have hfb:fineM ⟨kindM 2 q.wr,bi,ci,n,q.wr,-1,topM q.top⟩=true->bi<=32768/\ci<=32768:=by
            unfold fineM
            simp only [Bool.and_eq_true,decide_eq_true_eq]
            omega
           clear hdn hrk htm hdr hK hK6
           unfold encR regOf at hWW
           unfold encR at hFF hCC hLL
           simp only at hWW hFF hCC hLL
           generalize kindM 2 q.wr=kk at *
           generalize topM q.top=tp at *
           generalize cellsM _=C at *
           generalize localsM _=D at *
           generalize hfm:fineM _=F at *
           clear hfm
           go_wp2_with fail
           refine (hWW _).mono ?_
           rintro e w3 ⟨rfl,hx⟩
           clear hWW
           have g3:=Blk.new w3 (.cells #[.int .i64 kk,.int .i64 bi,.int .i64 ci,.int .i64 n,.int .i64 q.wr,.int .i64 (-1),.int .i64 tp] 59)
           have x3:Ext wr (w3.alloc (.cells #[.int .i64 kk,.int .i64 bi,.int .i64 ci,.int .i64 n,.int .i64 q.wr,.int .i64 (-1),.int .i64 tp] 59)):=(((Ext.refl wr).alloc _).trans hx).alloc _
           have hz3:wr.heap.size<w3.heap.size:=by have:=hx.size;simp at this;omega
           clear hx
           go_wp2_with fail
           generalize w3.alloc _=W at *
           have c_3:=g3.cells
           refine (hFF _).mono ?_
           rintro e w4 ⟨rfl,hx⟩
           clear hFF c_3
           replace g3:=g3.ext hx
           replace x3:=x3.trans hx
           clear hx
           have c_3:=g3.cells
           cases F with
           | false =>
             have hres:=Lib.hid (show layM l n 2 base loc=none from by rw [hlay.out,hMh.out,hlf.out];rfl)
             go_wp2_with fail
             rw [hres.out]
             exact bodyPost_ret (v:=.tuple #[.slice none 0 0,.int .i64 6]) (by simp [results,Tryz.results208,go_sem]) rfl ⟨hE.trans x3,6,by decide,rfl⟩
           | true =>
             obtain⟨hb1,hb2⟩:=hfb rfl
             have s1:=IntWalk.i64_in (bi+C) (by omega)
             have s2:=IntWalk.i64_in (ci+D) (by omega)
             have hown3:=row_ext hownh.out x3
             have hRn:Hid (u14.ownBlock≠some w3.heap.size):=Lib.hid fun e=>by have:=(hownh.out.lt _ e).2;omega
             have hE3:=hE.trans x3
             have hM2:=Lib.hid (show layFrom n 2 l base loc=(layFrom n 2 (l.drop (j+1)) (bi+C) (ci+D)).map ((pre++[⟨kk,bi,ci,n,q.wr,-1,tp⟩])++·) from by
              rw [hMh.out,hlf.out]
              simp only [if_true,Option.map_map]
              congr 1
              funext x
              simp)
             clear hfb hlf hMh hownh hb1 hb2
             go_wp2_with (at_builtin;refine append_rec info_reg Tryz.underlying195 rfl (by decide) (by decide) rfl _ _ rfl _ j (pre.flatMap regVals) [.int .i64 kk,.int .i64 bi,.int .i64 ci,.int .i64 n,.int .i64 q.wr,.int .i64 (-1),.int .i64 tp] hE3 hown3 rfl rfl rfl (by simp [Value.oneCell']) (by omega) ?_)
             intro v' w5 ho4 hx4 hbk
             have g4:Blk w5 w3.heap.size _:=(hbk _ g3.lt hRn.out).trans g3
             have c_4:=g4.cells
             clear hbk hown3 hE3 c_3 hRn g3 x3
             go_wp2_with fail
             refine (hCC _).mono ?_
             rintro e w6 ⟨rfl,hx⟩
             replace g4:=g4.ext hx
             replace ho4:=row_ext ho4 hx
             replace hx4:=hx4.trans hx
             clear c_4 hx hCC
             have c_4:=g4.cells
             go_wp2_with fail
             refine (hLL _).mono ?_
             rintro e w7 ⟨rfl,hx⟩
             replace ho4:=row_ext ho4 hx
             replace hx4:=hx4.trans hx
             clear c_4 g4 hx hLL
             have ho5:=Lib.hid ho4
             clear ho4
             go_wp2_with fail
             refine⟨⟨j+1,bi+C,ci+D,pre++[⟨kk,bi,ci,n,q.wr,-1,tp⟩],rfl,rfl,by go_num,by omega,by simp [hpl],by omega,by omega,hM2,by rw [List.flatMap_append];exact ho5.out,hx4⟩,?_⟩
             simp [intOf];omega
         · have hf:layFrom n 2 l base loc=some pre:=by
            rw [hM.out,List.drop_eq_nil_of_le (by omega)]
            simp [layFrom]
           have hres:=Lib.hid (hlay.out.trans hf)
           clear hM hf hlay hwr
           have hownh:=Lib.hid hown
           clear hown
           go_wp2_with fail
           rw [hres.out]
           refine bodyPost_ret (v:=.tuple #[u14,.int .i64 0]) (by simp [results,Tryz.results208,go_sem]) rfl ?_
           exact⟨hE,u14,rfl,by rw [hpl];exact hownh.out⟩
 · rw [argsM_false h0]
   go_enter Tryz.func208,Tryz.ntmps208
   have hfin:LayPost w.heap.size w none (.returned (.tuple #[.slice none 0 0,.int .i64 1])) w:=⟨Ext.refl _,1,by decide,rfl⟩
   by_cases m1:mode=1∨mode=2
   · by_cases m3:n<1
     · have d3:decide (n<1)=true:=by simpa using m3
       rcases m1 with rfl | rfl
       all_goals
        go_wp2_with fail
        exact bodyPost_ret (v:=.tuple #[.slice none 0 0,.int .i64 1]) (by simp [results,Tryz.results208,go_sem]) rfl hfin
     · have d3:decide (n<1)=false:=by simpa using m3
       by_cases m4:8<n
       · have d4:decide (8<n)=true:=by simpa using m4
         rcases m1 with rfl | rfl
         all_goals
          go_wp2_with fail
          exact bodyPost_ret (v:=.tuple #[.slice none 0 0,.int .i64 1]) (by simp [results,Tryz.results208,go_sem]) rfl hfin
       · have d4:decide (8<n)=false:=by simpa using m4
         by_cases m5:base<0
         · have d5:decide (base<0)=true:=by simpa using m5
           rcases m1 with rfl | rfl
           all_goals
            go_wp2_with fail
            exact bodyPost_ret (v:=.tuple #[.slice none 0 0,.int .i64 1]) (by simp [results,Tryz.results208,go_sem]) rfl hfin
         · have d5:decide (base<0)=false:=by simpa using m5
           have d6:decide (loc<0)=true:=by rw [decide_eq_true_eq];omega
           rcases m1 with rfl | rfl
           all_goals
            go_wp2_with fail
            exact bodyPost_ret (v:=.tuple #[.slice none 0 0,.int .i64 1]) (by simp [results,Tryz.results208,go_sem]) rfl hfin
   · have d1:(mode != 1)=true:=by rw [bne_iff_ne];omega
     have d2:(mode != 2)=true:=by rw [bne_iff_ne];omega
     go_wp2_with fail
     exact bodyPost_ret (v:=.tuple #[.slice none 0 0,.int .i64 1]) (by simp [results,Tryz.results208,go_sem]) rfl hfin
theorem append_none {w:World}{ops:Array Oper}{rest:List Oper}{o:Oper}{a:Act}{Q:Exit->Act->World->Prop}{z:Value}{e t:TypeId}{size bytes:Nat}
  (hinfo:(Tryz.prog.info? e).map (fun i=>(i.zero,i.size,i.bytes))=some (some z,size,bytes))(hund:Tryz.prog.underlying t=some (.slice e))(hgd:o.guard=none)(s x:Operand)
  (ho:o.op=.call { callee:=.builtin .append,args:=#[s,x],argTypes:=#[t,t] })(base:Nat)(v:Value)(n:Nat)(xs:List Value)(hown:w.ownsRow base e size v n xs)(hs:a.eval s=v)(hx:a.eval x=.slice none 0 0)
  (h:wpList Tryz.prog ops Q rest (a.put o.dst v) w):wpList Tryz.prog ops Q (o :: rest) a w:=by
 obtain⟨i0,hi,hz0,hz1,hz2⟩:=info_parts hinfo
 exact wpList_append_own_none hgd s x t ho base e i0 size hund hi v n xs hs hown hx h
set_option maxRecDepth 100000 in
theorem mstrips1_p (w:World):Calls Tryz.prog 215 #[.int .i64 1] w fun e w'=>∃ A c,e=.returned (.slice A 0 c)/\Ext w w':=by
 go_enter Tryz.func215,Tryz.ntmps215
 go_wp2_with fail
 refine (mthreads_p 1 _ (by omega) (by omega)).mono ?_
 rintro e w' ⟨rfl,rfl⟩
 go_wp2_with fail
 go_loopw [3,6] (fun v i wr=>∃ j:Nat,i=.int .i64 j/\j<=1/\wr.ownsRow w.heap.size 85 3 v 0 []/\Ext w wr) (fun _ i _=>1-(intOf i).toNat)
 case atStart=>exact⟨0,rfl,by omega,World.ownsRow_nil _ _ _ _,Ext.refl _⟩
 case round =>
  obtain⟨j,rfl,hj,hown,hX⟩:=hrel
  by_cases hl:j<1
  · obtain rfl:j=0:=by omega
    go_wp2_with fail
    refine (tstrips_p 1 _ (by omega) (by omega)).mono ?_
    rintro e w2 ⟨v2,rfl,hr2,hx2⟩
    rw [show 2*((1-1:Int).toNat*(1-1:Int).toNat)=0 from rfl,show pairVals ((1-1:Int).toNat*(1-1:Int).toNat)=[] from rfl] at hr2
    replace hown:=row_ext hown hx2
    replace hX:=hX.trans hx2
    clear hx2
    rcases hr2.2 with⟨rfl,-⟩ | ⟨g,cap,cur,rfl,q1,q2,q3,q4,-⟩
    · clear hr2
      go_wp2_with (at_builtin;refine append_none info_strip Tryz.underlying82 rfl _ _ rfl w.heap.size _ 0 [] hown rfl rfl ?_)
      have hoh:=Lib.hid hown
      clear hown
      go_wp2_with fail
      refine⟨⟨1,by go_num,by omega,hoh.out,hX⟩,?_⟩
      simp [intOf]
    · clear hr2
      go_wp2_with (at_builtin;refine append_recs info_strip Tryz.underlying82 rfl (by decide) (by decide) rfl _ _ rfl _ 0 [] [] ⟨g,0,none⟩ 0 cap hX hown rfl rfl rfl (fun i u hu=>by simp at hu) (fun u hu=>by simp at hu) (by omega) (by omega) ?_)
      intro v' w' ho hx'
      have hoh:=Lib.hid ho
      clear hown ho q1 q2 q3 q4
      go_wp2_with fail
      refine⟨⟨1,by go_num,by omega,hoh.out,hx'⟩,?_⟩
      simp [intOf]
  · obtain rfl:j=1:=by omega
    obtain⟨A,c,rfl,-⟩:=Recs.of_row hown
    clear hown
    go_wp2_with fail
    go_ret
    exact⟨_,_,rfl,hX⟩
set_option maxRecDepth 100000 in
theorem cells71_p (base loc wr rd top:Int)(w:World):Calls Tryz.prog 142 #[.agg #[.int .i64 7,.int .i64 base,.int .i64 loc,.int .i64 1,.int .i64 wr,.int .i64 rd,.int .i64 top]] w fun e w'=>e=.returned (.int .i64 0)/\Ext w w':=by
 have hS:∀ w,Calls Tryz.prog 148 #[.agg #[.int .i64 7,.int .i64 base,.int .i64 loc,.int .i64 1,.int .i64 wr,.int .i64 rd,.int .i64 top]] w fun e w'=>∃ A c,e=.returned (.slice A 0 c)/\Ext w w':=by
  intro w
  have hX:=Ext.refl w
  have b1:=Blk.new w (.cells #[.int .i64 7,.int .i64 base,.int .i64 loc,.int .i64 1,.int .i64 wr,.int .i64 rd,.int .i64 top] 59)
  replace hX:=hX.alloc (.cells #[.int .i64 7,.int .i64 base,.int .i64 loc,.int .i64 1,.int .i64 wr,.int .i64 rd,.int .i64 top] 59)
  have c_b1:=b1.cells
  go_enter Tryz.func148,Tryz.ntmps148
  go_wp2_with fail
  refine (mstrips1_p _).mono ?_
  rintro e w2 ⟨A,c,rfl,hx⟩
  have hf:=Lib.hid (hX.trans hx)
  clear hx
  go_wp2_with fail
  go_ret
  exact⟨_,_,rfl,hf.out⟩
 have hX:=Ext.refl w
 have b1:=Blk.new w (.cells #[.int .i64 7,.int .i64 base,.int .i64 loc,.int .i64 1,.int .i64 wr,.int .i64 rd,.int .i64 top] 59)
 replace hX:=hX.alloc (.cells #[.int .i64 7,.int .i64 base,.int .i64 loc,.int .i64 1,.int .i64 wr,.int .i64 rd,.int .i64 top] 59)
 have c_b1:=b1.cells
 go_enter Tryz.func142,Tryz.ntmps142
 go_wp2_with fail
 refine (hS _).mono ?_
 rintro e w2 ⟨A,c,rfl,hx⟩
 have hf:=Lib.hid (hX.trans hx)
 clear hx hS c_b1 b1 hX
 go_wp2_with fail
 go_loopw [3,9] (fun s i wr=>i=.int .i64 0/\s=.int .i64 0/\w2=wr) (fun _ _ _=>0)
 case atStart=>exact⟨rfl,rfl,rfl⟩
 case round =>
  obtain⟨rfl,rfl,rfl⟩:=hrel
  go_wp2_with fail
  go_ret
  exact⟨rfl,hf.out⟩
theorem cells_all (r:Reg)(w:World)(hk:r.kind=1∨r.kind=6∨r.kind=7)(hn:1<=r.n/\r.n<=8):Calls Tryz.prog 142 #[encR r] w fun e w'=>e=.returned (.int .i64 (cellsM r))/\Ext w w':=by
 by_cases h:r.kind=7/\r.n=1
 · obtain⟨kind,base,loc,n,wr,rd,top⟩:=r
   obtain⟨rfl,rfl⟩:=h
   exact cells71_p base loc wr rd top w
 · exact cells_p r w (by omega) hn (fun w=>mthreads_p r.n w hn.1 hn.2)
theorem plan_p (va:Value)(l:List Want)(n mode base loc:Int)(w:World)(h:WantsAt w va l)(hlen:l.length<=1000) :
  Calls Tryz.prog 208 #[va,.int .i64 n,.int .i64 mode,.int .i64 base,.int .i64 loc] w (LayPost w.heap.size w (layM l n mode base loc)) :=
 lay_p va l n mode base loc w h hlen fun r w hd _=>cells_all r w hd.kind hd.n
def FRecs (B:Nat) (w:World) (v:Value) (n:Nat) (vals:List Value):Prop :=
 ∃ A c,v=.slice A n c/\n<=c/\c<=9223372036854775807/\(A=none->c=0)/\(∀ ad,A=some ad->∃ b,ad=⟨b,0,none⟩/\B<=b/\b<w.heap.size)/\∀ b,A=some ⟨b,0,none⟩->∀ (i:Nat) u,vals[i]?=some u->w.cell? ⟨b,i,none⟩=some u
theorem FRecs.of_row {w:World}{B e size n:Nat}{v:Value}{xs:List Value}(h:w.ownsRow B e size v n xs):FRecs B w v n xs:=by
 obtain⟨h1,h2⟩:=h
 rcases h2 with⟨rfl,rfl⟩ | ⟨g,cap,cur,rfl,hg,hh,hc,hc2,hsz,htk⟩
 · exact⟨none,0,rfl,Nat.le_refl _,by omega,fun _=>rfl,(fun _ h=>nomatch h),(fun _ h=>nomatch h)⟩
 · refine⟨_,_,rfl,hc,by unfold maxLen at hc2;exact hc2,(fun h=>nomatch h),fun ad h=>⟨g,(Option.some.inj h).symm,hg,(Array.getElem?_eq_some_iff.1 hh).1⟩,fun b hb i u hu=>?_⟩
   obtain rfl:g=b:=by simpa using hb
   rw [cell_of_heap hh i]
   rw [<- htk,List.getElem?_take] at hu
   split at hu
   · simpa using hu
   · cases hu
theorem FRecs.ext {B:Nat}{w w':World}{v:Value}{n:Nat}{vals:List Value}(h:FRecs B w v n vals)(hx:Ext w w'):FRecs B w' v n vals:=by
 obtain⟨A,c,e,h1,h2,h3,h4,h5⟩:=h
 refine⟨A,c,e,h1,h2,h3,fun ad ha=>?_,fun b hb i u hu=>?_⟩
 · obtain⟨b,e,k1,k2⟩:=h4 ad ha
   exact⟨b,e,k1,Nat.lt_of_lt_of_le k2 hx.size⟩
 · obtain⟨b',e,k1,k2⟩:=h4 _ hb
   cases e
   exact (hx.cell (p:=⟨b,i,none⟩) k2).trans (h5 b hb i u hu)
theorem FRecs.less {B B':Nat}{w:World}{v:Value}{n:Nat}{vals:List Value}(h:FRecs B w v n vals)(hB:B'<=B):FRecs B' w v n vals:=by
 obtain⟨A,c,e,h1,h2,h3,h4,h5⟩:=h
 refine⟨A,c,e,h1,h2,h3,fun ad ha=>?_,h5⟩
 obtain⟨b,e,k1,k2⟩:=h4 ad ha
 exact⟨b,e,Nat.le_trans hB k1,k2⟩
theorem FRecs.setCell {B b i:Nat}{u:Value}{w:World}{v:Value}{n:Nat}{vals:List Value}(h:FRecs B w v n vals)(hb:b<B):FRecs B (w.setCell ⟨b,i,none⟩ u) v n vals:=by
 obtain⟨A,c,e,h1,h2,h3,h4,h5⟩:=h
 refine⟨A,c,e,h1,h2,h3,fun ad ha=>?_,fun g hg j x hx=>?_⟩
 · obtain⟨g,e,k1,k2⟩:=h4 ad ha
   exact⟨g,e,k1,by simpa [World.setCell] using k2⟩
 · obtain⟨g',e,k1,k2⟩:=h4 _ hg
   cases e
   have hh:=heap_setCell_ne w (b:=b) (i:=i) (k:=g) u (by omega)
   unfold World.cell? at *
   rw [hh]
   exact h5 g hg j x hx
def svals (r:Reg):List Value:=if r.kind=1 then [.int .i64 1,.int .i64 3,.int .i64 (clamp r.top 1099511627776)] else if r.kind=6 then pairVals ((r.n-1).toNat*(r.n-1).toNat) else pairVals (r.n.toNat*((r.n-1).toNat*(r.n-1).toNat))
theorem svals_len (r:Reg):(svals r).length=3*manyF r:=by
 unfold svals manyF
 split
 · rfl
 · split <;> rw [pairVals_len] <;> omega
theorem svals_one (r:Reg):∀ u∈svals r,u.oneCell'=true:=by
 unfold svals
 split
 · intro u hu
   simp only [List.mem_cons,List.not_mem_nil,or_false] at hu
   rcases hu with rfl | rfl | rfl <;> rfl
 · split <;> exact pairVals_one _
set_option maxRecDepth 100000 in
theorem mstrips1v_p (w:World):Calls Tryz.prog 215 #[.int .i64 1] w fun e w'=>∃ v,e=.returned v/\FRecs w.heap.size w' v 0 []/\Ext w w':=by
 go_enter Tryz.func215,Tryz.ntmps215
 go_wp2_with fail
 refine (mthreads_p 1 _ (by omega) (by omega)).mono ?_
 rintro e w' ⟨rfl,rfl⟩
 go_wp2_with fail
 go_loopw [3,6] (fun v i wr=>∃ j:Nat,i=.int .i64 j/\j<=1/\wr.ownsRow w.heap.size 85 3 v 0 []/\Ext w wr) (fun _ i _=>1-(intOf i).toNat)
 case atStart=>exact⟨0,rfl,by omega,World.ownsRow_nil _ _ _ _,Ext.refl _⟩
 case round =>
  obtain⟨j,rfl,hj,hown,hX⟩:=hrel
  by_cases hl:j<1
  · obtain rfl:j=0:=by omega
    go_wp2_with fail
    refine (tstrips_p 1 _ (by omega) (by omega)).mono ?_
    rintro e w2 ⟨v2,rfl,hr2,hx2⟩
    rw [show 2*((1-1:Int).toNat*(1-1:Int).toNat)=0 from rfl,show pairVals ((1-1:Int).toNat*(1-1:Int).toNat)=[] from rfl] at hr2
    replace hown:=row_ext hown hx2
    replace hX:=hX.trans hx2
    clear hx2
    rcases hr2.2 with⟨rfl,-⟩ | ⟨g,cap,cur,rfl,q1,q2,q3,q4,-⟩
    · clear hr2
      go_wp2_with (at_builtin;refine append_none info_strip Tryz.underlying82 rfl _ _ rfl w.heap.size _ 0 [] hown rfl rfl ?_)
      have hoh:=Lib.hid hown
      clear hown
      go_wp2_with fail
      refine⟨⟨1,by go_num,by omega,hoh.out,hX⟩,?_⟩
      simp [intOf]
    · clear hr2
      go_wp2_with (at_builtin;refine append_recs info_strip Tryz.underlying82 rfl (by decide) (by decide) rfl _ _ rfl _ 0 [] [] ⟨g,0,none⟩ 0 cap hX hown rfl rfl rfl (fun i u hu=>by simp at hu) (fun u hu=>by simp at hu) (by omega) (by omega) ?_)
      intro v' w' ho hx'
      have hoh:=Lib.hid ho
      clear hown ho q1 q2 q3 q4
      go_wp2_with fail
      refine⟨⟨1,by go_num,by omega,hoh.out,hx'⟩,?_⟩
      simp [intOf]
  · obtain rfl:j=1:=by omega
    have hf:=Lib.hid (FRecs.of_row hown)
    clear hown
    go_wp2_with fail
    go_ret
    exact⟨_,rfl,hf.out,hX⟩
set_option maxRecDepth 100000 in
theorem rstripsv_p (r:Reg)(w:World)(hk:r.kind=1∨r.kind=6∨r.kind=7)(hn:1<=r.n/\r.n<=8) :
  Calls Tryz.prog 148 #[encR r] w fun e w'=>∃ v,e=.returned v/\FRecs w.heap.size w' v (manyF r) (svals r)/\Ext w w':=by
 obtain⟨M,hM⟩:∃ M,M=manyF r:=⟨_,rfl⟩
 obtain⟨V,hV⟩:∃ V,V=svals r:=⟨_,rfl⟩
 rw [<- hM,<- hV]
 replace hM:=Lib.hid hM
 replace hV:=Lib.hid hV
 obtain⟨kind,base,loc,n,wr,rd,top⟩:=r
 simp only at hk hn
 unfold encR
 simp only
 have hX:=Ext.refl w
 have b1:=Blk.new w (.cells #[.int .i64 kind,.int .i64 base,.int .i64 loc,.int .i64 n,.int .i64 wr,.int .i64 rd,.int .i64 top] 59)
 replace hX:=hX.alloc (.cells #[.int .i64 kind,.int .i64 base,.int .i64 loc,.int .i64 n,.int .i64 wr,.int .i64 rd,.int .i64 top] 59)
 have c_b1:=b1.cells
 rcases hk with rfl | rfl | rfl
 · go_enter Tryz.func148,Tryz.ntmps148
   go_wp2_with fail
   refine (clamp_p _ _ _).mono ?_
   rintro e w' ⟨rfl,rfl⟩
   have g1:=Blk.new (w.alloc (.cells #[.int .i64 1,.int .i64 base,.int .i64 loc,.int .i64 n,.int .i64 wr,.int .i64 rd,.int .i64 top] 59)) (.cells #[.int .i64 1,.int .i64 3,.int .i64 (clamp top 1099511627776)] 85)
   have hX2:=Lib.hid (hX.alloc (.cells #[.int .i64 1,.int .i64 3,.int .i64 (clamp top 1099511627776)] 85))
   simp only [World.size_alloc] at g1
   have g1h:=Lib.hid g1
   clear g1
   go_wp2_with fail
   go_ret
   rw [hM.out,hV.out]
   refine⟨_,rfl,⟨some ⟨w.heap.size+1,0,none⟩,1,rfl,Nat.le_refl _,by omega,(fun h=>nomatch h),fun ad h=>⟨w.heap.size+1,(Option.some.inj h).symm,by omega,g1h.out.lt⟩,fun b hb i u hu=>?_⟩,hX2.out⟩
   obtain rfl:w.heap.size+1=b:=by simpa using hb
   rw [g1h.out.cells i,<- hu]
   exact List.getElem?_toArray ..
 · go_enter Tryz.func148,Tryz.ntmps148
   go_wp2_with fail
   refine (tstrips_p n _ hn.1 hn.2).mono ?_
   rintro e w2 ⟨v,rfl,hr,hx⟩
   have hS:=Lib.hid (And.intro ((FRecs.of_row hr).less hX.size) (hX.trans hx))
   clear hr hx
   go_wp2_with fail
   go_ret
   rw [hM.out,hV.out]
   exact⟨_,rfl,hS.out.1,hS.out.2⟩
 · go_enter Tryz.func148,Tryz.ntmps148
   go_wp2_with fail
   by_cases h2:2<=n
   · refine (mstrips_p n _ h2 hn.2 (mthreads_p n _ hn.1 hn.2)).mono ?_
     rintro e w2 ⟨v,rfl,hr,hx⟩
     have hS:=Lib.hid (And.intro ((FRecs.of_row hr).less hX.size) (hX.trans hx))
     clear hr hx
     go_wp2_with fail
     go_ret
     rw [hM.out,hV.out]
     exact⟨_,rfl,hS.out.1,hS.out.2⟩
   · obtain rfl:n=1:=by omega
     refine (mstrips1v_p _).mono ?_
     rintro e w2 ⟨v,rfl,hr,hx⟩
     have hS:=Lib.hid (And.intro (hr.less hX.size) (hX.trans hx))
     clear hr hx
     go_wp2_with fail
     go_ret
     rw [hM.out,hV.out]
     exact⟨_,rfl,hS.out.1,hS.out.2⟩
end Go.Proofs.YtponihangpiooaaGreat
namespace Kv
theorem sum_snoc {α:Type}(f:α->Nat)(l:List α)(j:Nat)(r:α)(h:l[j]?=some r):((l.take (j+1)).map f).sum=((l.take j).map f).sum+f r:=by
 rw [List.take_add_one,h]
 simp
theorem flat_snoc {α β:Type}(f:α->List β)(l:List α)(j:Nat)(r:α)(h:l[j]?=some r):(l.take (j+1)).flatMap f=(l.take j).flatMap f++f r:=by
 rw [List.take_add_one,h,List.flatMap_append]
 simp
theorem sum_le {α:Type}(f:α->Nat)(b:Nat)(l:List α)(h:∀ r∈l,f r<=b):(l.map f).sum<=b*l.length:=by
 induction l with
 | nil=>simp
 | cons x l ih =>
   have h1:=h x (by simp)
   have h2:=ih fun r hr=>h r (List.mem_cons_of_mem _ hr)
   simp only [List.map_cons,List.sum_cons,List.length_cons,Nat.mul_add]
   omega
end Kv
namespace Go.Proofs.YtponihangpiooaaGreat
open Go.RowKit Kv
theorem info_strips:(Tryz.prog.info? 82).map (fun i=>(i.zero,i.size,i.bytes))=some (some (.slice none 0 0),1,24):=by kernel_rfl
theorem make_lists (k:Nat)(hk:k<=100000)(w:World) :
  (Instr.makeSlice 262 (.int .i64 k) (.int .i64 k)).run Tryz.prog w=.ok (.slice (some ⟨w.heap.size,0,none⟩) k k) (w.alloc (.cells (List.replicate k (.slice none 0 0)).toArray 82)):=by
 obtain⟨i0,hi,hz0,hz1,hz2⟩:=info_parts info_strips
 have hr:=run_makeSlice (P:=Tryz.prog) w 262 82 i0 (.slice none 0 0) Tryz.underlying262 hi hz0 .i64 .i64 k k (by omega) (by omega) (by rw [hz1];simp;omega) (by rw [hz2];omega) (by omega)
 rw [Int.toNat_natCast,hz1,Nat.mul_one] at hr
 have he:madeCells (Value.slice none 0 0).cells k=(List.replicate k (Value.slice none 0 0)).toArray:=by
  unfold madeCells
  apply Array.ext'
  apply List.ext_getElem?
  intro j
  by_cases hj:j<k
  · simp [hj,Nat.mod_one,Value.cells]
  · simp [hj]
 rw [hr,he]
def sumN (rs:List Reg):Nat:=(rs.map manyF).sum
set_option maxRecDepth 100000 in
set_option maxHeartbeats 1000000 in
theorem join_p (b c:Nat)(rs:List Reg)(w:World)(hb:b<w.heap.size)(hl:rs.length<=1000)(hmb:∀ r∈rs,manyF r<=784)
  (hat:∀ (j:Nat) r,rs[j]?=some r->∃ v,w.cell? ⟨b,j,none⟩=some v/\FRecs (b+1) w v (manyF r) (svals r)) :
  Calls Tryz.prog 216 #[.slice (some ⟨b,0,none⟩) rs.length c] w fun e w'=>∃ v,e=.returned v/\FRecs w.heap.size w' v (sumN rs) (rs.flatMap svals)/\Ext w w':=by
 have hsum:=fun j=>sum_le manyF 784 (rs.take j) fun r hr=>hmb r (List.mem_of_mem_take hr)
 go_enter Tryz.func216,Tryz.ntmps216
 go_wp2_with fail
 go_loopw [3,8] (fun v i wr=>∃ j:Nat,i=.int .i64 j/\j<=rs.length/\wr.ownsRow w.heap.size 85 3 v (sumN (rs.take j)) ((rs.take j).flatMap svals)/\Ext w wr) (fun _ i _=>rs.length-(intOf i).toNat)
 case atStart=>exact⟨0,rfl,by omega,World.ownsRow_nil _ _ _ _,Ext.refl _⟩
 case round =>
  obtain⟨j,rfl,hj,hown,hX⟩:=hrel
  by_cases hlt:j<rs.length
  · obtain⟨r,hr⟩:∃ r,rs[j]?=some r:=⟨_,List.getElem?_eq_getElem hlt⟩
    obtain⟨v,hv,hf⟩:=hat j r hr
    have hv2:=(hX.cell (p:=⟨b,j,none⟩) hb).trans hv
    have hf2:=hf.ext hX
    have hsl:=svals_len r
    have hso:=svals_one r
    have hmr:=hmb r (List.mem_of_getElem? hr)
    have hsj:=hsum j
    have htk:(rs.take j).length<=1000:=by rw [List.length_take];omega
    have hs1:sumN (rs.take (j+1))=sumN (rs.take j)+manyF r:=sum_snoc manyF rs j r hr
    have hs2:=flat_snoc svals rs j r hr
    have hsn:sumN (rs.take j)<=784000:=by unfold sumN;omega
    have hH:=Lib.hid (And.intro hs1 hs2)
    clear hs1 hs2 hv hf hat hsum hsj hmb hr
    obtain⟨A,c2,rfl,h1,h2,h3,h4,h5⟩:=hf2
    generalize hm:manyF r=m at *
    generalize hsv:svals r=sv at *
    generalize hsj:sumN (rs.take j)=sj at *
    clear hm hsv hsj
    cases A with
    | none =>
      obtain rfl:=h3 rfl
      obtain rfl:m=0:=by omega
      obtain rfl:sv=[]:=List.length_eq_zero_iff.1 (by omega)
      have hownh:=Lib.hid hown
      clear hown h1 h2 h3 h4 h5 hsl hso
      go_wp2_with (at_builtin;refine append_none info_strip Tryz.underlying82 rfl _ _ rfl w.heap.size _ sj _ hownh.out rfl rfl ?_)
      refine⟨⟨j+1,by go_num,by omega,?_,hX⟩,?_⟩
      · rw [hH.out.1,hH.out.2,List.append_nil]
        exact hownh.out
      · simp [intOf];omega
    | some ad =>
      obtain⟨g,rfl,k1,k2⟩:=h4 ad rfl
      have hc:=h5 g rfl
      have hAll:=Lib.hid (And.intro hown (And.intro hc (And.intro hsl hso)))
      clear hown h3 h4 h5 hc hsl hso
      go_wp2_with (at_builtin;refine append_recs info_strip Tryz.underlying82 rfl (by decide) (by decide) rfl _ _ rfl _ sj _ sv ⟨g,0,none⟩ m c2 hX hAll.out.1 rfl rfl (by have:=hAll.out.2.2.1;omega) (fun i u hu=>by rw [Addr.add_lit,Nat.zero_add];exact hAll.out.2.1 i u hu) hAll.out.2.2.2 (by omega) (by omega) ?_;intro v' w' ho hx';replace ho:=Lib.hid ho)
      refine⟨⟨j+1,by go_num,by omega,?_,hx'⟩,?_⟩
      · rw [hH.out.1,hH.out.2]
        exact ho.out
      · simp [intOf];omega
  · obtain rfl:j=rs.length:=by omega
    rw [List.take_length] at hown
    have hf:=Lib.hid (FRecs.of_row hown)
    clear hown hsum hat
    go_wp2_with fail
    go_ret
    exact⟨_,rfl,hf.out,hX⟩
set_option maxRecDepth 100000 in
set_option maxHeartbeats 1000000 in
theorem pstrips_p (va:Value)(rs:List Reg)(w:World)(h:RegsV w va rs)(hk:∀ r∈rs,(r.kind=1∨r.kind=6∨r.kind=7)/\1<=r.n/\r.n<=8)(hl:rs.length<=1000) :
  Calls Tryz.prog 149 #[va] w fun e w'=>∃ v,e=.returned v/\FRecs w.heap.size w' v (sumN rs) (rs.flatMap svals)/\Ext w w':=by
 obtain⟨A,c,rfl,hc1,hc2,hV⟩:=h
 have hmk:=fun w=>make_lists rs.length (by omega) w
 have hmb:∀ r∈rs,manyF r<=784:=fun r hr=>manyF_bd r (hk r hr).2
 have hB0:=Blk.new w (.cells (List.replicate rs.length (.slice none 0 0)).toArray 82)
 have hX0:=(Ext.refl w).alloc (.cells (List.replicate rs.length (.slice none 0 0)).toArray 82)
 have hlen0:(List.replicate rs.length (Value.slice none 0 0)).toArray.size=rs.length:=by simp
 generalize hcs0:(List.replicate rs.length (Value.slice none 0 0)).toArray=cs0 at *
 clear hcs0
 go_enter Tryz.func149,Tryz.ntmps149
 go_wp2_with fail
 go_loopw [11] (fun i wr=>∃ j:Nat,i=.int .i64 j/\j<=rs.length/\Ext w wr/\∃ cs,Blk wr w.heap.size (.cells cs 82)/\cs.size=rs.length/\∀ (k:Nat) r,k<j->rs[k]?=some r->∃ v,cs[k]?=some v/\FRecs (w.heap.size+1) wr v (manyF r) (svals r)) (fun i _=>rs.length-(intOf i).toNat)
 case atStart=>exact⟨0,rfl,by omega,hX0,cs0,hB0,hlen0,fun k r hk=>absurd hk (Nat.not_lt_zero _)⟩
 case round =>
  obtain⟨j,rfl,hj,hX,cs,hB,hsz,hall⟩:=hrel
  by_cases hlt:j<rs.length
  · obtain⟨r,hr⟩:∃ r,rs[j]?=some r:=⟨_,List.getElem?_eq_getElem hlt⟩
    obtain⟨b,rfl,hb,hrc⟩:=reg_at hV hr
    have hkr:=hk r (List.mem_of_getElem? hr)
    have hS:=fun w=>rstripsv_p r w hkr.1 hkr.2
    obtain⟨a0,a1,a2,a3,a4,a5,a6⟩:=hrc
    have e0:=(hX.cell (p:=⟨b,j*7,none⟩) hb).trans a0
    have e1:=(hX.cell (p:=⟨b,j*7+1,none⟩) hb).trans a1
    have e2:=(hX.cell (p:=⟨b,j*7+2,none⟩) hb).trans a2
    have e3:=(hX.cell (p:=⟨b,j*7+3,none⟩) hb).trans a3
    have e4:=(hX.cell (p:=⟨b,j*7+4,none⟩) hb).trans a4
    have e5:=(hX.cell (p:=⟨b,j*7+5,none⟩) hb).trans a5
    have e6:=(hX.cell (p:=⟨b,j*7+6,none⟩) hb).trans a6
    have hH:=Lib.hid (And.intro hall (And.intro hr (And.intro hV hk)))
    unfold encR at hS
    have x1:=(Ext.refl wr).alloc (.cells #[.int .i64 r.kind,.int .i64 r.base,.int .i64 r.loc,.int .i64 r.n,.int .i64 r.wr,.int .i64 r.rd,.int .i64 r.top] 59)
    have hszw:=hB.lt
    clear hall hr a0 a1 a2 a3 a4 a5 a6 hk hkr
    go_wp2_with fail
    refine (hS _).mono ?_
    rintro e w2 ⟨v,rfl,hf,hx2⟩
    obtain⟨A0,c0,rfl⟩:∃ A0 c0,v=.slice A0 (manyF r) c0:=by obtain⟨A,c,e,_⟩:=hf;exact⟨A,c,e⟩
    have hx:=x1.trans hx2
    have hB2:=hB.ext hx
    have hX2:=hX.trans hx
    have hf2:=Lib.hid (hf.less (B':=w.heap.size+1) (by simp;omega))
    have f2:=frozen_of_heap hB2 j
    have c2:=hB2.cells j
    clear hx2 x1 e0 e1 e2 e3 e4 e5 e6 hf hS hB
    go_wp2_with fail
    obtain⟨hall,hr,-,-⟩:=hH.out
    refine⟨⟨j+1,by go_num,by omega,hX2.setCell (p:=⟨w.heap.size,j,none⟩) (Nat.le_refl _) _,_,heap_setCell hB2 _,by simpa using hsz,?_⟩,?_⟩
    · intro k q hkj hq
      by_cases hkk:k=j
      · subst hkk
        obtain rfl:r=q:=by rw [hr] at hq;simpa using hq
        exact⟨_,by simp [hsz,hlt],hf2.out.setCell (by omega)⟩
      · obtain⟨v',h1,h2⟩:=hall k q (by omega) hq
        refine⟨v',?_,(h2.ext hx).setCell (by omega)⟩
        rw [Array.getElem?_setIfInBounds_ne (by omega)]
        exact h1
    · simp [intOf];omega
  · obtain rfl:j=rs.length:=by omega
    have hJ:=join_p w.heap.size rs.length rs wr hB.lt hl hmb fun k r hk=>by
     obtain⟨v,h1,h2⟩:=hall k r (List.getElem?_eq_some_iff.1 hk).1 hk
     exact⟨v,by rw [hB.cells k];exact h1,h2⟩
    clear hall hV hk hmb
    go_wp2_with fail
    refine hJ.mono ?_
    rintro e w2 ⟨v,rfl,hf,hx⟩
    have hS:=Lib.hid (And.intro (hf.less hX.size) (hX.trans hx))
    clear hf hx hJ
    go_wp2_with fail
    go_ret
    exact⟨_,rfl,hS.out.1,hS.out.2⟩
end Go.Proofs.YtponihangpiooaaGreat
namespace Kv
open Ieee
abbrev D:Format:=Ieee.double
def Num (x:Nat) (v:Int):Prop:=∃ s m p,D.read x=.number s m p/\-1074<=p/\m<9007199254740992/\signed s m (p+1074).toNat=v
def DNum (d:Datum) (v:Int):Prop:=∃ s m p,d=.number s m p/\-1074<=p/\m<9007199254740992/\signed s m (p+1074).toNat=v
theorem Num.d {x:Nat}{v:Int}(h:Num x v):DNum (D.read x) v:=h
end Kv
namespace Go.Proofs
open Go.Shelf
def Tryz.lays129_ren:Go.Shelf.Ren:=⟨fun | 129=>129 | n=>n,fun | 53=>188 | 3=>3 | 4=>4 | 46=>252 | 5=>5 | 9=>9 | n=>n,fun | n=>n⟩
theorem Tryz.lays129:Go.Proofs.Lays.n129 Tryz.prog Tryz.lays129_ren:={
 mixed:=by kernel_rfl
 f129:=Tryz.func129.trans (congrArg some (by kernel_rfl))
 t3:=Tryz.underlying3
 a3:=Tryz.isAgg3
 z3:=Tryz.sizeOf3
 v3:=Tryz.zeroValue3
 t4:=Tryz.underlying4
 a4:=Tryz.isAgg4
 z4:=Tryz.sizeOf4
 v4:=Tryz.zeroValue4
 t5:=Tryz.underlying5
 a5:=Tryz.isAgg5
 z5:=Tryz.sizeOf5
 v5:=Tryz.zeroValue5
 t9:=Tryz.underlying9
 a9:=Tryz.isAgg9
 z9:=Tryz.sizeOf9
 v9:=Tryz.zeroValue9
 t46:=Tryz.underlying252
 a46:=Tryz.isAgg252
 z46:=Tryz.sizeOf252
 v46:=Tryz.zeroValue252
 t53:=Tryz.underlying188
 a53:=Tryz.isAgg188
 z53:=Tryz.sizeOf188
 v53:=Tryz.zeroValue188 }
theorem Tryz.bits_Len64 (x:Int)(w:World)(h0:0<=x)(h1:x<=18446744073709551615) :
  Calls Tryz.prog 129 #[.int .u64 x] w fun e w'=>e=.returned (.int .i64 (Lib.bitLen x.toNat))/\w'=w:=Any.bits_Len64 Tryz.lays129 x w h0 h1
end Go.Proofs
namespace Go.Proofs.YtponihangpiooaaGreat
open Go.RowKit Kv
def deBruijn64:List Int:=[0,1,56,2,57,49,28,3,61,58,42,50,38,29,17,4,62,47,59,36,45,43,51,22,53,39,33,30,24,18,12,5,63,55,48,27,60,41,37,16,46,35,44,21,52,32,23,11,54,26,40,15,34,20,31,10,25,14,19,9,13,8,7,6]
structure Tabs (w:World):Prop where
 pow10:Lib.TabIs Tryz.prog w "internal/strconv.uint64pow10" .u64 Lib.pow10Tab
 bruijn:Lib.TabIs Tryz.prog w "math/bits.deBruijn64tab" .u8 deBruijn64
theorem Tabs.ext {w w':World}(h:Tabs w)(hx:Ext w w'):Tabs w' :=
 ⟨Lib.tabBelow_of_tabIs h.pow10 _ hx,Lib.tabBelow_of_tabIs h.bruijn _ hx⟩
theorem w0:floatOfInt .f64 0=0:=by decide +kernel
theorem k4 (k:Int):(k.tmod 4+4).tmod 4=(((k % 4).toNat:Nat):Int)/\-4<k.tmod 4/\k.tmod 4<4:=by
 have h1:=Int.tmod_lt_of_pos k (show (0:Int)<4 from by omega)
 have h2:=Int.lt_tmod_of_pos k (show (0:Int)<4 from by omega)
 have h3:=Int.tmod_eq_emod_of_nonneg (a:=k.tmod 4+4) (b:=4) (by omega)
 have h4:=Int.mul_tdiv_add_tmod k 4
 refine⟨?_,h2,h1⟩
 rw [h3]
 omega
end Go.Proofs.YtponihangpiooaaGreat
namespace Kv
def triN (d:Nat):Nat:=d*(d+1) / 2
theorem triN_succ (d:Nat):triN (d+1)=triN d+(d+1):=by
 unfold triN
 have:(d+1)*(d+1+1)=d*(d+1)+2*(d+1):=by grind
 rw [this]
 omega
theorem triN_mono {a b:Nat}(h:a<=b):triN a<=triN b:=by
 induction b with
 | zero=>rw [show a=0 from by omega];exact Nat.le_refl _
 | succ b ih =>
   by_cases hb:a=b+1
   · rw [hb];exact Nat.le_refl _
   · have:=ih (by omega)
     rw [triN_succ]
     omega
theorem triN_64 {d:Nat}(h:d<=64):triN d<=2080:=by
 have:=triN_mono h
 rw [show triN 64=2080 from by decide] at this
 exact this
end Kv
namespace Go.Proofs.YtponihangpiooaaGreat
open Go.RowKit Kv
theorem gsize_p (d:Nat)(h:d<=64)(w:World):Calls Tryz.prog 196 #[.int .i64 d] w fun e w'=>e=.returned (.int .i64 (triN d))/\w=w':=by
 have hm:d*(d+1)<=64*65:=Nat.mul_le_mul h (by omega)
 have e1:max 0 (min (d:Int) 64)=d:=by omega
 have e2:=IntWalk.i64_in ((d:Int)+1) (by omega)
 have e3:IntKind.i64.wrap ((d:Int)*((d:Int)+1))=((d*(d+1):Nat):Int):=by
  rw [IntWalk.i64_in _ (by have:(d:Int)*((d:Int)+1)=((d*(d+1):Nat):Int):=by simp
                           rw [this];omega)]
  simp
 have e4:IntKind.i64.wrap ((((d*(d+1):Nat):Int)) / 2)=(triN d:Int):=by
  unfold triN
  rw [IntWalk.i64_in _ (by omega)]
  omega
 clear hm
 generalize triN d=t at *
 generalize d*(d+1)=s at *
 go_enter Tryz.func196,Tryz.ntmps196
 go_wp2_with fail
 go_ret
 exact⟨rfl,rfl⟩
theorem RegsAt.ext {ix:List Nat}{p b:Nat}{w w':World}{l:List Reg}(h:RegsAt ix w p b l)(hx:Ext w w')(hp:p<w.heap.size):RegsAt ix w' p b l:=h.keep (B:=0) (Keep.of_ext hx hp (Nat.zero_le _))
def lenOf:Option Value->Nat
 | some (.slice _ n _)=>n
 | _=>0
def leftW (i j:Nat) (w:World) (p:Nat):Nat:=lenOf (w.cell? ⟨p,i,none⟩)-lenOf (w.cell? ⟨p,j,none⟩)
theorem row_slice {w:World}{B e size n:Nat}{v:Value}{xs:List Value}(h:w.ownsRow B e size v n xs):∃ A c,v=.slice A n c:=by
 rcases h.2 with⟨rfl,h0⟩ | ⟨g,cap,cur,rfl,_⟩
 · exact⟨none,0,by rw [h0]⟩
 · exact⟨_,_,rfl⟩
theorem Plays.left {B p:Nat}{w:World}{S:TS}(h:Plays B w p S):leftW 1 3 w p=S.left:=by
 obtain⟨_,vA,vL,vC,vN,L,h⟩:=h
 obtain⟨A,c,rfl,_⟩:=h.ans.slice
 obtain⟨C,d,rfl⟩:=row_slice h.rowC
 unfold leftW TS.left
 rw [cell_of_heap h.heap,cell_of_heap h.heap]
 rfl
theorem Plays.len {B p:Nat}{w:World}{S:TS}(h:Plays B w p S):S.acc.length<=S.ans.length:=h.1
end Go.Proofs.YtponihangpiooaaGreat
namespace Kv
theorem Prog.Notes.keep {α:Type}{p:Prog α}{n:Nat}(h:p.Notes 0){S S1:TS}{a:Option α}(hr:p.run S=(a,S1))(hn:S.nts.length<=n):S1.nts.length<=n:=by
 have:=h.run S
 rw [hr] at this
 simp only at this
 omega
end Kv
namespace Go.Proofs.YtponihangpiooaaGreat
open Go.RowKit Kv
theorem Plays.fresh {B p b:Nat}{w w':World}{S:TS}(h:Plays B w p S)(hx:Ext w w')(hb:w.heap.size<=b):¬ ownR [2,3,4] w' p b:=by
 obtain⟨_,_,_,_,_,_,h⟩:=h
 intro ho
 have:=(h.own ((ownR_same (Below.block hx p h.lt) b).1 ho)).2
 omega
end Go.Proofs.YtponihangpiooaaGreat
namespace Kv
open Go
def Jumps (J:Nat->Act->World->Prop) (Q:Exit->Act->World->Prop):Exit->Act->World->Prop
 | .goto l,a,w=>J l a w
 | e,a,w=>Q e a w
section
variable {P:Program} {a:Act} {w:World} {J:Nat->Act->World->Prop} {Q:Exit->Act->World->Prop}
@[go_sem] theorem jumps_normal:Jumps J Q .normal a w=Q .normal a w:=rfl
@[go_sem] theorem jumps_exit (id:Nat):Jumps J Q (.exit id) a w=Q (.exit id) a w:=rfl
@[go_sem] theorem jumps_ret:Jumps J Q .ret a w=Q .ret a w:=rfl
@[go_sem] theorem jumps_panic (c:List PanicEntry):Jumps J Q (.panic c) a w=Q (.panic c) a w:=rfl
@[go_sem] theorem jumps_goto (l:Nat):Jumps J Q (.goto l) a w=J l a w:=rfl
end
end Kv
namespace Go.Proofs.YtponihangpiooaaGreat
open Go.RowKit Kv
theorem levels_p (n:Int)(hn:n<=9223372036854775807)(w:World) :
  Calls Tryz.prog 59 #[.int .i64 n] w fun e w'=>e=.returned (.int .i64 (levels n))/\w=w':=by
 by_cases h1:n<=1
 · have H:=Lib.hid (levels_small n h1)
   go_enter Tryz.func59,Tryz.ntmps59
   go_wp2
   go_ret
   exact⟨ret_int (by rw [H.out];rfl),rfl⟩
 · have H:=Lib.hid (levels_bitLen n (by omega))
   rw [show (n-1).toNat=n.toNat-1 from by omega] at H
   go_enter Tryz.func59,Tryz.ntmps59
   go_wp2_with (go_at_call 129;refine (Tryz.bits_Len64 _ _ (by omega) (by omega)).mono ?_;rintro e w' ⟨rfl,rfl⟩)
   go_ret
   exact⟨ret_int (by rw [H.out]),rfl⟩
end Go.Proofs.YtponihangpiooaaGreat
namespace Kv
def nM (n:Int):Int:=min (max n 1) 8
theorem nM_id {n:Int}(h:1<=n)(h':n<=8):nM n=n:=by unfold nM;omega
theorem nM_clamp (n:Int):nM n=if clamp n 8<1 then 1 else clamp n 8:=by
 unfold nM clamp within
 split <;> omega
end Kv
namespace Go.Proofs.YtponihangpiooaaGreat
open Go.RowKit Kv
theorem wants_new (w:World)(l:List Want)(hl:l.length<=1000000):WantsAt (w.alloc (.cells (l.flatMap wantVals).toArray 228)) (.slice (some ⟨w.heap.size,0,none⟩) l.length l.length) l:=by
 refine⟨_,_,rfl,Nat.le_refl _,by omega,fun _=>⟨w.heap.size,rfl,by simp,fun i u hu=>?_⟩⟩
 exact (cell_of_heap (heap_alloc_new w (.cells (l.flatMap wantVals).toArray 228)) i).trans (by simpa using hu)
theorem rn_any (r:Reg)(w:World):Calls Tryz.prog 205 #[encR r] w fun e w'=>e=.returned (.int .i64 (nM r.n))/\Ext w w':=by
 obtain⟨kind,base,loc,n,wr,rd,top⟩:=r
 have hx:=Lib.hid ((Ext.refl w).alloc (.cells #[.int .i64 kind,.int .i64 base,.int .i64 loc,.int .i64 n,.int .i64 wr,.int .i64 rd,.int .i64 top] 59))
 have hc:=nM_clamp n
 unfold encR
 try simp only
 by_cases h:clamp n 8<1
 · rw [if_pos h] at hc
   rw [hc]
   go_enter Tryz.func205,Tryz.ntmps205
   go_wp2_with fail
   refine (clamp_r _ _ _).mono ?_
   rintro e w' ⟨rfl,rfl⟩
   go_wp2_with fail
   go_ret
   exact⟨rfl,hx.out⟩
 · rw [if_neg h] at hc
   rw [hc]
   go_enter Tryz.func205,Tryz.ntmps205
   go_wp2_with fail
   refine (clamp_r _ _ _).mono ?_
   rintro e w' ⟨rfl,rfl⟩
   go_wp2_with fail
   go_ret
   exact⟨rfl,hx.out⟩
@[go_sem] theorem build_want (a b:Int) (w:World):(Instr.build 228 #[(0,.int .i64 a),(1,.int .i64 b)]).run Tryz.prog w=.ok (.agg #[.int .i64 a,.int .i64 b]) w:=run_build w 228 _ _ (by kernel_rfl)
@[go_sem] theorem build_regn (a:Int) (w:World):(Instr.build 59 #[(3,.int .i64 a)]).run Tryz.prog w=.ok (.agg #[.int .i64 0,.int .i64 0,.int .i64 0,.int .i64 a,.int .i64 0,.int .i64 0,.int .i64 0]) w:=run_build w 59 _ _ (by kernel_rfl)
theorem swants_p (n:Int)(w:World):Calls Tryz.prog 279 #[.int .i64 n] w fun e w'=>∃ v,e=.returned v/\WantsAt w' v [⟨-1,nM n⟩,⟨-1,1⟩]/\Ext w w':=by
 have hw:=Lib.hid (wants_new w [⟨-1,nM n⟩,⟨-1,1⟩] (by simp))
 have he:Hid (min (max n 1) 8=nM n):=rfl
 go_enter Tryz.func279,Tryz.ntmps279
 go_wp2_with fail
 go_ret
 exact⟨_,rfl,hw.out,(Ext.refl w).alloc _⟩
theorem rwants31_r (n:Int)(w:World):Calls Tryz.prog 291 #[.int .i64 n] w fun e w'=>∃ v,e=.returned v/\WantsAt w' v [⟨-1,nM n⟩,⟨-1,1⟩]/\Ext w w':=by
 go_enter Tryz.func291,Tryz.ntmps291
 go_wp2_with fail
 refine (rn_any ⟨0,0,0,n,0,0,0⟩ _).mono ?_
 rintro e w2 ⟨rfl,hx⟩
 have hw:=Lib.hid (wants_new w2 [⟨-1,nM n⟩,⟨-1,1⟩] (by simp))
 try simp only
 go_wp2_with fail
 go_ret
 exact⟨_,rfl,hw.out,hx.alloc _⟩
theorem wants28_r (n:Nat)(w:World)(hn:n<=1000):Calls Tryz.prog 328 #[.int .i64 n] w fun e w'=>∃ v,e=.returned v/\WantsAt w' v (List.replicate n ⟨-1,1⟩)/\Ext w w':=by
 go_enter Tryz.func328,Tryz.ntmps328
 go_wp2_with fail
 go_loopw [3,4] (fun v i wr=>∃ j:Nat,i=.int .i64 j/\j<=n/\wr.ownsRow w.heap.size 228 2 v j ((List.replicate j (⟨-1,1⟩:Want)).flatMap wantVals)/\Ext w wr) (fun _ i _=>n-(intOf i).toNat)
 case atStart=>exact⟨0,rfl,by omega,World.ownsRow_nil _ _ _ _,Ext.refl _⟩
 case round =>
  obtain⟨j,rfl,hj,hown,hE⟩:=hrel
  by_cases hl:j<n
  · go_wp2_with (at_builtin;refine append_rec info_want Tryz.underlying183 rfl (by decide) (by decide) rfl _ _ rfl _ j _ [.int .i64 (-1),.int .i64 1] hE hown rfl rfl rfl (by simp [Value.oneCell']) (by omega) ?_)
    intro v' w' ho hx _
    have hoh:=Lib.hid ho
    clear hown ho
    go_wp2_with fail
    refine⟨⟨j+1,by go_num,by omega,?_,hx⟩,?_⟩
    · rw [List.replicate_succ',List.flatMap_append];exact hoh.out
    · simp [intOf];omega
  · obtain rfl:j=n:=by omega
    go_wp2_with fail
    go_ret
    refine⟨_,rfl,?_,hE⟩
    unfold WantsAt
    rw [List.length_replicate]
    exact Recs.of_row hown
end Go.Proofs.YtponihangpiooaaGreat
namespace Kv
end Kv
namespace Go.Proofs.YtponihangpiooaaGreat
open Go.RowKit Kv
theorem awants_p (w:World):Calls Tryz.prog 273 #[] w fun e w'=>∃ v,e=.returned v/\WantsAt w' v (List.replicate 3 ⟨-1,1⟩)/\Ext w w':=by
 go_enter Tryz.func273,Tryz.ntmps273
 go_wp2_with fail
 go_loopw [1,2] (fun v i wr=>∃ j:Nat,i=.int .i64 j/\j<=3/\wr.ownsRow w.heap.size 228 2 v j ((List.replicate j (⟨-1,1⟩:Want)).flatMap wantVals)/\Ext w wr) (fun _ i _=>3-(intOf i).toNat)
 case atStart=>exact⟨0,rfl,by omega,World.ownsRow_nil _ _ _ _,Ext.refl _⟩
 case round =>
  obtain⟨j,rfl,hj,hown,hE⟩:=hrel
  by_cases hl:j<3
  · go_wp2_with (at_builtin;refine append_rec info_want Tryz.underlying183 rfl (by decide) (by decide) rfl _ _ rfl _ j _ [.int .i64 (-1),.int .i64 1] hE hown rfl rfl rfl (by simp [Value.oneCell']) (by omega) ?_)
    intro v' w' ho hx _
    have hoh:=Lib.hid ho
    clear hown ho
    go_wp2_with fail
    refine⟨⟨j+1,by go_num,by omega,?_,hx⟩,?_⟩
    · rw [List.replicate_succ',List.flatMap_append];exact hoh.out
    · simp [intOf];omega
  · obtain rfl:j=3:=by omega
    have hownh:=Lib.hid hown
    clear hown
    go_wp2_with fail
    go_ret
    exact⟨_,rfl,Recs.of_row hownh.out,hE⟩
end Go.Proofs.YtponihangpiooaaGreat
