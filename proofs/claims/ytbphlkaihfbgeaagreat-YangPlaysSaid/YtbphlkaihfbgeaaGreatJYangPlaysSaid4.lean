/-
  YangPlaysSaid: part 4 of its proof.
-/
import Derived.Test.YtbphlkaihfbgeaaGreatJYangPlaysSaid3
import Derived.Deep.DeepCutAuto
import Derived.Defers
import Derived.Recover
import Derived.LaidEqlPtr
import Derived.Deep.RegionHeld3
import Derived.Laws.AppendOwnNone
import Derived.Deep.QuietTactic
import Derived.BigQuiet
namespace Go.Proofs.YtbphlkaihfbgeaaGreat
open Go.RowKit Kv
structure Drawn (r:Reg):Prop where
 kind:r.kind=1∨r.kind=6∨r.kind=7
 base:0<=r.base
 loc:0<=r.loc
 n:1<=r.n/\r.n<=8
 wr:-1<=r.wr/\r.wr<r.n
 wr6:r.kind=6->0<=r.wr
 rd:r.rd=-1
 top:1<=r.top/\r.top<=255
set_option maxRecDepth 100000 in
set_option maxHeartbeats 2000000 in
theorem fine1_r (base loc n wr top C D:Int)(w:World)(hb:0<=base)(hl:0<=loc)(hn:1<=n/\n<=8)(hw:-1<=wr/\wr<n)(ht:1<=top/\top<=255)(hz:0<=C/\C<=6272/\0<=D/\D<=7072)
  (hC:∀ w,Calls Tryz.prog 59 #[.agg #[.int .i64 1,.int .i64 base,.int .i64 loc,.int .i64 n,.int .i64 wr,.int .i64 (-1),.int .i64 top]] w fun e w'=>e=.returned (.int .i64 C)/\Ext w w')
  (hL:∀ w,Calls Tryz.prog 60 #[.agg #[.int .i64 1,.int .i64 base,.int .i64 loc,.int .i64 n,.int .i64 wr,.int .i64 (-1),.int .i64 top]] w fun e w'=>e=.returned (.int .i64 D)/\Ext w w') :
  Calls Tryz.prog 58 #[.agg #[.int .i64 1,.int .i64 base,.int .i64 loc,.int .i64 n,.int .i64 wr,.int .i64 (-1),.int .i64 top]] w fun e w'=>e=.returned (.bool (decide (base<=32768)&&decide (loc<=32768)&&decide (base+C<=32768)&&decide (loc+D<=32768)))/\Ext w w':=by
 have d1:decide (base<0)=false:=by simpa using hb
 have d2:decide (loc<0)=false:=by simpa using hl
 have d3:decide (n<1)=false:=by simpa using hn.1
 have d4:decide (8<n)=false:=by simpa using hn.2
 have d7:decide (1<=top)=true:=by simpa using ht.1
 have hX:=Ext.refl w
 have b1:=Blk.new w (.cells #[.int .i64 1,.int .i64 base,.int .i64 loc,.int .i64 n,.int .i64 wr,.int .i64 (-1),.int .i64 top] 87)
 replace hX:=hX.alloc (.cells #[.int .i64 1,.int .i64 base,.int .i64 loc,.int .i64 n,.int .i64 wr,.int .i64 (-1),.int .i64 top] 87)
 have c_b1:=b1.cells
 by_cases e1:base<=32768
 · have d5:decide (32768<base)=false:=by simpa using e1
   by_cases e2:loc<=32768
   · have d6:decide (32768<loc)=false:=by simpa using e2
     have e1':decide (base<=32768)=true:=by simpa using e1
     have e2':decide (loc<=32768)=true:=by simpa using e2
     rw [e1',e2',Bool.true_and,Bool.true_and]
     clear e1' e2'
     have h1w:=IntWalk.i64_in (base+C) (by omega)
     have h2w:=IntWalk.i64_in (loc+D) (by omega)
     go_enter Tryz.func58,Tryz.ntmps58
     go_wp2_with fail
     refine (thread_any n wr false _ (by rcases Int.lt_or_le wr 0 with e | e;exact .inr ⟨by omega,rfl⟩;exact .inl ⟨e,hw.2⟩)).mono ?_
     rintro e w' ⟨rfl,rfl⟩
     go_wp2_with fail
     refine (thread_none n _).mono ?_
     rintro e w' ⟨rfl,rfl⟩
     go_wp2_with fail
     have k1:=b1.alloc (.cells #[.int .i64 0,.int .i64 1099511627776,.int .i64 1,.int .i64 255,.int .i64 1,.int .i64 1099511627776,.int .i64 1048576,.int .i64 255] 3)
     have k2:=Blk.new (w.alloc (.cells #[.int .i64 1,.int .i64 base,.int .i64 loc,.int .i64 n,.int .i64 wr,.int .i64 (-1),.int .i64 top] 87)) (.cells #[.int .i64 0,.int .i64 1099511627776,.int .i64 1,.int .i64 255,.int .i64 1,.int .i64 1099511627776,.int .i64 1048576,.int .i64 255] 3)
     have hXW:=hX.alloc (.cells #[.int .i64 0,.int .i64 1099511627776,.int .i64 1,.int .i64 255,.int .i64 1,.int .i64 1099511627776,.int .i64 1048576,.int .i64 255] 3)
     simp only [World.size_alloc] at k2
     clear b1 c_b1 hX
     generalize World.alloc (World.alloc _ _) _=W at *
     have hX:=(Ext.refl W).drew
     have hS:∀ w',Ext W w'->(∀ i,w'.cell? ⟨w.heap.size,i,none⟩=(#[.int .i64 1,.int .i64 base,.int .i64 loc,.int .i64 n,.int .i64 wr,.int .i64 (-1),.int .i64 top]:Array Value)[i]?)/\(∀ i,w'.cell? ⟨w.heap.size+1,i,none⟩=(#[.int .i64 0,.int .i64 1099511627776,.int .i64 1,.int .i64 255,.int .i64 1,.int .i64 1099511627776,.int .i64 1048576,.int .i64 255]:Array Value)[i]?):=fun w' hx=>⟨(k1.ext hx).cells,(k2.ext hx).cells⟩
     have d8:decide (top<=1099511627776)=true:=by rw [decide_eq_true_eq];omega
     by_cases hc:base+C<=32768
     · have d9:decide (base+C<=32768)=true:=by simpa using hc
       go_region_held2 (fun w'=>(∀ i,w'.cell? ⟨w.heap.size,i,none⟩=(#[.int .i64 1,.int .i64 base,.int .i64 loc,.int .i64 n,.int .i64 wr,.int .i64 (-1),.int .i64 top]:Array Value)[i]?)/\(∀ i,w'.cell? ⟨w.heap.size+1,i,none⟩=(#[.int .i64 0,.int .i64 1099511627776,.int .i64 1,.int .i64 255,.int .i64 1,.int .i64 1099511627776,.int .i64 1048576,.int .i64 255]:Array Value)[i]?)) (exact hS _ hX)
       (first
          | (go_at_call 59
             refine (hC _).mono ?_
             rintro e w2 ⟨rfl,hx⟩
             replace hX:=hX.trans hx
             clear hx)
          | (go_at_call 60
             refine (hL _).mono ?_
             rintro e w2 ⟨rfl,hx⟩
             replace hX:=hX.trans hx
             clear hx))
       go_wp2_with fail
       go_ret
       exact⟨ret_bool (by rw [d9,Bool.true_and]),hXW.trans hX⟩
     · have d9:decide (base+C<=32768)=false:=by simpa using hc
       refine wp_region_held_drew (S:=fun w'=>(∀ i,w'.cell? ⟨w.heap.size,i,none⟩=(#[.int .i64 1,.int .i64 base,.int .i64 loc,.int .i64 n,.int .i64 wr,.int .i64 (-1),.int .i64 top]:Array Value)[i]?)/\(∀ i,w'.cell? ⟨w.heap.size+1,i,none⟩=(#[.int .i64 0,.int .i64 1099511627776,.int .i64 1,.int .i64 255,.int .i64 1,.int .i64 1099511627776,.int .i64 1048576,.int .i64 255]:Array Value)[i]?)) rfl (hS _ hX) (fun hHeld=>?_)
       refine tkb 0 ?_
       iterate 17
        refine tkn (v:=?_) rfl (by kernel_rfl) (fun _ _ _ h=>h) (by assumption) ?_ ?_
        rotate_left
        · (intro w hSw;(try dsimp only at hSw);go_simp;try with_reducible rfl)
        try simp only [put_pack]
       refine tke ?_
       refine wpAnyH_ready (rs:=[17]) (by kernel_rfl) (by simp) ?_
       refine AllReadyH.cons rfl (fun K hKK=>?_) (AllReadyH.nil)
       go_simp
       refine (hC _).mono ?_
       rintro e w2 ⟨rfl,hx⟩
       replace hX:=hX.trans hx
       clear hx
       refine hKK.out _ _ (hS _ hX) (fun hHeld=>?_)
       clear hKK K
       try dsimp only
       refine tkb 18 ?_
       iterate 4
        refine tkn (v:=?_) rfl (by kernel_rfl) (fun _ _ _ h=>h) (by assumption) ?_ ?_
        rotate_left
        · (intro w hSw;(try dsimp only at hSw);go_simp;try with_reducible rfl)
        try simp only [put_pack]
       refine tke ?_
       refine sk 22 rfl (by kernel_rfl) (fun _ _ _ h=>h) (by assumption) ?_
       try simp only [put_pack]
       refine sk 23 rfl (by kernel_rfl) (fun _ _ _ h=>h) (by assumption) ?_
       try simp only [put_pack]
       refine sk 24 rfl (by kernel_rfl) (fun _ _ _ h=>h) (by assumption) ?_
       try simp only [put_pack]
       refine sk 25 rfl (by kernel_rfl) (fun _ _ _ h=>h) (by assumption) ?_
       try simp only [put_pack]
       refine sk 26 rfl (by kernel_rfl) (fun _ _ _ h=>h) (by assumption) ?_
       try simp only [put_pack]
       refine sk 27 rfl (by kernel_rfl) (fun _ _ _ h=>h) (by assumption) ?_
       try simp only [put_pack]
       refine tk 28 (v:=?_) rfl (by kernel_rfl) (fun _ _ _ h=>h) (by assumption) ?_ ?_
       rotate_left
       · (intro w hSw;(try dsimp only at hSw);go_simp;try with_reducible rfl)
       try simp only [put_pack]
       refine tk 29 (v:=?_) rfl (by kernel_rfl) (fun _ _ _ h=>h) (by assumption) ?_ ?_
       rotate_left
       · (intro w hSw;(try dsimp only at hSw);go_simp;try with_reducible rfl)
       try simp only [put_pack]
       refine wpAnyH_done (by kernel_rfl) ?_ _
       go_wp2_with fail
       go_ret
       exact⟨ret_bool (by simp),hXW.trans hX⟩
   · have d6:decide (32768<loc)=true:=by rw [decide_eq_true_eq];omega
     have e2':decide (loc<=32768)=false:=by simpa using e2
     rw [e2',Bool.and_false,Bool.false_and,Bool.false_and]
     go_enter Tryz.func58,Tryz.ntmps58
     go_wp2_with fail
     go_ret
     exact⟨rfl,hX⟩
 · have d5:decide (32768<base)=true:=by rw [decide_eq_true_eq];omega
   have e2':decide (base<=32768)=false:=by simpa using e1
   rw [e2',Bool.false_and,Bool.false_and,Bool.false_and]
   go_enter Tryz.func58,Tryz.ntmps58
   go_wp2_with fail
   go_ret
   exact⟨rfl,hX⟩
set_option maxRecDepth 100000 in
set_option maxHeartbeats 2000000 in
theorem fine6_r (base loc n wr top C D:Int)(w:World)(hb:0<=base)(hl:0<=loc)(hn:1<=n/\n<=8)(hw:0<=wr/\wr<n)(ht:1<=top/\top<=255)(hz:0<=C/\C<=6272/\0<=D/\D<=7072)
  (hC:∀ w,Calls Tryz.prog 59 #[.agg #[.int .i64 6,.int .i64 base,.int .i64 loc,.int .i64 n,.int .i64 wr,.int .i64 (-1),.int .i64 top]] w fun e w'=>e=.returned (.int .i64 C)/\Ext w w')
  (hL:∀ w,Calls Tryz.prog 60 #[.agg #[.int .i64 6,.int .i64 base,.int .i64 loc,.int .i64 n,.int .i64 wr,.int .i64 (-1),.int .i64 top]] w fun e w'=>e=.returned (.int .i64 D)/\Ext w w') :
  Calls Tryz.prog 58 #[.agg #[.int .i64 6,.int .i64 base,.int .i64 loc,.int .i64 n,.int .i64 wr,.int .i64 (-1),.int .i64 top]] w fun e w'=>e=.returned (.bool (decide (base<=32768)&&decide (loc<=32768)&&decide (base+C<=32768)&&decide (loc+D<=32768)))/\Ext w w':=by
 have d1:decide (base<0)=false:=by simpa using hb
 have d2:decide (loc<0)=false:=by simpa using hl
 have d3:decide (n<1)=false:=by simpa using hn.1
 have d4:decide (8<n)=false:=by simpa using hn.2
 have d7:decide (1<=top)=true:=by simpa using ht.1
 have hX:=Ext.refl w
 have b1:=Blk.new w (.cells #[.int .i64 6,.int .i64 base,.int .i64 loc,.int .i64 n,.int .i64 wr,.int .i64 (-1),.int .i64 top] 87)
 replace hX:=hX.alloc (.cells #[.int .i64 6,.int .i64 base,.int .i64 loc,.int .i64 n,.int .i64 wr,.int .i64 (-1),.int .i64 top] 87)
 have c_b1:=b1.cells
 by_cases e1:base<=32768
 · have d5:decide (32768<base)=false:=by simpa using e1
   by_cases e2:loc<=32768
   · have d6:decide (32768<loc)=false:=by simpa using e2
     have e1':decide (base<=32768)=true:=by simpa using e1
     have e2':decide (loc<=32768)=true:=by simpa using e2
     rw [e1',e2',Bool.true_and,Bool.true_and]
     clear e1' e2'
     have h1w:=IntWalk.i64_in (base+C) (by omega)
     have h2w:=IntWalk.i64_in (loc+D) (by omega)
     go_enter Tryz.func58,Tryz.ntmps58
     go_wp2_with fail
     refine (thread_any n wr true _ (by omega)).mono ?_
     rintro e w' ⟨rfl,rfl⟩
     go_wp2_with fail
     refine (thread_none n _).mono ?_
     rintro e w' ⟨rfl,rfl⟩
     go_wp2_with fail
     have k1:=b1.alloc (.cells #[.int .i64 0,.int .i64 1099511627776,.int .i64 1,.int .i64 255,.int .i64 1,.int .i64 1099511627776,.int .i64 1048576,.int .i64 255] 3)
     have k2:=Blk.new (w.alloc (.cells #[.int .i64 6,.int .i64 base,.int .i64 loc,.int .i64 n,.int .i64 wr,.int .i64 (-1),.int .i64 top] 87)) (.cells #[.int .i64 0,.int .i64 1099511627776,.int .i64 1,.int .i64 255,.int .i64 1,.int .i64 1099511627776,.int .i64 1048576,.int .i64 255] 3)
     have hXW:=hX.alloc (.cells #[.int .i64 0,.int .i64 1099511627776,.int .i64 1,.int .i64 255,.int .i64 1,.int .i64 1099511627776,.int .i64 1048576,.int .i64 255] 3)
     simp only [World.size_alloc] at k2
     clear b1 c_b1 hX
     generalize World.alloc (World.alloc _ _) _=W at *
     have hX:=(Ext.refl W).drew
     have hS:∀ w',Ext W w'->(∀ i,w'.cell? ⟨w.heap.size,i,none⟩=(#[.int .i64 6,.int .i64 base,.int .i64 loc,.int .i64 n,.int .i64 wr,.int .i64 (-1),.int .i64 top]:Array Value)[i]?)/\(∀ i,w'.cell? ⟨w.heap.size+1,i,none⟩=(#[.int .i64 0,.int .i64 1099511627776,.int .i64 1,.int .i64 255,.int .i64 1,.int .i64 1099511627776,.int .i64 1048576,.int .i64 255]:Array Value)[i]?):=fun w' hx=>⟨(k1.ext hx).cells,(k2.ext hx).cells⟩
     have d8:decide (top<=1048576)=true:=by rw [decide_eq_true_eq];omega
     by_cases hc:base+C<=32768
     · have d9:decide (base+C<=32768)=true:=by simpa using hc
       go_region_held2 (fun w'=>(∀ i,w'.cell? ⟨w.heap.size,i,none⟩=(#[.int .i64 6,.int .i64 base,.int .i64 loc,.int .i64 n,.int .i64 wr,.int .i64 (-1),.int .i64 top]:Array Value)[i]?)/\(∀ i,w'.cell? ⟨w.heap.size+1,i,none⟩=(#[.int .i64 0,.int .i64 1099511627776,.int .i64 1,.int .i64 255,.int .i64 1,.int .i64 1099511627776,.int .i64 1048576,.int .i64 255]:Array Value)[i]?)) (exact hS _ hX)
       (first
          | (go_at_call 59
             refine (hC _).mono ?_
             rintro e w2 ⟨rfl,hx⟩
             replace hX:=hX.trans hx
             clear hx)
          | (go_at_call 60
             refine (hL _).mono ?_
             rintro e w2 ⟨rfl,hx⟩
             replace hX:=hX.trans hx
             clear hx))
       go_wp2_with fail
       go_ret
       exact⟨ret_bool (by rw [d9,Bool.true_and]),hXW.trans hX⟩
     · have d9:decide (base+C<=32768)=false:=by simpa using hc
       refine wp_region_held_drew (S:=fun w'=>(∀ i,w'.cell? ⟨w.heap.size,i,none⟩=(#[.int .i64 6,.int .i64 base,.int .i64 loc,.int .i64 n,.int .i64 wr,.int .i64 (-1),.int .i64 top]:Array Value)[i]?)/\(∀ i,w'.cell? ⟨w.heap.size+1,i,none⟩=(#[.int .i64 0,.int .i64 1099511627776,.int .i64 1,.int .i64 255,.int .i64 1,.int .i64 1099511627776,.int .i64 1048576,.int .i64 255]:Array Value)[i]?)) rfl (hS _ hX) (fun hHeld=>?_)
       refine tkb 0 ?_
       iterate 17
        refine tkn (v:=?_) rfl (by kernel_rfl) (fun _ _ _ h=>h) (by assumption) ?_ ?_
        rotate_left
        · (intro w hSw;(try dsimp only at hSw);go_simp;try with_reducible rfl)
        try simp only [put_pack]
       refine tke ?_
       refine wpAnyH_ready (rs:=[17]) (by kernel_rfl) (by simp) ?_
       refine AllReadyH.cons rfl (fun K hKK=>?_) (AllReadyH.nil)
       go_simp
       refine (hC _).mono ?_
       rintro e w2 ⟨rfl,hx⟩
       replace hX:=hX.trans hx
       clear hx
       refine hKK.out _ _ (hS _ hX) (fun hHeld=>?_)
       clear hKK K
       try dsimp only
       refine tkb 18 ?_
       iterate 4
        refine tkn (v:=?_) rfl (by kernel_rfl) (fun _ _ _ h=>h) (by assumption) ?_ ?_
        rotate_left
        · (intro w hSw;(try dsimp only at hSw);go_simp;try with_reducible rfl)
        try simp only [put_pack]
       refine tke ?_
       refine sk 22 rfl (by kernel_rfl) (fun _ _ _ h=>h) (by assumption) ?_
       try simp only [put_pack]
       refine sk 23 rfl (by kernel_rfl) (fun _ _ _ h=>h) (by assumption) ?_
       try simp only [put_pack]
       refine sk 24 rfl (by kernel_rfl) (fun _ _ _ h=>h) (by assumption) ?_
       try simp only [put_pack]
       refine sk 25 rfl (by kernel_rfl) (fun _ _ _ h=>h) (by assumption) ?_
       try simp only [put_pack]
       refine sk 26 rfl (by kernel_rfl) (fun _ _ _ h=>h) (by assumption) ?_
       try simp only [put_pack]
       refine sk 27 rfl (by kernel_rfl) (fun _ _ _ h=>h) (by assumption) ?_
       try simp only [put_pack]
       refine tk 28 (v:=?_) rfl (by kernel_rfl) (fun _ _ _ h=>h) (by assumption) ?_ ?_
       rotate_left
       · (intro w hSw;(try dsimp only at hSw);go_simp;try with_reducible rfl)
       try simp only [put_pack]
       refine tk 29 (v:=?_) rfl (by kernel_rfl) (fun _ _ _ h=>h) (by assumption) ?_ ?_
       rotate_left
       · (intro w hSw;(try dsimp only at hSw);go_simp;try with_reducible rfl)
       try simp only [put_pack]
       refine wpAnyH_done (by kernel_rfl) ?_ _
       go_wp2_with fail
       go_ret
       exact⟨ret_bool (by simp),hXW.trans hX⟩
   · have d6:decide (32768<loc)=true:=by rw [decide_eq_true_eq];omega
     have e2':decide (loc<=32768)=false:=by simpa using e2
     rw [e2',Bool.and_false,Bool.false_and,Bool.false_and]
     go_enter Tryz.func58,Tryz.ntmps58
     go_wp2_with fail
     go_ret
     exact⟨rfl,hX⟩
 · have d5:decide (32768<base)=true:=by rw [decide_eq_true_eq];omega
   have e2':decide (base<=32768)=false:=by simpa using e1
   rw [e2',Bool.false_and,Bool.false_and,Bool.false_and]
   go_enter Tryz.func58,Tryz.ntmps58
   go_wp2_with fail
   go_ret
   exact⟨rfl,hX⟩
set_option maxRecDepth 100000 in
set_option maxHeartbeats 2000000 in
theorem fine7_r (base loc n wr top C D:Int)(w:World)(hb:0<=base)(hl:0<=loc)(hn:1<=n/\n<=8)(hw:-1<=wr/\wr<n)(ht:1<=top/\top<=255)(hz:0<=C/\C<=6272/\0<=D/\D<=7072)
  (hC:∀ w,Calls Tryz.prog 59 #[.agg #[.int .i64 7,.int .i64 base,.int .i64 loc,.int .i64 n,.int .i64 wr,.int .i64 (-1),.int .i64 top]] w fun e w'=>e=.returned (.int .i64 C)/\Ext w w')
  (hL:∀ w,Calls Tryz.prog 60 #[.agg #[.int .i64 7,.int .i64 base,.int .i64 loc,.int .i64 n,.int .i64 wr,.int .i64 (-1),.int .i64 top]] w fun e w'=>e=.returned (.int .i64 D)/\Ext w w') :
  Calls Tryz.prog 58 #[.agg #[.int .i64 7,.int .i64 base,.int .i64 loc,.int .i64 n,.int .i64 wr,.int .i64 (-1),.int .i64 top]] w fun e w'=>e=.returned (.bool (decide (base<=32768)&&decide (loc<=32768)&&decide (base+C<=32768)&&decide (loc+D<=32768)))/\Ext w w':=by
 have d1:decide (base<0)=false:=by simpa using hb
 have d2:decide (loc<0)=false:=by simpa using hl
 have d3:decide (n<1)=false:=by simpa using hn.1
 have d4:decide (8<n)=false:=by simpa using hn.2
 have d7:decide (1<=top)=true:=by simpa using ht.1
 have hX:=Ext.refl w
 have b1:=Blk.new w (.cells #[.int .i64 7,.int .i64 base,.int .i64 loc,.int .i64 n,.int .i64 wr,.int .i64 (-1),.int .i64 top] 87)
 replace hX:=hX.alloc (.cells #[.int .i64 7,.int .i64 base,.int .i64 loc,.int .i64 n,.int .i64 wr,.int .i64 (-1),.int .i64 top] 87)
 have c_b1:=b1.cells
 by_cases e1:base<=32768
 · have d5:decide (32768<base)=false:=by simpa using e1
   by_cases e2:loc<=32768
   · have d6:decide (32768<loc)=false:=by simpa using e2
     have e1':decide (base<=32768)=true:=by simpa using e1
     have e2':decide (loc<=32768)=true:=by simpa using e2
     rw [e1',e2',Bool.true_and,Bool.true_and]
     clear e1' e2'
     have h1w:=IntWalk.i64_in (base+C) (by omega)
     have h2w:=IntWalk.i64_in (loc+D) (by omega)
     go_enter Tryz.func58,Tryz.ntmps58
     go_wp2_with fail
     refine (thread_any n wr false _ (by rcases Int.lt_or_le wr 0 with e | e;exact .inr ⟨by omega,rfl⟩;exact .inl ⟨e,hw.2⟩)).mono ?_
     rintro e w' ⟨rfl,rfl⟩
     go_wp2_with fail
     refine (thread_none n _).mono ?_
     rintro e w' ⟨rfl,rfl⟩
     go_wp2_with fail
     have k1:=b1.alloc (.cells #[.int .i64 0,.int .i64 1099511627776,.int .i64 1,.int .i64 255,.int .i64 1,.int .i64 1099511627776,.int .i64 1048576,.int .i64 255] 3)
     have k2:=Blk.new (w.alloc (.cells #[.int .i64 7,.int .i64 base,.int .i64 loc,.int .i64 n,.int .i64 wr,.int .i64 (-1),.int .i64 top] 87)) (.cells #[.int .i64 0,.int .i64 1099511627776,.int .i64 1,.int .i64 255,.int .i64 1,.int .i64 1099511627776,.int .i64 1048576,.int .i64 255] 3)
     have hXW:=hX.alloc (.cells #[.int .i64 0,.int .i64 1099511627776,.int .i64 1,.int .i64 255,.int .i64 1,.int .i64 1099511627776,.int .i64 1048576,.int .i64 255] 3)
     simp only [World.size_alloc] at k2
     clear b1 c_b1 hX
     generalize World.alloc (World.alloc _ _) _=W at *
     have hX:=(Ext.refl W).drew
     have hS:∀ w',Ext W w'->(∀ i,w'.cell? ⟨w.heap.size,i,none⟩=(#[.int .i64 7,.int .i64 base,.int .i64 loc,.int .i64 n,.int .i64 wr,.int .i64 (-1),.int .i64 top]:Array Value)[i]?)/\(∀ i,w'.cell? ⟨w.heap.size+1,i,none⟩=(#[.int .i64 0,.int .i64 1099511627776,.int .i64 1,.int .i64 255,.int .i64 1,.int .i64 1099511627776,.int .i64 1048576,.int .i64 255]:Array Value)[i]?):=fun w' hx=>⟨(k1.ext hx).cells,(k2.ext hx).cells⟩
     have d8:decide (top<=255)=true:=by rw [decide_eq_true_eq];omega
     by_cases hc:base+C<=32768
     · have d9:decide (base+C<=32768)=true:=by simpa using hc
       go_region_held2 (fun w'=>(∀ i,w'.cell? ⟨w.heap.size,i,none⟩=(#[.int .i64 7,.int .i64 base,.int .i64 loc,.int .i64 n,.int .i64 wr,.int .i64 (-1),.int .i64 top]:Array Value)[i]?)/\(∀ i,w'.cell? ⟨w.heap.size+1,i,none⟩=(#[.int .i64 0,.int .i64 1099511627776,.int .i64 1,.int .i64 255,.int .i64 1,.int .i64 1099511627776,.int .i64 1048576,.int .i64 255]:Array Value)[i]?)) (exact hS _ hX)
       (first
          | (go_at_call 59
             refine (hC _).mono ?_
             rintro e w2 ⟨rfl,hx⟩
             replace hX:=hX.trans hx
             clear hx)
          | (go_at_call 60
             refine (hL _).mono ?_
             rintro e w2 ⟨rfl,hx⟩
             replace hX:=hX.trans hx
             clear hx))
       go_wp2_with fail
       go_ret
       exact⟨ret_bool (by rw [d9,Bool.true_and]),hXW.trans hX⟩
     · have d9:decide (base+C<=32768)=false:=by simpa using hc
       refine wp_region_held_drew (S:=fun w'=>(∀ i,w'.cell? ⟨w.heap.size,i,none⟩=(#[.int .i64 7,.int .i64 base,.int .i64 loc,.int .i64 n,.int .i64 wr,.int .i64 (-1),.int .i64 top]:Array Value)[i]?)/\(∀ i,w'.cell? ⟨w.heap.size+1,i,none⟩=(#[.int .i64 0,.int .i64 1099511627776,.int .i64 1,.int .i64 255,.int .i64 1,.int .i64 1099511627776,.int .i64 1048576,.int .i64 255]:Array Value)[i]?)) rfl (hS _ hX) (fun hHeld=>?_)
       refine tkb 0 ?_
       iterate 17
        refine tkn (v:=?_) rfl (by kernel_rfl) (fun _ _ _ h=>h) (by assumption) ?_ ?_
        rotate_left
        · (intro w hSw;(try dsimp only at hSw);go_simp;try with_reducible rfl)
        try simp only [put_pack]
       refine tke ?_
       refine wpAnyH_ready (rs:=[17]) (by kernel_rfl) (by simp) ?_
       refine AllReadyH.cons rfl (fun K hKK=>?_) (AllReadyH.nil)
       go_simp
       refine (hC _).mono ?_
       rintro e w2 ⟨rfl,hx⟩
       replace hX:=hX.trans hx
       clear hx
       refine hKK.out _ _ (hS _ hX) (fun hHeld=>?_)
       clear hKK K
       try dsimp only
       refine tkb 18 ?_
       iterate 4
        refine tkn (v:=?_) rfl (by kernel_rfl) (fun _ _ _ h=>h) (by assumption) ?_ ?_
        rotate_left
        · (intro w hSw;(try dsimp only at hSw);go_simp;try with_reducible rfl)
        try simp only [put_pack]
       refine tke ?_
       refine sk 22 rfl (by kernel_rfl) (fun _ _ _ h=>h) (by assumption) ?_
       try simp only [put_pack]
       refine sk 23 rfl (by kernel_rfl) (fun _ _ _ h=>h) (by assumption) ?_
       try simp only [put_pack]
       refine sk 24 rfl (by kernel_rfl) (fun _ _ _ h=>h) (by assumption) ?_
       try simp only [put_pack]
       refine sk 25 rfl (by kernel_rfl) (fun _ _ _ h=>h) (by assumption) ?_
       try simp only [put_pack]
       refine sk 26 rfl (by kernel_rfl) (fun _ _ _ h=>h) (by assumption) ?_
       try simp only [put_pack]
       refine sk 27 rfl (by kernel_rfl) (fun _ _ _ h=>h) (by assumption) ?_
       try simp only [put_pack]
       refine tk 28 (v:=?_) rfl (by kernel_rfl) (fun _ _ _ h=>h) (by assumption) ?_ ?_
       rotate_left
       · (intro w hSw;(try dsimp only at hSw);go_simp;try with_reducible rfl)
       try simp only [put_pack]
       refine tk 29 (v:=?_) rfl (by kernel_rfl) (fun _ _ _ h=>h) (by assumption) ?_ ?_
       rotate_left
       · (intro w hSw;(try dsimp only at hSw);go_simp;try with_reducible rfl)
       try simp only [put_pack]
       refine wpAnyH_done (by kernel_rfl) ?_ _
       go_wp2_with fail
       go_ret
       exact⟨ret_bool (by simp),hXW.trans hX⟩
   · have d6:decide (32768<loc)=true:=by rw [decide_eq_true_eq];omega
     have e2':decide (loc<=32768)=false:=by simpa using e2
     rw [e2',Bool.and_false,Bool.false_and,Bool.false_and]
     go_enter Tryz.func58,Tryz.ntmps58
     go_wp2_with fail
     go_ret
     exact⟨rfl,hX⟩
 · have d5:decide (32768<base)=true:=by rw [decide_eq_true_eq];omega
   have e2':decide (base<=32768)=false:=by simpa using e1
   rw [e2',Bool.false_and,Bool.false_and,Bool.false_and]
   go_enter Tryz.func58,Tryz.ntmps58
   go_wp2_with fail
   go_ret
   exact⟨rfl,hX⟩
theorem fine_r (r:Reg)(w:World)(h:Drawn r):Calls Tryz.prog 58 #[encR r] w fun e w'=>e=.returned (.bool (fineM r))/\Ext w w':=by
 obtain⟨hk,hb,hl,hn,hw,hw6,hrd,ht⟩:=h
 have hC:=fun w=>cells_r r w hk hn
 have hL:=fun w=>locals_r r w hk hn
 have hz:=cells_nat r hn
 obtain⟨kind,base,loc,n,wr,rd,top⟩:=r
 simp only at hk hb hl hn hw hw6 hrd ht
 subst hrd
 unfold fineM
 rcases hk with rfl | rfl | rfl
 · exact fine1_r base loc n wr top _ _ w hb hl hn hw ht hz hC hL
 · exact fine6_r base loc n wr top _ _ w hb hl hn ⟨hw6 rfl,hw.2⟩ ht hz hC hL
 · exact fine7_r base loc n wr top _ _ w hb hl hn hw ht hz hC hL
@[go_sem] theorem build_reg (a b c d e f g:Int) (w:World):(Instr.build 87 #[(0,.int .i64 a),(1,.int .i64 b),(2,.int .i64 c),(3,.int .i64 d),(4,.int .i64 e),(5,.int .i64 f),(6,.int .i64 g)]).run Tryz.prog w=.ok (.agg #[.int .i64 a,.int .i64 b,.int .i64 c,.int .i64 d,.int .i64 e,.int .i64 f,.int .i64 g]) w:=run_build w 87 _ _ (by kernel_rfl)
def LayPost (B:Nat) (w:World) (o:Option (List Reg)) (e:Ending) (w':World):Prop :=
 Ext w w'/\match o with
  | some rs=>∃ v,e=.returned (.tuple #[v,.int .i64 0])/\w'.ownsRow B 87 7 v rs.length (rs.flatMap regVals)
  | none=>∃ x:Int,x≠0/\e=.returned (.tuple #[.slice none 0 0,.int .i64 x])
theorem layFrom_cons (n mode:Int)(q:Want)(l:List Want)(b c:Int):layFrom n mode (q :: l) b c=if fineM (regOf n mode b c q) then (layFrom n mode l (b+cellsM (regOf n mode b c q)) (c+localsM (regOf n mode b c q))).map (regOf n mode b c q :: ·) else none:=rfl
theorem argsM_false {l:List Want}{n mode b c:Int}(h:¬ (1<=mode/\mode<=2/\1<=n/\n<=8/\0<=b/\0<=c)):layM l n mode b c=none:=by
 unfold layM argsM
 rw [show decide (1<=mode/\mode<=2/\1<=n/\n<=8/\0<=b/\0<=c)=false from by simpa using h]
 rfl
theorem argsM_bad {l:List Want}{n mode b c:Int}{i:Nat}{q:Want}(hq:l[i]?=some q)(h:¬ (-1<=q.wr/\q.wr<n)):layM l n mode b c=none:=by
 unfold layM argsM
 have:(l.all fun q=>decide (-1<=q.wr/\q.wr<n))=false:=by
  rw [List.all_eq_false]
  exact⟨q,List.mem_of_getElem? hq,by simpa using h⟩
 rw [this,Bool.and_false]
 rfl
theorem argsM_good {l:List Want}{n mode b c:Int}(h:1<=mode/\mode<=2/\1<=n/\n<=8/\0<=b/\0<=c)(hq:∀ (k:Nat) q,l[k]?=some q->-1<=q.wr/\q.wr<n):layM l n mode b c=layFrom n mode l b c:=by
 unfold layM argsM
 rw [show decide (1<=mode/\mode<=2/\1<=n/\n<=8/\0<=b/\0<=c)=true from by simpa using h]
 have:(l.all fun q=>decide (-1<=q.wr/\q.wr<n))=true:=by
  rw [List.all_eq_true]
  intro q hm
  obtain⟨k,hk⟩:=List.getElem?_of_mem hm
  simpa using hq k q hk
 rw [this]
 rfl
set_option maxRecDepth 100000 in
set_option maxHeartbeats 2000000 in
theorem lay_r (va:Value)(l:List Want)(n mode base loc:Int)(w:World)(h:WantsAt w va l)(hlen:l.length<=1000) :
  Calls Tryz.prog 35 #[va,.int .i64 n,.int .i64 mode,.int .i64 base,.int .i64 loc] w (LayPost w.heap.size w (layM l n mode base loc)):=by
 obtain⟨A,c,rfl,q1,q2,hv⟩:=h
 by_cases h0:1<=mode/\mode<=2/\1<=n/\n<=8/\0<=base/\0<=loc
 · have hmd:mode=1∨mode=2:=by omega
   rcases hmd with rfl | rfl
   · have hgood:=Lib.hid (fun hq=>argsM_good (l:=l) h0 hq)
     have hbad:=Lib.hid (fun (i:Nat) q hq hx=>argsM_bad (l:=l) (n:=n) (mode:=1) (b:=base) (c:=loc) (i:=i) (q:=q) hq hx)
     obtain⟨-,-,n1,n2,b1,l1⟩:=h0
     go_enter Tryz.func35,Tryz.ntmps35
     have d3:decide (n<1)=false:=by rw [decide_eq_false_iff_not];omega
     have d4:decide (8<n)=false:=by rw [decide_eq_false_iff_not];omega
     have d5:decide (base<0)=false:=by rw [decide_eq_false_iff_not];omega
     have d6:decide (loc<0)=false:=by rw [decide_eq_false_iff_not];omega
     go_wp2_with fail
     go_loopw [12] (fun i wr=>∃ j:Nat,i=.int .i64 j/\j<=l.length/\Hid (∀ (k:Nat) q,k<j->l[k]?=some q->-1<=q.wr/\q.wr<n)/\w=wr) (fun i _=>l.length-(intOf i).toNat)
     case atStart=>exact⟨0,rfl,by omega,fun k q hk=>by omega,rfl⟩
     case round =>
      obtain⟨j,rfl,hj,hs,rfl⟩:=hrel
      by_cases hl:j<l.length
      · obtain⟨q,hq⟩:∃ q,l[j]?=some q:=⟨_,List.getElem?_eq_getElem hl⟩
        obtain⟨b,rfl,hb,e1,e2⟩:=want_at hv hq
        by_cases f1:q.wr < -1
        · have d7:decide (q.wr < -1)=true:=by simpa using f1
          have hf:=Lib.hid (hbad.out j q hq (by omega))
          clear hq hgood hbad hs
          go_wp2_with fail
          rw [hf.out]
          refine bodyPost_ret (v:=.tuple #[.slice none 0 0,.int .i64 1]) (by simp [results,Tryz.results35,go_sem]) rfl ?_
          exact⟨Ext.refl _,1,by decide,rfl⟩
        · have d7:decide (q.wr < -1)=false:=by rw [decide_eq_false_iff_not];omega
          by_cases f2:n<=q.wr
          · have d8:decide (n<=q.wr)=true:=by simpa using f2
            have hf:=Lib.hid (hbad.out j q hq (by omega))
            clear hq hgood hbad hs
            go_wp2_with fail
            rw [hf.out]
            refine bodyPost_ret (v:=.tuple #[.slice none 0 0,.int .i64 1]) (by simp [results,Tryz.results35,go_sem]) rfl ?_
            exact⟨Ext.refl _,1,by decide,rfl⟩
          · have d8:decide (n<=q.wr)=false:=by rw [decide_eq_false_iff_not];omega
            have hs2:Hid (∀ (k:Nat) q,k<j+1->l[k]?=some q->-1<=q.wr/\q.wr<n):=Lib.hid fun k q' hk hq'=>by
             by_cases e:k=j
             · subst e
               rw [hq] at hq'
               obtain rfl:q=q':=by simpa using hq'
               omega
             · exact hs.out k q' (by omega) hq'
            clear hq hs hgood hbad
            go_wp2_with fail
            refine⟨⟨j+1,by go_num,by omega,hs2,by trivial⟩,?_⟩
            simp [intOf];omega
      · have hlay:=Lib.hid (hgood.out fun k q hq=>hs.out k q (by have:=(List.getElem?_eq_some_iff.1 hq).1;omega) hq)
        have hwr:=Lib.hid (fun (k:Nat) (q:Want) (hq:l[k]?=some q)=>hs.out k q (by have:=(List.getElem?_eq_some_iff.1 hq).1;omega) hq)
        clear hgood hbad hs
        go_wp2_with fail
        go_loopw [3,4,13,14] (fun b' c' v i wr=>∃ (j:Nat) (bi ci:Int) (pre:List Reg),b'=.int .i64 bi/\c'=.int .i64 ci/\i=.int .i64 j/\j<=l.length/\pre.length=j/\0<=bi/\0<=ci/\Hid (layFrom n 1 l base loc=(layFrom n 1 (l.drop j) bi ci).map (pre++·))/\wr.ownsRow w.heap.size 87 7 v j (pre.flatMap regVals)/\Ext w wr) (fun _ _ _ i _=>l.length-(intOf i).toNat)
        case atStart=>exact⟨0,base,loc,[],rfl,rfl,rfl,by omega,rfl,b1,l1,by unfold Hid;simp,World.ownsRow_nil _ _ _ _,Ext.refl _⟩
        case round =>
         obtain⟨j,bi,ci,pre,rfl,rfl,rfl,hj,hpl,hbi,hci,hM,hown,hE⟩:=hrel
         by_cases hl:j<l.length
         · obtain⟨q,hq⟩:∃ q,l[j]?=some q:=⟨_,List.getElem?_eq_getElem hl⟩
           obtain⟨b,rfl,hb,e1,e2⟩:=want_at (hv.ext hE) hq
           obtain⟨w1,w2⟩:=hwr.out j q hq
           have hdr:l.drop j=q :: l.drop (j+1):=by
            rw [List.drop_eq_getElem_cons hl]
            congr 1
            rw [List.getElem?_eq_getElem hl] at hq
            simpa using hq
           have hMh:=Lib.hid hM
           have hownh:=Lib.hid hown
           have hdrh:=Lib.hid hdr
           clear hM hown hdr hq
           have hS:∀ w',Ext wr w'->w'.cell? ⟨b,j*2,none⟩=some (.int .i64 q.wr)/\w'.cell? ⟨b,j*2+1,none⟩=some (.int .i64 q.top):=fun w' hx=>⟨(hx.cell (p:=⟨b,j*2,none⟩) hb).trans e1,(hx.cell (p:=⟨b,j*2+1,none⟩) hb).trans e2⟩
           go_upto_region 12 with fail
           go_cut [15] (fun r wx=>r=.pointer (some ⟨wr.heap.size,0,none⟩)/\wx=(wr.alloc (.cells #[.int .i64 1,.int .i64 bi,.int .i64 ci,.int .i64 n,.int .i64 q.wr,.int .i64 (-1),.int .i64 (clamp q.top 255)] 87)).drew)
           case first =>
            go_region_held2 (fun w'=>w'.cell? ⟨b,j*2,none⟩=some (.int .i64 q.wr)/\w'.cell? ⟨b,j*2+1,none⟩=some (.int .i64 q.top)) (first | exact hS _ ((Ext.refl _).drew) | (refine hS _ ?_;repeat first | with_reducible exact Ext.refl _ | with_reducible refine Ext.drew ?_ | with_reducible refine Ext.setCell ?_ (Nat.le_refl _) _ | with_reducible refine Ext.alloc ?_ _))
             (first
               | (go_at_call 57
                  refine (clamp_r _ _ _).mono ?_
                  rintro e w' ⟨rfl,rfl⟩))
            all_goals
             go_wp2_with fail
             go_meet
             exact⟨rfl,rfl⟩
           case rest =>
            obtain⟨rfl,rfl⟩:=hcut
            have g1:=Blk.new wr (.cells #[.int .i64 1,.int .i64 bi,.int .i64 ci,.int .i64 n,.int .i64 q.wr,.int .i64 (-1),.int .i64 (clamp q.top 255)] 87)
            have x1:Ext wr (wr.alloc (.cells #[.int .i64 1,.int .i64 bi,.int .i64 ci,.int .i64 n,.int .i64 q.wr,.int .i64 (-1),.int .i64 (clamp q.top 255)] 87)).drew:=((Ext.refl wr).alloc _).drew
            replace g1:=g1.drew
            generalize World.drew _=W1 at *
            have c_1:=g1.cells
            have fz:=frozen_of_heap g1
            go_upto_if 82 with fail
            go_cut [15] (fun r wx=>r=.pointer (some ⟨wr.heap.size,0,none⟩)/\Blk wx wr.heap.size (.cells #[.int .i64 1,.int .i64 bi,.int .i64 ci,.int .i64 n,.int .i64 q.wr,.int .i64 (-1),.int .i64 (topM q.top)] 87)/\Ext wr wx)
            case first =>
             by_cases hz:clamp q.top 255=0
             · have hz2:(clamp q.top 255==0)=true:=by simpa using hz
               go_wp2_with fail
               go_meet
               refine⟨rfl,?_,x1.setCell (Nat.le_refl _) _⟩
               have:=heap_setCell (i:=6) g1 (.int .i64 1)
               rw [show topM q.top=1 from by unfold topM;rw [if_pos hz]]
               exact this
             · have hz2:(clamp q.top 255==0)=false:=by simpa using hz
               go_wp2_with fail
               go_meet
               refine⟨rfl,?_,x1⟩
               rw [show topM q.top=clamp q.top 255 from by unfold topM;rw [if_neg hz]]
               exact g1
            case rest =>
             obtain⟨rfl,g2,x2⟩:=hcut
             clear g1 x1 c_1 fz W1
             obtain⟨e3,e4⟩:=hS wc x2
             have c_2:=g2.cells
             have fz:=frozen_of_heap g2
             have hk:kindM 1 q.wr=1:=by unfold kindM;rw [if_neg (by omega)]
             have hrg:regOf n 1 bi ci q=⟨1,bi,ci,n,q.wr,-1,topM q.top⟩:=by unfold regOf;rw [hk]
             have htm:=topM_bd q.top
             have hdn:Drawn ⟨1,bi,ci,n,q.wr,-1,topM q.top⟩:=⟨by simp,hbi,hci,⟨n1,n2⟩,⟨w1,w2⟩,(fun h=>by cases h),rfl,htm⟩
             have hlf:=Lib.hid (show layFrom n 1 (l.drop j) bi ci=if fineM ⟨1,bi,ci,n,q.wr,-1,topM q.top⟩ then (layFrom n 1 (l.drop (j+1)) (bi+cellsM ⟨1,bi,ci,n,q.wr,-1,topM q.top⟩) (ci+localsM ⟨1,bi,ci,n,q.wr,-1,topM q.top⟩)).map (⟨1,bi,ci,n,q.wr,-1,topM q.top⟩ :: ·) else none from by rw [hdrh.out,layFrom_cons,hrg])
             have hFF:=fun W=>fine_r ⟨1,bi,ci,n,q.wr,-1,topM q.top⟩ W hdn
             have hCC:=fun W=>cells_r ⟨1,bi,ci,n,q.wr,-1,topM q.top⟩ W (by simp) ⟨n1,n2⟩
             have hLL:=fun W=>locals_r ⟨1,bi,ci,n,q.wr,-1,topM q.top⟩ W (by simp) ⟨n1,n2⟩
             have hcn:=cells_nat ⟨1,bi,ci,n,q.wr,-1,topM q.top⟩ ⟨n1,n2⟩
             have hfb:fineM ⟨1,bi,ci,n,q.wr,-1,topM q.top⟩=true->bi<=32768/\ci<=32768:=by
              unfold fineM
              simp only [Bool.and_eq_true,decide_eq_true_eq]
              omega
             clear hdn hk hrg htm hdrh
             unfold encR at hFF hCC hLL
             generalize topM q.top=tp at *
             generalize cellsM _=C at *
             generalize localsM _=D at *
             generalize hfm:fineM _=F at *
             clear hfm
             go_wp2_with fail
             have g3:=g2
             have x3:=x2
             generalize wc=W at *
             clear g2 x2 c_2 fz e3 e4
             refine (hFF _).mono ?_
             rintro e w3 ⟨rfl,hx⟩
             clear hFF
             replace g3:=g3.ext hx
             replace x3:=x3.trans hx
             clear hx
             have c_3:=g3.cells
             cases F with
             | false =>
               have hres:=Lib.hid (show layM l n 1 base loc=none from by rw [hlay.out,hMh.out,hlf.out];rfl)
               go_wp2_with fail
               rw [hres.out]
               exact bodyPost_ret (v:=.tuple #[.slice none 0 0,.int .i64 6]) (by simp [results,Tryz.results35,go_sem]) rfl ⟨hE.trans x3,6,by decide,rfl⟩
             | true =>
               obtain⟨hb1,hb2⟩:=hfb rfl
               have s1:=IntWalk.i64_in (bi+C) (by omega)
               have s2:=IntWalk.i64_in (ci+D) (by omega)
               have hown3:=row_ext hownh.out x3
               have hRn:Hid (u13.ownBlock≠some wr.heap.size):=Lib.hid fun e=>by have:=(hownh.out.lt _ e).2;omega
               have hE3:=hE.trans x3
               have hM2:=Lib.hid (show layFrom n 1 l base loc=(layFrom n 1 (l.drop (j+1)) (bi+C) (ci+D)).map ((pre++[⟨1,bi,ci,n,q.wr,-1,tp⟩])++·) from by
                rw [hMh.out,hlf.out]
                simp only [if_true,Option.map_map]
                congr 1
                funext x
                simp)
               clear hfb hlf hMh hownh hb1 hb2
               go_wp2_with (at_builtin;refine append_rec info_reg Tryz.underlying29 rfl (by decide) (by decide) rfl _ _ rfl _ j (pre.flatMap regVals) [.int .i64 1,.int .i64 bi,.int .i64 ci,.int .i64 n,.int .i64 q.wr,.int .i64 (-1),.int .i64 tp] hE3 hown3 rfl rfl rfl (by simp [Value.oneCell']) (by omega) ?_)
               intro v' w4 ho4 hx4 hbk
               have g4:Blk w4 wr.heap.size _:=(hbk _ g3.lt hRn.out).trans g3
               have c_4:=g4.cells
               clear hbk hown3 hE3 c_3 hRn g3 x3
               go_wp2_with fail
               refine (hCC _).mono ?_
               rintro e w5 ⟨rfl,hx⟩
               replace g4:=g4.ext hx
               replace ho4:=row_ext ho4 hx
               replace hx4:=hx4.trans hx
               clear c_4 hx hCC
               have c_4:=g4.cells
               go_wp2_with fail
               refine (hLL _).mono ?_
               rintro e w6 ⟨rfl,hx⟩
               replace ho4:=row_ext ho4 hx
               replace hx4:=hx4.trans hx
               clear c_4 g4 hx hLL
               have ho5:=Lib.hid ho4
               clear ho4
               go_wp2_with fail
               refine⟨⟨j+1,bi+C,ci+D,pre++[⟨1,bi,ci,n,q.wr,-1,tp⟩],rfl,rfl,by go_num,by omega,by simp [hpl],by omega,by omega,hM2,by rw [List.flatMap_append];exact ho5.out,hx4⟩,?_⟩
               simp [intOf];omega
         · have hf:layFrom n 1 l base loc=some pre:=by
            rw [hM.out,List.drop_eq_nil_of_le (by omega)]
            simp [layFrom]
           have hres:=Lib.hid (hlay.out.trans hf)
           clear hM hf hlay hwr
           have hownh:=Lib.hid hown
           clear hown
           go_wp2_with fail
           rw [hres.out]
           refine bodyPost_ret (v:=.tuple #[u13,.int .i64 0]) (by simp [results,Tryz.results35,go_sem]) rfl ?_
           exact⟨hE,u13,rfl,by rw [hpl];exact hownh.out⟩
   · have hgood:=Lib.hid (fun hq=>argsM_good (l:=l) h0 hq)
     have hbad:=Lib.hid (fun (i:Nat) q hq hx=>argsM_bad (l:=l) (n:=n) (mode:=2) (b:=base) (c:=loc) (i:=i) (q:=q) hq hx)
     obtain⟨-,-,n1,n2,b1,l1⟩:=h0
     go_enter Tryz.func35,Tryz.ntmps35
     have d3:decide (n<1)=false:=by rw [decide_eq_false_iff_not];omega
     have d4:decide (8<n)=false:=by rw [decide_eq_false_iff_not];omega
     have d5:decide (base<0)=false:=by rw [decide_eq_false_iff_not];omega
     have d6:decide (loc<0)=false:=by rw [decide_eq_false_iff_not];omega
     go_wp2_with fail
     go_loopw [12] (fun i wr=>∃ j:Nat,i=.int .i64 j/\j<=l.length/\Hid (∀ (k:Nat) q,k<j->l[k]?=some q->-1<=q.wr/\q.wr<n)/\w=wr) (fun i _=>l.length-(intOf i).toNat)
     case atStart=>exact⟨0,rfl,by omega,fun k q hk=>by omega,rfl⟩
     case round =>
      obtain⟨j,rfl,hj,hs,rfl⟩:=hrel
      by_cases hl:j<l.length
      · obtain⟨q,hq⟩:∃ q,l[j]?=some q:=⟨_,List.getElem?_eq_getElem hl⟩
        obtain⟨b,rfl,hb,e1,e2⟩:=want_at hv hq
        by_cases f1:q.wr < -1
        · have d7:decide (q.wr < -1)=true:=by simpa using f1
          have hf:=Lib.hid (hbad.out j q hq (by omega))
          clear hq hgood hbad hs
          go_wp2_with fail
          rw [hf.out]
          refine bodyPost_ret (v:=.tuple #[.slice none 0 0,.int .i64 1]) (by simp [results,Tryz.results35,go_sem]) rfl ?_
          exact⟨Ext.refl _,1,by decide,rfl⟩
        · have d7:decide (q.wr < -1)=false:=by rw [decide_eq_false_iff_not];omega
          by_cases f2:n<=q.wr
          · have d8:decide (n<=q.wr)=true:=by simpa using f2
            have hf:=Lib.hid (hbad.out j q hq (by omega))
            clear hq hgood hbad hs
            go_wp2_with fail
            rw [hf.out]
            refine bodyPost_ret (v:=.tuple #[.slice none 0 0,.int .i64 1]) (by simp [results,Tryz.results35,go_sem]) rfl ?_
            exact⟨Ext.refl _,1,by decide,rfl⟩
          · have d8:decide (n<=q.wr)=false:=by rw [decide_eq_false_iff_not];omega
            have hs2:Hid (∀ (k:Nat) q,k<j+1->l[k]?=some q->-1<=q.wr/\q.wr<n):=Lib.hid fun k q' hk hq'=>by
             by_cases e:k=j
             · subst e
               rw [hq] at hq'
               obtain rfl:q=q':=by simpa using hq'
               omega
             · exact hs.out k q' (by omega) hq'
            clear hq hs hgood hbad
            go_wp2_with fail
            refine⟨⟨j+1,by go_num,by omega,hs2,by trivial⟩,?_⟩
            simp [intOf];omega
      · have hlay:=Lib.hid (hgood.out fun k q hq=>hs.out k q (by have:=(List.getElem?_eq_some_iff.1 hq).1;omega) hq)
        have hwr:=Lib.hid (fun (k:Nat) (q:Want) (hq:l[k]?=some q)=>hs.out k q (by have:=(List.getElem?_eq_some_iff.1 hq).1;omega) hq)
        clear hgood hbad hs
        go_wp2_with fail
        go_loopw [3,4,13,14] (fun b' c' v i wr=>∃ (j:Nat) (bi ci:Int) (pre:List Reg),b'=.int .i64 bi/\c'=.int .i64 ci/\i=.int .i64 j/\j<=l.length/\pre.length=j/\0<=bi/\0<=ci/\Hid (layFrom n 2 l base loc=(layFrom n 2 (l.drop j) bi ci).map (pre++·))/\wr.ownsRow w.heap.size 87 7 v j (pre.flatMap regVals)/\Ext w wr) (fun _ _ _ i _=>l.length-(intOf i).toNat)
        case atStart=>exact⟨0,base,loc,[],rfl,rfl,rfl,by omega,rfl,b1,l1,by unfold Hid;simp,World.ownsRow_nil _ _ _ _,Ext.refl _⟩
        case round =>
         obtain⟨j,bi,ci,pre,rfl,rfl,rfl,hj,hpl,hbi,hci,hM,hown,hE⟩:=hrel
         by_cases hl:j<l.length
         · obtain⟨q,hq⟩:∃ q,l[j]?=some q:=⟨_,List.getElem?_eq_getElem hl⟩
           obtain⟨b,rfl,hb,e1,e2⟩:=want_at (hv.ext hE) hq
           obtain⟨w1,w2⟩:=hwr.out j q hq
           have hdr:l.drop j=q :: l.drop (j+1):=by
            rw [List.drop_eq_getElem_cons hl]
            congr 1
            rw [List.getElem?_eq_getElem hl] at hq
            simpa using hq
           have hMh:=Lib.hid hM
           have hownh:=Lib.hid hown
           have hdrh:=Lib.hid hdr
           clear hM hown hdr hq
           have hS:∀ w',Ext wr w'->w'.cell? ⟨b,j*2,none⟩=some (.int .i64 q.wr)/\w'.cell? ⟨b,j*2+1,none⟩=some (.int .i64 q.top):=fun w' hx=>⟨(hx.cell (p:=⟨b,j*2,none⟩) hb).trans e1,(hx.cell (p:=⟨b,j*2+1,none⟩) hb).trans e2⟩
           go_upto_region 12 with fail
           go_cut [15] (fun r wx=>r=.pointer (some ⟨wr.heap.size,0,none⟩)/\wx=(wr.alloc (.cells #[.int .i64 1,.int .i64 bi,.int .i64 ci,.int .i64 n,.int .i64 q.wr,.int .i64 (-1),.int .i64 (clamp q.top 255)] 87)).drew)
           case first =>
            go_region_held2 (fun w'=>w'.cell? ⟨b,j*2,none⟩=some (.int .i64 q.wr)/\w'.cell? ⟨b,j*2+1,none⟩=some (.int .i64 q.top)) (first | exact hS _ ((Ext.refl _).drew) | (refine hS _ ?_;repeat first | with_reducible exact Ext.refl _ | with_reducible refine Ext.drew ?_ | with_reducible refine Ext.setCell ?_ (Nat.le_refl _) _ | with_reducible refine Ext.alloc ?_ _))
             (first
               | (go_at_call 57
                  refine (clamp_r _ _ _).mono ?_
                  rintro e w' ⟨rfl,rfl⟩))
            all_goals
             go_wp2_with fail
             go_meet
             exact⟨rfl,rfl⟩
           case rest =>
            obtain⟨rfl,rfl⟩:=hcut
            have g1:=Blk.new wr (.cells #[.int .i64 1,.int .i64 bi,.int .i64 ci,.int .i64 n,.int .i64 q.wr,.int .i64 (-1),.int .i64 (clamp q.top 255)] 87)
            have x1:Ext wr (wr.alloc (.cells #[.int .i64 1,.int .i64 bi,.int .i64 ci,.int .i64 n,.int .i64 q.wr,.int .i64 (-1),.int .i64 (clamp q.top 255)] 87)).drew:=((Ext.refl wr).alloc _).drew
            replace g1:=g1.drew
            generalize World.drew _=W1 at *
            have c_1:=g1.cells
            have fz:=frozen_of_heap g1
            go_upto_if 82 with fail
            go_cut [15] (fun r wx=>r=.pointer (some ⟨wr.heap.size,0,none⟩)/\Blk wx wr.heap.size (.cells #[.int .i64 1,.int .i64 bi,.int .i64 ci,.int .i64 n,.int .i64 q.wr,.int .i64 (-1),.int .i64 (topM q.top)] 87)/\Ext wr wx)
            case first =>
             by_cases hz:clamp q.top 255=0
             · have hz2:(clamp q.top 255==0)=true:=by simpa using hz
               go_wp2_with fail
               go_meet
               refine⟨rfl,?_,x1.setCell (Nat.le_refl _) _⟩
               have:=heap_setCell (i:=6) g1 (.int .i64 1)
               rw [show topM q.top=1 from by unfold topM;rw [if_pos hz]]
               exact this
             · have hz2:(clamp q.top 255==0)=false:=by simpa using hz
               go_wp2_with fail
               go_meet
               refine⟨rfl,?_,x1⟩
               rw [show topM q.top=clamp q.top 255 from by unfold topM;rw [if_neg hz]]
               exact g1
            case rest =>
             obtain⟨rfl,g2,x2⟩:=hcut
             clear g1 x1 c_1 fz W1
             obtain⟨e3,e4⟩:=hS wc x2
             have c_2:=g2.cells
             have fz:=frozen_of_heap g2
             by_cases hw0:0<=q.wr
             · have dw:decide (0<=q.wr)=true:=by simpa using hw0
               have dv:decide (q.wr<0)=false:=by rw [decide_eq_false_iff_not];omega
               have hk:kindM 2 q.wr=6:=by unfold kindM;rw [if_pos rfl,if_pos hw0]
               have hrg:regOf n 2 bi ci q=⟨6,bi,ci,n,q.wr,-1,topM q.top⟩:=by unfold regOf;rw [hk]
               have htm:=topM_bd q.top
               have hdn:Drawn ⟨6,bi,ci,n,q.wr,-1,topM q.top⟩:=⟨by simp,hbi,hci,⟨n1,n2⟩,⟨w1,w2⟩,fun _=>hw0,rfl,htm⟩
               have hlf:=Lib.hid (show layFrom n 2 (l.drop j) bi ci=if fineM ⟨6,bi,ci,n,q.wr,-1,topM q.top⟩ then (layFrom n 2 (l.drop (j+1)) (bi+cellsM ⟨6,bi,ci,n,q.wr,-1,topM q.top⟩) (ci+localsM ⟨6,bi,ci,n,q.wr,-1,topM q.top⟩)).map (⟨6,bi,ci,n,q.wr,-1,topM q.top⟩ :: ·) else none from by rw [hdrh.out,layFrom_cons,hrg])
               have hFF:=fun W=>fine_r ⟨6,bi,ci,n,q.wr,-1,topM q.top⟩ W hdn
               have hCC:=fun W=>cells_r ⟨6,bi,ci,n,q.wr,-1,topM q.top⟩ W (by simp) ⟨n1,n2⟩
               have hLL:=fun W=>locals_r ⟨6,bi,ci,n,q.wr,-1,topM q.top⟩ W (by simp) ⟨n1,n2⟩
               have hcn:=cells_nat ⟨6,bi,ci,n,q.wr,-1,topM q.top⟩ ⟨n1,n2⟩
               have hfb:fineM ⟨6,bi,ci,n,q.wr,-1,topM q.top⟩=true->bi<=32768/\ci<=32768:=by
                unfold fineM
                simp only [Bool.and_eq_true,decide_eq_true_eq]
                omega
               clear hdn hk hrg htm hdrh
               unfold encR at hFF hCC hLL
               generalize topM q.top=tp at *
               generalize cellsM _=C at *
               generalize localsM _=D at *
               generalize hfm:fineM _=F at *
               clear hfm
               go_wp2_with fail
               have g3:=heap_setCell (i:=0) g2 (.int .i64 6)
               have x3:=x2.setCell (p:=⟨wr.heap.size,0,none⟩) (Nat.le_refl _) (.int .i64 6)
               replace g3:Blk (wc.setCell ⟨wr.heap.size,0,none⟩ (.int .i64 6)) wr.heap.size (.cells #[.int .i64 6,.int .i64 bi,.int .i64 ci,.int .i64 n,.int .i64 q.wr,.int .i64 (-1),.int .i64 tp] 87):=g3
               generalize wc.setCell _ _=W at *
               clear g2 x2 c_2 fz e3 e4
               refine (hFF _).mono ?_
               rintro e w3 ⟨rfl,hx⟩
               clear hFF
               replace g3:=g3.ext hx
               replace x3:=x3.trans hx
               clear hx
               have c_3:=g3.cells
               cases F with
               | false =>
                 have hres:=Lib.hid (show layM l n 2 base loc=none from by rw [hlay.out,hMh.out,hlf.out];rfl)
                 go_wp2_with fail
                 rw [hres.out]
                 exact bodyPost_ret (v:=.tuple #[.slice none 0 0,.int .i64 6]) (by simp [results,Tryz.results35,go_sem]) rfl ⟨hE.trans x3,6,by decide,rfl⟩
               | true =>
                 obtain⟨hb1,hb2⟩:=hfb rfl
                 have s1:=IntWalk.i64_in (bi+C) (by omega)
                 have s2:=IntWalk.i64_in (ci+D) (by omega)
                 have hown3:=row_ext hownh.out x3
                 have hRn:Hid (u13.ownBlock≠some wr.heap.size):=Lib.hid fun e=>by have:=(hownh.out.lt _ e).2;omega
                 have hE3:=hE.trans x3
                 have hM2:=Lib.hid (show layFrom n 2 l base loc=(layFrom n 2 (l.drop (j+1)) (bi+C) (ci+D)).map ((pre++[⟨6,bi,ci,n,q.wr,-1,tp⟩])++·) from by
                  rw [hMh.out,hlf.out]
                  simp only [if_true,Option.map_map]
                  congr 1
                  funext x
                  simp)
                 clear hfb hlf hMh hownh hb1 hb2
                 go_wp2_with (at_builtin;refine append_rec info_reg Tryz.underlying29 rfl (by decide) (by decide) rfl _ _ rfl _ j (pre.flatMap regVals) [.int .i64 6,.int .i64 bi,.int .i64 ci,.int .i64 n,.int .i64 q.wr,.int .i64 (-1),.int .i64 tp] hE3 hown3 rfl rfl rfl (by simp [Value.oneCell']) (by omega) ?_)
                 intro v' w4 ho4 hx4 hbk
                 have g4:Blk w4 wr.heap.size _:=(hbk _ g3.lt hRn.out).trans g3
                 have c_4:=g4.cells
                 clear hbk hown3 hE3 c_3 hRn g3 x3
                 go_wp2_with fail
                 refine (hCC _).mono ?_
                 rintro e w5 ⟨rfl,hx⟩
                 replace g4:=g4.ext hx
                 replace ho4:=row_ext ho4 hx
                 replace hx4:=hx4.trans hx
                 clear c_4 hx hCC
                 have c_4:=g4.cells
                 go_wp2_with fail
                 refine (hLL _).mono ?_
                 rintro e w6 ⟨rfl,hx⟩
                 replace ho4:=row_ext ho4 hx
                 replace hx4:=hx4.trans hx
                 clear c_4 g4 hx hLL
                 have ho5:=Lib.hid ho4
                 clear ho4
                 go_wp2_with fail
                 refine⟨⟨j+1,bi+C,ci+D,pre++[⟨6,bi,ci,n,q.wr,-1,tp⟩],rfl,rfl,by go_num,by omega,by simp [hpl],by omega,by omega,hM2,by rw [List.flatMap_append];exact ho5.out,hx4⟩,?_⟩
                 simp [intOf];omega
             · have dw:decide (0<=q.wr)=false:=by simpa using hw0
               have dv:decide (q.wr<0)=true:=by rw [decide_eq_true_eq];omega
               have hk:kindM 2 q.wr=7:=by unfold kindM;rw [if_pos rfl,if_neg hw0]
               have hrg:regOf n 2 bi ci q=⟨7,bi,ci,n,q.wr,-1,topM q.top⟩:=by unfold regOf;rw [hk]
               have htm:=topM_bd q.top
               have hdn:Drawn ⟨7,bi,ci,n,q.wr,-1,topM q.top⟩:=⟨by simp,hbi,hci,⟨n1,n2⟩,⟨w1,w2⟩,(fun h=>by cases h),rfl,htm⟩
               have hlf:=Lib.hid (show layFrom n 2 (l.drop j) bi ci=if fineM ⟨7,bi,ci,n,q.wr,-1,topM q.top⟩ then (layFrom n 2 (l.drop (j+1)) (bi+cellsM ⟨7,bi,ci,n,q.wr,-1,topM q.top⟩) (ci+localsM ⟨7,bi,ci,n,q.wr,-1,topM q.top⟩)).map (⟨7,bi,ci,n,q.wr,-1,topM q.top⟩ :: ·) else none from by rw [hdrh.out,layFrom_cons,hrg])
               have hFF:=fun W=>fine_r ⟨7,bi,ci,n,q.wr,-1,topM q.top⟩ W hdn
               have hCC:=fun W=>cells_r ⟨7,bi,ci,n,q.wr,-1,topM q.top⟩ W (by simp) ⟨n1,n2⟩
               have hLL:=fun W=>locals_r ⟨7,bi,ci,n,q.wr,-1,topM q.top⟩ W (by simp) ⟨n1,n2⟩
               have hcn:=cells_nat ⟨7,bi,ci,n,q.wr,-1,topM q.top⟩ ⟨n1,n2⟩
               have hfb:fineM ⟨7,bi,ci,n,q.wr,-1,topM q.top⟩=true->bi<=32768/\ci<=32768:=by
                unfold fineM
                simp only [Bool.and_eq_true,decide_eq_true_eq]
                omega
               clear hdn hk hrg htm hdrh
               unfold encR at hFF hCC hLL
               generalize topM q.top=tp at *
               generalize cellsM _=C at *
               generalize localsM _=D at *
               generalize hfm:fineM _=F at *
               clear hfm
               go_wp2_with fail
               have g3:=heap_setCell (i:=0) g2 (.int .i64 7)
               have x3:=x2.setCell (p:=⟨wr.heap.size,0,none⟩) (Nat.le_refl _) (.int .i64 7)
               replace g3:Blk (wc.setCell ⟨wr.heap.size,0,none⟩ (.int .i64 7)) wr.heap.size (.cells #[.int .i64 7,.int .i64 bi,.int .i64 ci,.int .i64 n,.int .i64 q.wr,.int .i64 (-1),.int .i64 tp] 87):=g3
               generalize wc.setCell _ _=W at *
               clear g2 x2 c_2 fz e3 e4
               refine (hFF _).mono ?_
               rintro e w3 ⟨rfl,hx⟩
               clear hFF
               replace g3:=g3.ext hx
               replace x3:=x3.trans hx
               clear hx
               have c_3:=g3.cells
               cases F with
               | false =>
                 have hres:=Lib.hid (show layM l n 2 base loc=none from by rw [hlay.out,hMh.out,hlf.out];rfl)
                 go_wp2_with fail
                 rw [hres.out]
                 exact bodyPost_ret (v:=.tuple #[.slice none 0 0,.int .i64 6]) (by simp [results,Tryz.results35,go_sem]) rfl ⟨hE.trans x3,6,by decide,rfl⟩
               | true =>
                 obtain⟨hb1,hb2⟩:=hfb rfl
                 have s1:=IntWalk.i64_in (bi+C) (by omega)
                 have s2:=IntWalk.i64_in (ci+D) (by omega)
                 have hown3:=row_ext hownh.out x3
                 have hRn:Hid (u13.ownBlock≠some wr.heap.size):=Lib.hid fun e=>by have:=(hownh.out.lt _ e).2;omega
                 have hE3:=hE.trans x3
                 have hM2:=Lib.hid (show layFrom n 2 l base loc=(layFrom n 2 (l.drop (j+1)) (bi+C) (ci+D)).map ((pre++[⟨7,bi,ci,n,q.wr,-1,tp⟩])++·) from by
                  rw [hMh.out,hlf.out]
                  simp only [if_true,Option.map_map]
                  congr 1
                  funext x
                  simp)
                 clear hfb hlf hMh hownh hb1 hb2
                 go_wp2_with (at_builtin;refine append_rec info_reg Tryz.underlying29 rfl (by decide) (by decide) rfl _ _ rfl _ j (pre.flatMap regVals) [.int .i64 7,.int .i64 bi,.int .i64 ci,.int .i64 n,.int .i64 q.wr,.int .i64 (-1),.int .i64 tp] hE3 hown3 rfl rfl rfl (by simp [Value.oneCell']) (by omega) ?_)
                 intro v' w4 ho4 hx4 hbk
                 have g4:Blk w4 wr.heap.size _:=(hbk _ g3.lt hRn.out).trans g3
                 have c_4:=g4.cells
                 clear hbk hown3 hE3 c_3 hRn g3 x3
                 go_wp2_with fail
                 refine (hCC _).mono ?_
                 rintro e w5 ⟨rfl,hx⟩
                 replace g4:=g4.ext hx
                 replace ho4:=row_ext ho4 hx
                 replace hx4:=hx4.trans hx
                 clear c_4 hx hCC
                 have c_4:=g4.cells
                 go_wp2_with fail
                 refine (hLL _).mono ?_
                 rintro e w6 ⟨rfl,hx⟩
                 replace ho4:=row_ext ho4 hx
                 replace hx4:=hx4.trans hx
                 clear c_4 g4 hx hLL
                 have ho5:=Lib.hid ho4
                 clear ho4
                 go_wp2_with fail
                 refine⟨⟨j+1,bi+C,ci+D,pre++[⟨7,bi,ci,n,q.wr,-1,tp⟩],rfl,rfl,by go_num,by omega,by simp [hpl],by omega,by omega,hM2,by rw [List.flatMap_append];exact ho5.out,hx4⟩,?_⟩
                 simp [intOf];omega
         · have hf:layFrom n 2 l base loc=some pre:=by
            rw [hM.out,List.drop_eq_nil_of_le (by omega)]
            simp [layFrom]
           have hres:=Lib.hid (hlay.out.trans hf)
           clear hM hf hlay hwr
           have hownh:=Lib.hid hown
           clear hown
           go_wp2_with fail
           rw [hres.out]
           refine bodyPost_ret (v:=.tuple #[u13,.int .i64 0]) (by simp [results,Tryz.results35,go_sem]) rfl ?_
           exact⟨hE,u13,rfl,by rw [hpl];exact hownh.out⟩
 · rw [argsM_false h0]
   go_enter Tryz.func35,Tryz.ntmps35
   have hfin:LayPost w.heap.size w none (.returned (.tuple #[.slice none 0 0,.int .i64 1])) w:=⟨Ext.refl _,1,by decide,rfl⟩
   by_cases m1:mode<1
   · have d1:decide (mode<1)=true:=by simpa using m1
     go_wp2_with fail
     exact bodyPost_ret (v:=.tuple #[.slice none 0 0,.int .i64 1]) (by simp [results,Tryz.results35,go_sem]) rfl hfin
   · have d1:decide (mode<1)=false:=by simpa using m1
     by_cases m2:2<mode
     · have d2:decide (2<mode)=true:=by simpa using m2
       go_wp2_with fail
       exact bodyPost_ret (v:=.tuple #[.slice none 0 0,.int .i64 1]) (by simp [results,Tryz.results35,go_sem]) rfl hfin
     · have d2:decide (2<mode)=false:=by simpa using m2
       by_cases m3:n<1
       · have d3:decide (n<1)=true:=by simpa using m3
         go_wp2_with fail
         exact bodyPost_ret (v:=.tuple #[.slice none 0 0,.int .i64 1]) (by simp [results,Tryz.results35,go_sem]) rfl hfin
       · have d3:decide (n<1)=false:=by simpa using m3
         by_cases m4:8<n
         · have d4:decide (8<n)=true:=by simpa using m4
           go_wp2_with fail
           exact bodyPost_ret (v:=.tuple #[.slice none 0 0,.int .i64 1]) (by simp [results,Tryz.results35,go_sem]) rfl hfin
         · have d4:decide (8<n)=false:=by simpa using m4
           by_cases m5:base<0
           · have d5:decide (base<0)=true:=by simpa using m5
             go_wp2_with fail
             exact bodyPost_ret (v:=.tuple #[.slice none 0 0,.int .i64 1]) (by simp [results,Tryz.results35,go_sem]) rfl hfin
           · have d5:decide (base<0)=false:=by simpa using m5
             have d6:decide (loc<0)=true:=by rw [decide_eq_true_eq];omega
             go_wp2_with fail
             exact bodyPost_ret (v:=.tuple #[.slice none 0 0,.int .i64 1]) (by simp [results,Tryz.results35,go_sem]) rfl hfin
end Go.Proofs.YtbphlkaihfbgeaaGreat
namespace Kv
end Kv
namespace Go.Proofs.YtbphlkaihfbgeaaGreat
open Go.RowKit Kv
@[go_sem] theorem build_want (a b:Int) (w:World):(Instr.build 54 #[(0,.int .i64 a),(1,.int .i64 b)]).run Tryz.prog w=.ok (.agg #[.int .i64 a,.int .i64 b]) w:=run_build w 54 _ _ (by kernel_rfl)
@[go_sem] theorem build_regn (a:Int) (w:World):(Instr.build 87 #[(3,.int .i64 a)]).run Tryz.prog w=.ok (.agg #[.int .i64 0,.int .i64 0,.int .i64 0,.int .i64 a,.int .i64 0,.int .i64 0,.int .i64 0]) w:=run_build w 87 _ _ (by kernel_rfl)
set_option maxRecDepth 100000 in
theorem same_w (va vb:Value)(l:List Want)(w:World)(ha:WantsAt w va l)(hb:WantsAt w vb l)(hlen:l.length<=1000000):Calls Tryz.prog 7 #[va,vb] w fun e w'=>e=.returned (.bool true)/\Ext w w':=by
 obtain⟨A,c,rfl,q1,q2,ha⟩:=ha
 obtain⟨B,d,rfl,q3,q4,hb⟩:=hb
 go_enter Tryz.func7,Tryz.ntmps7
 go_wp2_with fail
 go_loopw [5] (fun i wr=>∃ j:Nat,i=.int .i64 j/\j<=l.length/\Drew w wr) (fun i _=>l.length-(intOf i).toNat)
 case atStart=>exact⟨0,rfl,by omega,Drew.rfl' _⟩
 case round =>
  obtain⟨j,rfl,hj,n,rfl⟩:=hrel
  by_cases hl:j<l.length
  · obtain⟨q,hq⟩:∃ q,l[j]?=some q:=⟨_,List.getElem?_eq_getElem hl⟩
    obtain⟨p1,rfl,hp1,e1,e2⟩:=want_at ha hq
    obtain⟨p2,rfl,hp2,e4,e5⟩:=want_at hb hq
    obtain⟨x1,x2⟩:=q
    simp only at e1 e2 e4 e5
    clear hq
    go_wp2_with fail
    go_quiet (fail)
    go_wp2_with fail
    refine⟨⟨j+1,by go_num,by omega,by first | exact Drew.mk' _ _ | exact (Drew.mk' w n).trans (Drew.mk' _ _)⟩,?_⟩
    simp [intOf];omega
  · have hD:Drew w (w.drewN n):=Drew.mk' _ _
    go_wp2_with fail
    go_ret
    exact⟨rfl,hD.ext⟩
theorem some_r (va:Value)(l:List Want)(n mode:Int)(w:World)(h:WantsAt w va l)(hlen:l.length<=1000) :
  Calls Tryz.prog 10 #[va,.int .i64 n,.int .i64 mode] w fun e w'=>∃ v,e=.returned v/\Ext w w'/\w'.ownsRow w.heap.size 87 7 v ((layM l n mode 3 2).getD []).length (((layM l n mode 3 2).getD []).flatMap regVals):=by
 have hL:=lay_r va l n mode 3 2 w h hlen
 unfold LayPost at hL
 obtain⟨A,c,rfl,q1,q2,hv⟩:=h
 cases hc:layM l n mode 3 2 with
 | none =>
   rw [hc] at hL
   go_enter Tryz.func10,Tryz.ntmps10
   go_wp2_with fail
   refine hL.mono ?_
   rintro e w' ⟨hx,x,hx0,rfl⟩
   have hb:(x != 0)=true:=by rw [bne_iff_ne];exact hx0
   clear hx0 hL hc
   go_wp2_with fail
   go_ret
   exact⟨_,rfl,hx,World.ownsRow_nil _ _ _ _⟩
 | some rs =>
   rw [hc] at hL
   go_enter Tryz.func10,Tryz.ntmps10
   go_wp2_with fail
   refine hL.mono ?_
   rintro e w' ⟨hx,v,rfl,ho⟩
   have hoh:=Lib.hid ho
   clear ho hL hc
   go_wp2_with fail
   go_ret
   exact⟨_,rfl,hx,hoh.out⟩
structure Near (W:World) (b n:Nat) (t:TypeId) (w:World):Prop where
 os:w.os=W.os
 tape:w.tape=W.tape
 output:w.output=W.output
 size:W.heap.size<=w.heap.size
 rest:∀ k,k<W.heap.size->k≠b->w.heap[k]?=W.heap[k]?
 blk:∃ cs,w.heap[b]?=some (.cells cs t (0,0))/\cs.size=n
section
variable {W w w':World} {b n:Nat} {t:TypeId}
theorem Near.new {cs:Array Value}(h:W.heap[b]?=some (.cells cs t (0,0)))(hn:cs.size=n):Near W b n t W:=⟨rfl,rfl,rfl,Nat.le_refl _,fun _ _ _=>rfl,cs,h,hn⟩
theorem Near.ext (h:Near W b n t w)(hx:Ext w w'):Near W b n t w':=by
 obtain⟨cs,h1,h2⟩:=h.blk
 exact⟨hx.os.trans h.os,hx.tape.trans h.tape,hx.output.trans h.output,Nat.le_trans h.size hx.size,fun k hk hb=>(Below.block hx k (Nat.lt_of_lt_of_le hk h.size)).trans (h.rest k hk hb),cs,(Below.block hx b (Array.getElem?_eq_some_iff.1 h1).1).trans h1,h2⟩
theorem Near.drew (h:Near W b n t w):Near W b n t w.drew:=h.ext (Ext.refl w).drew
theorem Near.set (h:Near W b n t w)(i:Nat)(u:Value):Near W b n t (w.setCell ⟨b,i,none⟩ u):=by
 obtain⟨cs,h1,h2⟩:=h.blk
 refine⟨h.os,h.tape,h.output,by have:=h.size;simpa using this,fun k hk hb=>(heap_setCell_ne _ _ hb).trans (h.rest k hk hb),_,heap_setCell h1 u,by simpa using h2⟩
theorem Near.cell (h:Near W b n t w){k i:Nat}(hk:k<W.heap.size)(hb:k≠b):w.cell? ⟨k,i,none⟩=W.cell? ⟨k,i,none⟩:=World.cell?_of_block (w:=W) (a:=⟨k,i,none⟩) (h.rest k hk hb)
theorem Near.frozen (h:Near W b n t w)(i:Nat):w.frozen? ⟨b,i,none⟩=false:=by
 obtain⟨cs,h1,h2⟩:=h.blk
 exact frozen_of_heap h1 i
theorem Near.below {B:Nat}{w0:World}(h:Near W b n t w)(h0:Below B w0 W)(hb:B<=b)(hB:B<=W.heap.size):Below B w0 w :=
 h0.trans ⟨h.os,h.tape,h.output,h.size,fun k hk=>h.rest k (by omega) (by omega)⟩
def cellD (w:World) (b i:Nat):Value:=(w.cell? ⟨b,i,none⟩).getD undef
theorem Near.four (h:Near W b 4 t w):∀ i,w.cell? ⟨b,i,none⟩=(#[cellD w b 0,cellD w b 1,cellD w b 2,cellD w b 3]:Array Value)[i]?:=by
 obtain⟨cs,h1,h2⟩:=h.blk
 intro i
 have e:=cell_of_heap h1
 unfold cellD
 rw [e,e,e,e,e]
 match i with
 | 0=>simp [h2]
 | 1=>simp [h2]
 | 2=>simp [h2]
 | 3=>simp [h2]
 | i+4=>simp [h2]
theorem Near.five (h:Near W b 5 t w):∀ i,w.cell? ⟨b,i,none⟩=(#[cellD w b 0,cellD w b 1,cellD w b 2,cellD w b 3,cellD w b 4]:Array Value)[i]?:=by
 obtain⟨cs,h1,h2⟩:=h.blk
 intro i
 have e:=cell_of_heap h1
 unfold cellD
 rw [e,e,e,e,e,e]
 match i with
 | 0=>simp [h2]
 | 1=>simp [h2]
 | 2=>simp [h2]
 | 3=>simp [h2]
 | 4=>simp [h2]
 | i+5=>simp [h2]
end
@[go_sem] theorem build_out (x:Bool) (A1 A2 A3:Option Addr) (n1 n2 n3 c1 c2 c3:Nat) (w:World):(Instr.build 36 #[(0,.bool x),(1,.slice A1 n1 c1),(2,.slice A2 n2 c2),(3,.slice A3 n3 c3)]).run Tryz.prog w=.ok (.agg #[.bool x,.slice A1 n1 c1,.slice A2 n2 c2,.slice A3 n3 c3]) w:=run_build w 36 _ _ (by kernel_rfl)
@[go_sem] theorem as_stop (v:Value) (w:World):(Instr.typeAssert (.iface 66 v) 20 66 true).run Tryz.prog w=.ok (.tuple #[v,.bool true]) w:=by kernel_rfl
@[go_sem] theorem ne_mem (a:Addr) (w:World):(binOp .neq 39 (.pointer (some a)) (.pointer (some a))).run Tryz.prog w=.ok (.bool false) w:=by
 have hs:(Tryz.prog.info? 63).isSome=true:=by kernel_rfl
 obtain⟨j,hj⟩:=Option.isSome_iff_exists.1 hs
 have h:∀ d:Nat,(Op.equalIn (d+1) 39 (.pointer (some a)) (.pointer (some a))).run Tryz.prog w=.ok true w:=fun d=>by
  simp [Op.equalIn,run_underlying Tryz.underlying39,sizeOf,typeInfo,hj,run_sameAddr_same]
 simp only [binOp]
 simp [Op.equal,Op.maxDepth,h 9999]
section
variable {B p b bo:Nat} {w w' W:World} {S:TS} {st:Int} {vA vL vC vN vs:Value} {L:List Int}
theorem PMem.setO (h:PMem B w p S st vA vL vC vN L)(hn:¬ ownR [2,3,4] w p b)(hb:B<=b)(i:Nat)(u:Value):PMem B (w.setCell ⟨b,i,none⟩ u) p S st vA vL vC vN L:=by
 have hp:p≠b:=fun e=>hn (.inl e.symm)
 refine { h with heap:=(heap_setCell_ne _ _ hp).trans h.heap,ans:=ints_set h.ans _ _ ?_,rowL:=row_set h.rowL ?_,rowC:=row_set h.rowC ?_,rowN:=row_set h.rowN ?_ }
 · intro k hk e
   have:=h.ansB k hk
   simp only at e
   omega
 · exact fun e=>hn (ownR_at (i:=2) h.heap (by simp) rfl e)
 · exact fun e=>hn (ownR_at (i:=3) h.heap (by simp) rfl e)
 · exact fun e=>hn (ownR_at (i:=4) h.heap (by simp) rfl e)
theorem Held.setO {ix:List Nat}{k:Nat}{o:Obj}(h:Held ix w p k o)(hk:k≠b)(hn:¬ ownR ix w p b)(i:Nat)(u:Value):Held ix (w.setCell ⟨b,i,none⟩ u) p k o :=
 ⟨(heap_setCell_ne _ _ hk).trans h.1,fun h'=>h.2 ((ownR_same (heap_setCell_ne _ _ (fun e=>hn (.inl e.symm))) k).1 h')⟩
theorem end_out {d x0:Bool}{x1 x2 x3:Value}(HM:PMem B W p S st vA vL vC vN L)(ho:W.heap[bo]?=some (.cells #[.bool x0,x1,x2,x3] 36 (0,0)))(h2:Ext W w')(h1:IntRow w' W.heap.size vs (shortL L)) :
  ((((w'.setCell ⟨bo,0,none⟩ (.bool d)).setCell ⟨bo,1,none⟩ vC).setCell ⟨bo,2,none⟩ vN).setCell ⟨bo,3,none⟩ vs).heap[bo]?=some (.cells #[.bool d,vC,vN,vs] 36 (0,0)) /\
    Outs ((((w'.setCell ⟨bo,0,none⟩ (.bool d)).setCell ⟨bo,1,none⟩ vC).setCell ⟨bo,2,none⟩ vN).setCell ⟨bo,3,none⟩ vs) (.agg #[.bool d,vC,vN,vs]) d S:=by
 have hlt:=(Array.getElem?_eq_some_iff.1 ho).1
 have e0:=(Below.block h2 bo hlt).trans ho
 have rC:=row_ext HM.rowC h2
 have rN:=row_ext HM.rowN h2
 have nC:=row_not rC e0 (by decide)
 have nN:=row_not rN e0 (by decide)
 have hv:∀ k,vs.ownBlock=some k->k≠bo:=fun k hk=>by have:=(h1.lt k hk).1;omega
 have e4:=heap_setCell (i:=3) (heap_setCell (i:=2) (heap_setCell (i:=1) (heap_setCell (i:=0) e0 (.bool d)) vC) vN) vs
 refine⟨e4,outs_of (L:=L) (row_set (row_set (row_set (row_set rC nC) nC) nC) nC) (row_set (row_set (row_set (row_set rN nN) nN) nN) nN) (ints_set (ints_set (ints_set (ints_set h1.ints _ _ hv) _ _ hv) _ _ hv) _ _ hv) HM.loc HM.locN⟩
end
def EndAt (B:Nat) (w w':World) (bg bo:Nat) (v:Value) (d:Bool) (S:TS):Prop :=
 w'.heap[bg]?=some (.cells #[v] 3 (0,0))/\(∃ vC vN vs,w'.heap[bo]?=some (.cells #[.bool d,vC,vN,vs] 36 (0,0))/\Outs w' (.agg #[.bool d,vC,vN,vs]) d S)/\Below B w w'
set_option maxRecDepth 100000 in
set_option maxHeartbeats 1000000 in
theorem end_ok (B p:Nat)(S:TS)(bm bg bo:Nat)(v:Value)(w:World)(h:Plays B w p S)(hm:HeldP w p bm (.cells #[.pointer (some ⟨p,0,none⟩)] 39 (0,0)))(hg:HeldP w p bg (.cells #[v] 3 (0,0)))
  (ho:HeldP w p bo (.cells #[.bool false,.slice none 0 0,.slice none 0 0,.slice none 0 0] 36 (0,0)))(hB2:B<=bo) :
  CallsD Tryz.prog 38 #[.pointer (some ⟨bm,0,none⟩),.pointer (some ⟨bg,0,none⟩),.pointer (some ⟨bo,0,none⟩)] .returning w fun e u' w'=>e=.returned (.tuple #[])/\u'=.returning/\EndAt B w w' bg bo v true S:=by
 obtain⟨h1,vA,vL,vC,vN,L,h⟩:=h
 have hc:=cell_of_heap h.heap
 have hfz:=frozen_of_heap h.heap
 have cm:=hm.cells
 refine callsD_of_wpS Tryz.func38 rfl fun c₀ cs hu=>?_
 simp only [Tryz.ntmps38,List.size_toArray,List.length_cons,List.length_nil,Nat.reduceAdd,Nat.reduceSub,Array.replicate_succ,Array.replicate_zero,List.push_toArray,List.append_toArray,List.nil_append,List.cons_append]
 apply wpS_seq
 refine wpS_of_wp ?_
 go_wp2_with fail
 simp only [Exit.thenS]
 apply wpS_seq
 refine wpS_of_wp ?_
 go_wp2_with fail
 simp only [Exit.thenS]
 obtain⟨HM,HK⟩:=h.state 0
 have hmh:=Lib.hid (hm.keep HK)
 have hgh:=Lib.hid (hg.keep HK).1
 have hoh:=Lib.hid (ho.keep HK)
 have hq:=cell_of_heap HM.heap
 have cm2:=hmh.out.cells
 have HMh:=Lib.hid HM
 have hbel:=Lib.hid HK.below
 clear HM HK hc hfz cm hm hg ho h
 generalize w.setCell ⟨p,0,none⟩ (.int .i64 0)=W at *
 apply wpS_seq
 apply wpS_seq
 apply wpS_region
 simp [wpOpsS,go_sem,recoverD,hu,Exit.thenS]
 refine wpS_of_wp ?_
 go_wp2_with fail
 simp only [Exit.thenS]
 refine wpS_of_wp ?_
 go_wp2_with fail
 have hI:Ints W vL L:=IntRow.ints HMh.out.rowL
 obtain⟨Al,cl,rfl,q1,q2⟩:=hI.slice
 have hIh:=Lib.hid hI
 obtain⟨Ac,cc,rfl,-,-,-⟩:=vals_row HMh.out.rowC
 obtain⟨An,cn,rfl,-,-,-⟩:=vals_row HMh.out.rowN
 have hlen:=HMh.out.locN
 have hplt:=HMh.out.lt
 have hmlt:=hmh.out.lt
 clear hI
 have hpo:p≠bo:=fun e=>hoh.out.2 (.inl e.symm)
 have hmo:bm≠bo:=fun e=>by
  have h1:=hmh.out.1
  rw [e,hoh.out.1] at h1
  injection h1 with h1
  injection h1 with _ h2
  cases h2
 have hlo:(Value.slice Al L.length cl).ownBlock≠some bo:=row_not HMh.out.rowL hoh.out.1 (by decide)
 have hS:∀ w',Near W bo 4 36 w'->((∀ i,w'.cell? ⟨p,i,none⟩=(#[.int .i64 0,vA,.slice Al L.length cl,.slice Ac S.acc.length cc,.slice An S.nts.length cn]:Array Value)[i]?)/\(∀ i,w'.cell? ⟨bm,i,none⟩=(#[.pointer (some ⟨p,0,none⟩)]:Array Value)[i]?)/\(∀ i,w'.cell? ⟨bo,i,none⟩=(#[cellD w' bo 0,cellD w' bo 1,cellD w' bo 2,cellD w' bo 3]:Array Value)[i]?)/\(∀ i,w'.frozen? ⟨bo,i,none⟩=false)/\Near W bo 4 36 w'):=fun w' hx =>
  ⟨fun i=>(hx.cell hplt hpo).trans (hq i),fun i=>(hx.cell hmlt hmo).trans (cm2 i),hx.four,hx.frozen,hx⟩
 have hN:Near W bo 4 36 W:=Near.new hoh.out.1 rfl
 go_region_held2 (fun w'=>(∀ i,w'.cell? ⟨p,i,none⟩=(#[.int .i64 0,vA,.slice Al L.length cl,.slice Ac S.acc.length cc,.slice An S.nts.length cn]:Array Value)[i]?)/\(∀ i,w'.cell? ⟨bm,i,none⟩=(#[.pointer (some ⟨p,0,none⟩)]:Array Value)[i]?)/\(∀ i,w'.cell? ⟨bo,i,none⟩=(#[cellD w' bo 0,cellD w' bo 1,cellD w' bo 2,cellD w' bo 3]:Array Value)[i]?)/\(∀ i,w'.frozen? ⟨bo,i,none⟩=false)/\Near W bo 4 36 w') (first | exact hS _ hN.drew | (refine hS _ ?_;(repeat refine Near.set ?_ _ _);exact hN.drew.ext h2))
  (first
    | (go_at_call 39
       refine (tshort_p Al cl L _ (hIh.out.ext (Ext.refl W).drew) q1 q2 (by omega)).mono ?_
       rintro e w' ⟨v',rfl,h1,h2⟩
       obtain⟨As,cs,rfl,hs1,hs2⟩:=h1.ints.slice))
 obtain⟨f1,f2⟩:=end_out (d:=true) HMh.out hoh.out.1 ((Ext.refl W).drew.trans h2) h1
 have fg:bg≠bo:=fun e=>by
  have h1:=hgh.out
  rw [e,hoh.out.1] at h1
  injection h1 with h1
  injection h1 with _ h2
  cases h2
 refine⟨rfl,FrameMode.returning,(by cases c₀;simp only at hu;subst hu;rfl),.tuple #[],(by simp [results,Tryz.results38,go_sem]),rfl,rfl,?_,⟨_,_,_,f1,f2⟩,?_⟩
 · rw [heap_setCell_ne _ _ fg,heap_setCell_ne _ _ fg,heap_setCell_ne _ _ fg,heap_setCell_ne _ _ fg]
   exact (Below.block ((Ext.refl W).drew.trans h2) bg (Array.getElem?_eq_some_iff.1 hgh.out).1).trans hgh.out
 · exact ((((hN.drew.ext h2).set _ _).set _ _).set _ _ |>.set _ _).below hbel.out hB2 (by have:=HMh.out.ge;omega)
set_option maxRecDepth 100000 in
set_option maxHeartbeats 1000000 in
theorem end_stop (B p:Nat)(S:TS)(bm bg bo:Nat)(v:Value)(older:List PanicEntry)(w:World)(h:Stops B w p S)(hm:HeldP w p bm (.cells #[.pointer (some ⟨p,0,none⟩)] 39 (0,0)))(hg:HeldP w p bg (.cells #[v] 3 (0,0)))
  (ho:HeldP w p bo (.cells #[.bool false,.slice none 0 0,.slice none 0 0,.slice none 0 0] 36 (0,0)))(hB1:B<=bg)(hB2:B<=bo) :
  CallsD Tryz.prog 38 #[.pointer (some ⟨bm,0,none⟩),.pointer (some ⟨bg,0,none⟩),.pointer (some ⟨bo,0,none⟩)] (.panicking ({ v:=.iface 66 (.agg #[.pointer (some ⟨p,0,none⟩)]),recovered:=false } :: older)) w fun e u' w' =>
   e=.returned (.tuple #[])/\u'=.panicking ({ v:=.iface 66 (.agg #[.pointer (some ⟨p,0,none⟩)]),recovered:=true } :: older)/\EndAt B w w' bg bo (.int .i64 0) false S:=by
 obtain⟨vA,vL,vC,vN,L,h⟩:=h
 have hc:=cell_of_heap h.heap
 have hfz:=frozen_of_heap h.heap
 have cm:=hm.cells
 refine callsD_of_wpS Tryz.func38 rfl fun c₀ cs hu=>?_
 simp only [Tryz.ntmps38,List.size_toArray,List.length_cons,List.length_nil,Nat.reduceAdd,Nat.reduceSub,Array.replicate_succ,Array.replicate_zero,List.push_toArray,List.append_toArray,List.nil_append,List.cons_append]
 apply wpS_seq
 refine wpS_of_wp ?_
 go_wp2_with fail
 simp only [Exit.thenS]
 apply wpS_seq
 refine wpS_of_wp ?_
 go_wp2_with fail
 simp only [Exit.thenS]
 obtain⟨HM,HK⟩:=h.state 0
 have hm2:=hm.keep HK
 have hg2:=hg.keep HK
 have ho2:=ho.keep HK
 clear hc hfz cm hm hg ho h
 generalize w.setCell ⟨p,0,none⟩ (.int .i64 0)=W0 at *
 have hX:=(Ext.refl W0).alloc (.cells #[.agg #[.pointer (some ⟨p,0,none⟩)]] 66)
 have hq0:=cell_of_heap HM.heap
 have cm0:=hm2.cells
 have hqa:Hid (∀ O,∀ i,(W0.alloc O).cell? ⟨bm,i,none⟩=(#[.pointer (some ⟨p,0,none⟩)]:Array Value)[i]?):=Lib.hid fun O i=>(((Ext.refl W0).alloc O).cell (p:=⟨bm,i,none⟩) hm2.lt).trans (hm2.cells i)
 have cma:=hqa.out
 have fga:=frozen_of_heap hg2.1
 have cg0:=hg2.cells
 have W0lt:=hg2.lt
 have fgb:Hid (∀ O i,(W0.alloc O).frozen? ⟨bg,i,none⟩=false):=Lib.hid fun O i=>frozen_of_heap ((Below.block ((Ext.refl W0).alloc O) bg hg2.lt).trans hg2.1) i
 have cgb:Hid (∀ O i,(W0.alloc O).cell? ⟨bg,i,none⟩=(#[v]:Array Value)[i]?):=Lib.hid fun O i=>(((Ext.refl W0).alloc O).cell (p:=⟨bg,i,none⟩) hg2.lt).trans (hg2.cells i)
 have fgb':=fgb.out
 have cgb':=cgb.out
 have HMh0:=Lib.hid HM
 have HKh:=Lib.hid HK
 have hmh0:=Lib.hid hm2
 have hgh0:=Lib.hid hg2
 have hoh0:=Lib.hid ho2
 clear HM HK hm2 hg2 ho2
 apply wpS_seq
 apply wpS_seq
 apply wpS_region
 simp [wpOpsS,go_sem,recoverD,hu,Exit.thenS]
 refine wpS_of_wp ?_
 go_wp2_with fail
 simp only [Exit.thenS]
 refine wpS_of_wp ?_
 go_wp2_with fail
 have hgp:=hgh0.out.2
 have hmg:bm≠bg:=fun e=>by
  have h1:=hmh0.out.1
  rw [e,hgh0.out.1] at h1
  injection h1 with h1
  injection h1 with _ h2
  cases h2
 have hog:bo≠bg:=fun e=>by
  have h1:=hoh0.out.1
  rw [e,hgh0.out.1] at h1
  injection h1 with h1
  injection h1 with _ h2
  cases h2
 have HM1:=HMh0.out.setO hgp hB1 0 (.int .i64 0)
 have hm1:=hmh0.out.setO hmg hgp 0 (.int .i64 0)
 have ho1:=hoh0.out.setO hog hgp 0 (.int .i64 0)
 have hg1:=heap_setCell (i:=0) hgh0.out.1 (.int .i64 0)
 have hb1:Below B w (W0.setCell ⟨bg,0,none⟩ (.int .i64 0)):=Below.setCell HKh.out.below (by show B<=bg;exact hB1) _
 have HMh:=Lib.hid (HM1.ext ((Ext.refl _).alloc (.cells #[.pointer (some ⟨p,0,none⟩)] 66)))
 have hmh:=Lib.hid (hm1.alloc (.cells #[.pointer (some ⟨p,0,none⟩)] 66) HM1.lt)
 have hoh:=Lib.hid (ho1.alloc (.cells #[.pointer (some ⟨p,0,none⟩)] 66) HM1.lt)
 have hgh:=Lib.hid ((Below.block ((Ext.refl _).alloc (.cells #[.pointer (some ⟨p,0,none⟩)] 66)) bg (Array.getElem?_eq_some_iff.1 hg1).1).trans hg1)
 have hbel:=Lib.hid (Below.alloc hb1 (by have:=HM1.ge;have:=HM1.lt;omega) (.cells #[.pointer (some ⟨p,0,none⟩)] 66))
 clear hX hq0 cm0 hqa cma fga cg0 fgb cgb fgb' cgb' HMh0 hmh0 hgh0 hoh0 HKh HM1 hm1 ho1 hg1 hb1 hgp W0lt
 generalize (World.alloc (W0.setCell ⟨bg,0,none⟩ (.int .i64 0)) (.cells #[.pointer (some ⟨p,0,none⟩)] 66))=W at *
 have hq:=cell_of_heap HMh.out.heap
 have cm2:=hmh.out.cells
 have hI:Ints W vL L:=IntRow.ints HMh.out.rowL
 obtain⟨Al,cl,rfl,q1,q2⟩:=hI.slice
 have hIh:=Lib.hid hI
 obtain⟨Ac,cc,rfl,-,-,-⟩:=vals_row HMh.out.rowC
 obtain⟨An,cn,rfl,-,-,-⟩:=vals_row HMh.out.rowN
 have hlen:=HMh.out.locN
 have hplt:=HMh.out.lt
 have hmlt:=hmh.out.lt
 clear hI
 have hpo:p≠bo:=fun e=>hoh.out.2 (.inl e.symm)
 have hmo:bm≠bo:=fun e=>by
  have h1:=hmh.out.1
  rw [e,hoh.out.1] at h1
  injection h1 with h1
  injection h1 with _ h2
  cases h2
 have hlo:(Value.slice Al L.length cl).ownBlock≠some bo:=row_not HMh.out.rowL hoh.out.1 (by decide)
 have hS:∀ w',Near W bo 4 36 w'->((∀ i,w'.cell? ⟨p,i,none⟩=(#[.int .i64 0,vA,.slice Al L.length cl,.slice Ac S.acc.length cc,.slice An S.nts.length cn]:Array Value)[i]?)/\(∀ i,w'.cell? ⟨bm,i,none⟩=(#[.pointer (some ⟨p,0,none⟩)]:Array Value)[i]?)/\(∀ i,w'.cell? ⟨bo,i,none⟩=(#[cellD w' bo 0,cellD w' bo 1,cellD w' bo 2,cellD w' bo 3]:Array Value)[i]?)/\(∀ i,w'.frozen? ⟨bo,i,none⟩=false)/\Near W bo 4 36 w'):=fun w' hx =>
  ⟨fun i=>(hx.cell hplt hpo).trans (hq i),fun i=>(hx.cell hmlt hmo).trans (cm2 i),hx.four,hx.frozen,hx⟩
 have hN:Near W bo 4 36 W:=Near.new hoh.out.1 rfl
 go_region_held2 (fun w'=>(∀ i,w'.cell? ⟨p,i,none⟩=(#[.int .i64 0,vA,.slice Al L.length cl,.slice Ac S.acc.length cc,.slice An S.nts.length cn]:Array Value)[i]?)/\(∀ i,w'.cell? ⟨bm,i,none⟩=(#[.pointer (some ⟨p,0,none⟩)]:Array Value)[i]?)/\(∀ i,w'.cell? ⟨bo,i,none⟩=(#[cellD w' bo 0,cellD w' bo 1,cellD w' bo 2,cellD w' bo 3]:Array Value)[i]?)/\(∀ i,w'.frozen? ⟨bo,i,none⟩=false)/\Near W bo 4 36 w') (first | exact hS _ hN.drew | (refine hS _ ?_;(repeat refine Near.set ?_ _ _);exact hN.drew.ext h2))
  (first
    | (go_at_call 39
       refine (tshort_p Al cl L _ (hIh.out.ext (Ext.refl W).drew) q1 q2 (by omega)).mono ?_
       rintro e w' ⟨v',rfl,h1,h2⟩
       obtain⟨As,cs,rfl,hs1,hs2⟩:=h1.ints.slice))
 obtain⟨f1,f2⟩:=end_out (d:=false) HMh.out hoh.out.1 ((Ext.refl W).drew.trans h2) h1
 have fg:bg≠bo:=fun e=>by
  have h1:=hgh.out
  rw [e,hoh.out.1] at h1
  injection h1 with h1
  injection h1 with _ h2
  cases h2
 refine⟨rfl,FrameMode.panicking ({ v:=.iface 66 (.agg #[.pointer (some ⟨p,0,none⟩)]),recovered:=true } :: older),(by cases c₀;simp only at hu;subst hu;rfl),.tuple #[],(by simp [results,Tryz.results38,go_sem]),rfl,rfl,?_,⟨_,_,_,f1,f2⟩,?_⟩
 · rw [heap_setCell_ne _ _ fg,heap_setCell_ne _ _ fg,heap_setCell_ne _ _ fg,heap_setCell_ne _ _ fg]
   exact (Below.block ((Ext.refl W).drew.trans h2) bg (Array.getElem?_eq_some_iff.1 hgh.out).1).trans hgh.out
 · exact ((((hN.drew.ext h2).set _ _).set _ _).set _ _ |>.set _ _).below hbel.out hB2 (by have:=HMh.out.ge;omega)
theorem row_base {w:World}{B B' e size n:Nat}{v:Value}{xs:List Value}(h:w.ownsRow B' e size v n xs)(hB:B<=B'):w.ownsRow B e size v n xs:=by
 obtain⟨h1,h2⟩:=h
 rcases h2 with h2 | ⟨g,cap,cur,rfl,hg,r⟩
 · exact⟨h1,.inl h2⟩
 · exact⟨h1,.inr ⟨g,cap,cur,rfl,Nat.le_trans hB hg,r⟩⟩
theorem four_boxes (w:World)(o1 o2 o3 o4:Obj):Ext w ((((w.alloc o1).alloc o2).alloc o3).alloc o4)/\((((w.alloc o1).alloc o2).alloc o3).alloc o4).heap[w.heap.size]?=some o1/\((((w.alloc o1).alloc o2).alloc o3).alloc o4).heap[w.heap.size+1]?=some o2 /\
  ((((w.alloc o1).alloc o2).alloc o3).alloc o4).heap[w.heap.size+1+1]?=some o3/\((((w.alloc o1).alloc o2).alloc o3).alloc o4).heap[w.heap.size+1+1+1]?=some o4:=by
 refine⟨((((Ext.refl w).alloc o1).alloc o2).alloc o3).alloc o4,?_,?_,?_,?_⟩
 · exact (Below.block ((((Ext.refl (w.alloc o1)).alloc o2).alloc o3).alloc o4) _ (by simp)).trans (heap_alloc_new w o1)
 · have:=heap_alloc_new (w.alloc o1) o2
   rw [World.size_alloc] at this
   exact (Below.block (((Ext.refl ((w.alloc o1).alloc o2)).alloc o3).alloc o4) _ (by simp)).trans this
 · have:=heap_alloc_new ((w.alloc o1).alloc o2) o3
   rw [World.size_alloc,World.size_alloc] at this
   exact (Below.block ((Ext.refl (((w.alloc o1).alloc o2).alloc o3)).alloc o4) _ (by simp)).trans this
 · have:=heap_alloc_new (((w.alloc o1).alloc o2).alloc o3) o4
   rw [World.size_alloc,World.size_alloc,World.size_alloc] at this
   exact this
structure SameW (w w':World):Prop where
 os:w'.os=w.os
 tape:w'.tape=w.tape
 output:w'.output=w.output
 size:w'.heap.size=w.heap.size
 blocks:∀ k:Nat,w'.heap[k]?=w.heap[k]?
theorem SameW.drew (w:World):SameW w w.drew:=⟨rfl,rfl,rfl,rfl,fun _=>rfl⟩
theorem SameW.drew2 {w w':World}(h:SameW w w'):SameW w w'.drew:=⟨h.os,h.tape,h.output,h.size,h.blocks⟩
theorem SameW.refl (w:World):SameW w w:=⟨rfl,rfl,rfl,rfl,fun _=>rfl⟩
theorem SameW.ext {w w':World}(h:SameW w w'):Ext w w':=⟨h.os,h.tape,h.output,Nat.le_of_eq h.size.symm,fun k _=>h.blocks k⟩
theorem SameW.set {w w':World}{b:Nat}{cs:Array Value}{t:TypeId}(h:SameW w w')(g:w.heap[b]?=some (.cells cs t (0,0))){i:Nat}{v:Value}(hv:cs[i]?=some v):SameW w (w'.setCell ⟨b,i,none⟩ v):=by
 refine⟨h.os,h.tape,h.output,by rw [<- h.size];simp,fun k=>?_⟩
 by_cases e:k=b
 · subst e
   rw [heap_setCell ((h.blocks k).trans g) v,g]
   congr 2
   apply Array.ext_getElem?
   intro j
   rw [Array.getElem?_setIfInBounds]
   split
   · rename_i e
     subst e
     rw [hv]
     split
     · rfl
     · rename_i h2
       rw [Array.getElem?_eq_none (by omega)] at hv
       cases hv
   · rfl
 · rw [heap_setCell_ne _ _ e]
   exact h.blocks k
theorem play_start {w W w':World}{p:Nat}{Aa:Option Addr}{ca:Nat}{ans L:List Int}{v':Value}(hx:Ext w W)(hp:w.heap.size<=p)(g:W.heap[p]?=some (.cells #[.int .i64 1,.slice Aa ans.length ca,.slice none 0 0,.slice none 0 0,.slice none 0 0] 63 (0,0)))
  (h2:Ext W w')(h1:IntRow w' W.heap.size v' L)(hl:L.length<=32768)(ha:Ints w (.slice Aa ans.length ca) ans)(hn:ans.length<=maxAns)(hb:∀ b,(Value.slice Aa ans.length ca).ownBlock=some b->b<w.heap.size) :
  Plays w.heap.size (w'.setCell ⟨p,2,none⟩ v') p (TS0 L ans)/\(∀ b o,W.heap[b]?=some o->b≠p->HeldP (w'.setCell ⟨p,2,none⟩ v') p b o)/\Ext w (w'.setCell ⟨p,2,none⟩ v'):=by
 have hlt:=(Array.getElem?_eq_some_iff.1 g).1
 have g':=heap_setCell (i:=2) ((Below.block h2 p hlt).trans g) v'
 have hv:∀ k,v'.ownBlock=some k->W.heap.size<=k:=fun k hk=>(h1.lt k hk).1
 have ha':=(ha.ext hx).ext h2
 refine⟨⟨Nat.zero_le _,.slice Aa ans.length ca,v',.slice none 0 0,.slice none 0 0,L,{ ge:=hp,heap:=g',ans:=ints_set ha' _ _ ?_,ansB:=hb,rowL:=row_base (row_set h1 ?_) hx.size,rowC:=World.ownsRow_nil _ _ _ _,rowN:=World.ownsRow_nil _ _ _ _,loc:=fun _=>rfl,locN:=hl,accN:=Nat.zero_le _,ansN:=hn,ntsN:=Nat.zero_le _ }⟩,?_,(hx.trans h2).setCell hp _⟩
 · intro k hk e
   have:=hb k hk
   simp only at e
   omega
 · intro e
   have:=hv p e
   omega
 · intro b o hb ho
   have hbl:=(Array.getElem?_eq_some_iff.1 hb).1
   refine⟨(heap_setCell_ne _ _ ho).trans ((Below.block h2 b hbl).trans hb),fun h'=>?_⟩
   rcases h' with e | ⟨i,hi,v,hv1,hv2⟩
   · exact ho e
   · rw [cell_of_heap g'] at hv1
     simp only [List.mem_cons,List.not_mem_nil,or_false] at hi
     rcases hi with rfl | rfl | rfl
     · obtain rfl:v'=v:=by simpa using hv1
       have:=hv b hv2
       omega
     · obtain rfl:Value.slice none 0 0=v:=by simpa using hv1
       simp [Value.ownBlock] at hv2
     · obtain rfl:Value.slice none 0 0=v:=by simpa using hv1
       simp [Value.ownBlock] at hv2
set_option maxRecDepth 100000 in
set_option maxHeartbeats 1000000 in
theorem play_int (f:FuncId)(cap:Array Value)(T:Prog Int)(Al:Option Addr)(cl:Nat)(L:List Int)(Aa:Option Addr)(ca:Nat)(ans:List Int)(w:World)(h:Ints w (.slice Al L.length cl) L)(hl:L.length<=32768)(ha:Ints w (.slice Aa ans.length ca) ans)(hn:ans.length<=maxAns)
  (hb:∀ b,(Value.slice Aa ans.length ca).ownBlock=some b->b<w.heap.size)
  (hcf:∀ (args:Array Value) (w:World),(callFunc f args).run Tryz.prog w=.ok (.enter f args) w)
  (hdo:∀ w1 p,Ext w w1->Plays w.heap.size w1 p (TS0 L ans)->Calls Tryz.prog f (#[.pointer (some ⟨p,0,none⟩)]++cap) w1 (Post encI w.heap.size p w1 (T.run (TS0 L ans)))) :
  Calls Tryz.prog 13 #[.func (.func f) #[] cap,.slice Al L.length cl,.slice Aa ans.length ca] w fun e w'=>∃ v,e=.returned (.tuple #[.int .i64 ((T.run (TS0 L ans)).1.getD 0),v])/\Outs w' v (T.run (TS0 L ans)).1.isSome (T.run (TS0 L ans)).2/\Ext w w':=by
 obtain⟨q1,q2⟩:L.length<=cl/\cl<=9223372036854775807:=by
  obtain⟨A',c',he,q1,q2,_⟩:=h
  injection he with e1 e2 e3
  subst e3
  exact⟨q1,q2⟩
 generalize hR:(fun e w'=>∃ v,e=Ending.returned (.tuple #[.int .i64 ((T.run (TS0 L ans)).1.getD 0),v])/\Outs w' v (T.run (TS0 L ans)).1.isSome (T.run (TS0 L ans)).2/\Ext w w')=R
 have hfin:∀ v w',Outs w' v (T.run (TS0 L ans)).1.isSome (T.run (TS0 L ans)).2->Ext w w'->R (.returned (.tuple #[.int .i64 ((T.run (TS0 L ans)).1.getD 0),v])) w':=fun v w' h1 h2=>hR▸⟨v,rfl,h1,h2⟩
 clear hR
 have hmf:∀ (fn:Fn) (first cap:Array Value) (w:World),(Instr.makeFunc fn first cap).run Tryz.prog w=.ok (.func fn first cap) w:=fun _ _ _ _=>rfl
 go_enter_defers Tryz.func13,Tryz.ntmps13
 go_wp2_with fail
 obtain⟨hx,g1,g2,g3,g4⟩:=four_boxes w (.cells #[.int .i64 0] 3) (.cells #[.bool false,.slice none 0 0,.slice none 0 0,.slice none 0 0] 36) (.cells #[.int .i64 1,.slice Aa ans.length ca,.slice none 0 0,.slice none 0 0,.slice none 0 0] 63) (.cells #[.pointer (some ⟨w.heap.size+1+1,0,none⟩)] 39)
 generalize hW:World.alloc (World.alloc (World.alloc (World.alloc w _) _) _) _=W at *
 clear hW
 have hI:=h.ext hx
 have cm:=cell_of_heap g4
 have hN:Near W (w.heap.size+1+1) 5 63 W:=Near.new g3 rfl
 have hmlt:=(Array.getElem?_eq_some_iff.1 g4).1
 have hmin:min (L.length:Int) 32768=(L.length:Int):=by omega
 have hS:∀ w',Near W (w.heap.size+1+1) 5 63 w'->((∀ i,w'.cell? ⟨w.heap.size+1+1+1,i,none⟩=(#[.pointer (some ⟨w.heap.size+1+1,0,none⟩)]:Array Value)[i]?)/\(∀ i,w'.cell? ⟨w.heap.size+1+1,i,none⟩=(#[cellD w' (w.heap.size+1+1) 0,cellD w' (w.heap.size+1+1) 1,cellD w' (w.heap.size+1+1) 2,cellD w' (w.heap.size+1+1) 3,cellD w' (w.heap.size+1+1) 4]:Array Value)[i]?)/\(∀ i,w'.frozen? ⟨w.heap.size+1+1,i,none⟩=false)):=fun w' hx =>
  ⟨fun i=>(hx.cell hmlt (by omega)).trans (cm i),hx.five,hx.frozen⟩
 go_region_held3 (fun w'=>(∀ i,w'.cell? ⟨w.heap.size+1+1+1,i,none⟩=(#[.pointer (some ⟨w.heap.size+1+1,0,none⟩)]:Array Value)[i]?)/\(∀ i,w'.cell? ⟨w.heap.size+1+1,i,none⟩=(#[cellD w' (w.heap.size+1+1) 0,cellD w' (w.heap.size+1+1) 1,cellD w' (w.heap.size+1+1) 2,cellD w' (w.heap.size+1+1) 3,cellD w' (w.heap.size+1+1) 4]:Array Value)[i]?)/\(∀ i,w'.frozen? ⟨w.heap.size+1+1,i,none⟩=false)) (first | exact hS _ hN.drew | (refine hS _ ?_;(repeat refine Near.set ?_ _ _);exact hN.drew.ext h2))
  (first
    | (go_at_call 37
       refine (clone_any Al cl L _ (hI.ext (Ext.refl W).drew) (by omega)).mono ?_
       rintro e w' ⟨v',rfl,h1,h2⟩
       obtain⟨As,cs,rfl,hs1,hs2⟩:=h1.ints.slice))
 obtain⟨hP,hH,hE⟩:=play_start (p:=w.heap.size+1+1) hx (by omega) g3 ((Ext.refl W).drew.trans h2) h1 hl ha hn hb
 have hbg:=hH _ _ g1 (by omega)
 have hbo:=hH _ _ g2 (by omega)
 have hbm:=hH _ _ g4 (by omega)
 clear hH g1 g2 g3 g4 hS hN h1 h2 hI cm hmin hmlt
 rename_i hh
 clear hh
 have hT:=hdo _ _ hE hP
 clear hdo
 generalize World.setCell _ _ _=W2 at *
 have cbm:=hbm.cells
 have hnf:(binOp .neq 41 (.func (.func f) #[] cap) .nilFunc).run Tryz.prog W2=.ok (.bool true) W2:=by kernel_rfl
 go_wp2_with fail
 generalize hr:T.run (TS0 L ans)=r at hT hfin
 obtain⟨o,S⟩:=r
 clear hr
 cases o with
 | some a =>
   refine hT.mono ?_
   rintro e w3 ⟨rfl,hP3,hK3⟩
   have hbg3:=hbg.keep hK3
   have hbo3:=hbo.keep hK3
   have hbm3:=hbm.keep hK3
   have hE3:Ext w w3:=Below.trans hE hK3.below
   clear hbg hbo hbm hE hK3 hT hP cbm hnf
   have cbg:=hbg3.cells
   have fbg:=frozen_of_heap hbg3.1
   have cbo:=hbo3.cells
   have fbo:=frozen_of_heap hbo3.1
   go_wp2_with fail
   have fgo:w.heap.size≠w.heap.size+1:=by omega
   have hg4:=heap_setCell (i:=0) hbg3.1 (.int .i64 a)
   have hP4:Plays w.heap.size (w3.setCell ⟨w.heap.size,0,none⟩ (.int .i64 a)) (w.heap.size+1+1) S:=by
    obtain⟨q,vA,vL,vC,vN,L',hM⟩:=hP3
    exact⟨q,vA,vL,vC,vN,L',hM.setO hbg3.2 (Nat.le_refl _) _ _⟩
   have hbm4:=hbm3.setO (b:=w.heap.size) (by omega) hbg3.2 0 (.int .i64 a)
   have hbo4:=hbo3.setO (b:=w.heap.size) (by omega) hbg3.2 0 (.int .i64 a)
   have hbg4:HeldP (w3.setCell ⟨w.heap.size,0,none⟩ (.int .i64 a)) (w.heap.size+1+1) w.heap.size (.cells #[.int .i64 a] 3 (0,0)):=⟨hg4,fun h'=>hbg3.2 ((ownR_same (heap_setCell_ne _ _ (by omega)) _).1 h')⟩
   have hE4:Ext w (w3.setCell ⟨w.heap.size,0,none⟩ (.int .i64 a)):=hE3.setCell (Nat.le_refl _) _
   clear hP3 hbg3 hbo3 hbm3 hE3 cbg fbg cbo fbo hg4
   generalize World.setCell _ _ _=w4 at *
   generalize hbq:w.heap.size+1=bo at hbm4 hbo4 hP4 ⊢
   have fgo1:w.heap.size≠bo:=by omega
   have fgo2:bo≠w.heap.size:=by omega
   clear fgo
   have cbg:=hbg4.cells
   have fbg:=frozen_of_heap hbg4.1
   have cbo:=hbo4.cells
   have fbo:=frozen_of_heap hbo4.1
   go_region
   all_goals
    generalize hW5:World.drew _=W5
    have hsm:SameW w4 W5:=by
     rw [<- hW5]
     repeat first | with_reducible exact SameW.refl _ | with_reducible refine SameW.drew2 ?_ | refine SameW.set ?_ hbg4.1 rfl | refine SameW.set ?_ hbo4.1 rfl
    clear hW5 cbg fbg cbo fbo
    have hP5:=hP4.ext hsm.ext
    have hbm5:=hbm4.ext hsm.ext hP4.lt
    have hbg5:=hbg4.ext hsm.ext (by rw [hbq];exact hP4.lt)
    have hbo5:=hbo4.ext hsm.ext hP4.lt
    have hE5:Ext w W5:=hE4.trans hsm.ext
    clear hP4 hbm4 hbg4 hbo4 hE4 hsm
    go_wp2_with fail
    refine leaves_cons (f:=38) (args:=#[.pointer (some ⟨bo+1+1,0,none⟩),.pointer (some ⟨w.heap.size,0,none⟩),.pointer (some ⟨bo,0,none⟩)]) (by simp) (by simp [go_sem]) ?_
    refine (end_ok w.heap.size _ S _ _ _ _ _ hP5 hbm5 (by rw [<- hbq];exact hbg5) hbo5 (by omega)).mono ?_
    rintro e u' w4 ⟨rfl,rfl,hg,⟨vC,vN,vs,ho,hO⟩,hB⟩
    have cg:=cell_of_heap hg
    have co:=cell_of_heap ho
    have cg0:=cg 0
    have co0:=co 0
    have co1:=co 1
    have co2:=co 2
    have co3:=co 3
    refine⟨.tuple #[.int .i64 a,.agg #[.bool true,vC,vN,vs]],?_,hfin _ _ hO (Below.trans hE5 hB)⟩
    simp [results,Tryz.results13,go_sem,cg0,co0,co1,co2,co3]
 | none =>
   refine hT.mono ?_
   rintro e w3 ⟨rfl,hP3,hK3⟩
   have hbg3:=hbg.keep hK3
   have hbo3:=hbo.keep hK3
   have hbm3:=hbm.keep hK3
   have hE3:Ext w w3:=Below.trans hE hK3.below
   clear hbg hbo hbm hE hK3 hT hP cbm hnf
   refine leaves_cons (f:=38) (args:=#[.pointer (some ⟨w.heap.size+1+1+1,0,none⟩),.pointer (some ⟨w.heap.size,0,none⟩),.pointer (some ⟨w.heap.size+1,0,none⟩)]) (by simp) (by simp [go_sem]) ?_
   refine (end_stop w.heap.size _ S _ _ _ _ [] _ hP3 hbm3 hbg3 hbo3 (Nat.le_refl _) (by omega)).mono ?_
   rintro e u' w4 ⟨rfl,rfl,hg,⟨vC,vN,vs,ho,hO⟩,hB⟩
   have cg:=cell_of_heap hg
   have co:=cell_of_heap ho
   have cg0:=cg 0
   have co0:=co 0
   have co1:=co 1
   have co2:=co 2
   have co3:=co 3
   refine⟨.tuple #[.int .i64 0,.agg #[.bool false,vC,vN,vs]],?_,hfin _ _ hO (Below.trans hE3 hB)⟩
   simp [results,Tryz.results13,go_sem,cg0,co0,co1,co2,co3]
   trace_state
theorem info_strip:(Tryz.prog.info? 102).map (fun i=>(i.zero,i.size,i.bytes))=some (some (.agg #[.int .i64 0,.int .i64 0,.int .i64 0]),3,24):=by kernel_rfl
theorem append_recs {ops:Array Oper}{rest:List Oper}{o:Oper}{a:Act}{Q:Exit->Act->World->Prop}{w0 w:World}{e t:TypeId}{z:Value}{size bytes:Nat}
  (hinfo:(Tryz.prog.info? e).map (fun i=>(i.zero,i.size,i.bytes))=some (some z,size,bytes))(hund:Tryz.prog.underlying t=some (.slice e))(hzs:z.cells.size=size)(hsz:0<size)(hby:bytes<=100)
  (hgd:o.guard=none)(s x:Operand)(ho:o.op=.call { callee:=.builtin .append,args:=#[s,x],argTypes:=#[t,t] })
  (v:Value)(n:Nat)(xs news:List Value)(ad:Addr)(m c:Nat)(hX:Ext w0 w)(hown:w.ownsRow w0.heap.size e size v n xs)(hs:a.eval s=v)(hx:a.eval x=.slice (some ad) m c)
  (hnl:news.length=m*size)(hnews:∀ j u,news[j]?=some u->w.cell? (ad.add j)=some u)(h1:∀ u∈news,u.oneCell'=true)(hlen:n<1000000000)(hm:m<1000000000)
  (h:∀ v' w',w'.ownsRow w0.heap.size e size v' (n+m) (xs++news)->Ext w0 w'->wpList Tryz.prog ops Q rest (a.put o.dst v') w') :
  wpList Tryz.prog ops Q (o :: rest) a w:=by
 obtain⟨i0,hi,hz0,hz1,hz2⟩:=info_parts hinfo
 refine wpList_append_own_at _ hgd s x t ho w0.heap.size e i0 z size bytes hund hi hz0 hz1 hz2 hzs hsz v n xs hs hown ad m c news hx hnl hnews h1 (by unfold maxLen;omega) ?_ hX.size fun v' w' h2 h3 _ _=>?_
 · have:(n+m)*bytes<=(n+m)*100:=Nat.mul_le_mul_left _ hby
   omega
 · refine h v' w' h2 (Below.grown hX h3 hX.size fun k hk=>?_)
   rcases hown.2 with⟨rfl,_⟩ | ⟨g,cap,cur,rfl,hgb,_⟩
   · simp [Value.ownBlock] at hk
   · simp [Value.ownBlock] at hk
     omega
theorem row_new (w:World)(xs:List Value)(e size n:Nat)(h:xs.length=n*size)(hn:n<=1000000):(w.alloc (.cells xs.toArray e)).ownsRow w.heap.size e size (.slice (some ⟨w.heap.size,0,none⟩) n n) n xs :=
 ⟨h,.inr ⟨w.heap.size,n,xs.toArray,rfl,Nat.le_refl _,heap_alloc_new _ _,Nat.le_refl _,by unfold maxLen;omega,by simpa using h,by simp [<- h]⟩⟩
@[go_sem] theorem build_strip (a b c:Int) (w:World):(Instr.build 102 #[(0,.int .i64 a),(1,.int .i64 b),(2,.int .i64 c)]).run Tryz.prog w=.ok (.agg #[.int .i64 a,.int .i64 b,.int .i64 c]) w:=run_build w 102 _ _ (by kernel_rfl)
theorem trstrips_p (w:World):Calls Tryz.prog 88 #[] w fun e w'=>e=.returned (.slice (some ⟨w.heap.size,0,none⟩) 1 1)/\w.alloc (.cells #[.int .i64 3,.int .i64 1,.int .i64 1] 102)=w':=by
 go_enter Tryz.func88,Tryz.ntmps88
 go_wp2_with fail
 go_ret
 exact⟨rfl,rfl⟩
def sixVals:List Value:=[.int .i64 4,.int .i64 1,.int .i64 1099511627776,.int .i64 12,.int .i64 1,.int .i64 1]
def pairVals (m:Nat):List Value:=(List.replicate m ()).flatMap fun _=>sixVals
theorem pairVals_succ (m:Nat):pairVals (m+1)=pairVals m++sixVals:=by unfold pairVals;rw [List.replicate_succ',List.flatMap_append];rfl
theorem pairVals_add (m k:Nat):pairVals (m+k)=pairVals m++pairVals k:=by unfold pairVals;rw [<- List.flatMap_append,List.replicate_append_replicate]
theorem pairVals_len (m:Nat):(pairVals m).length=6*m:=by unfold pairVals;rw [flat_len _ 6 (fun _=>rfl),List.length_replicate]
theorem pairVals_one (m:Nat):∀ u∈pairVals m,u.oneCell'=true:=by
 intro u hu
 unfold pairVals at hu
 simp only [List.mem_flatMap,sixVals,List.mem_cons,List.not_mem_nil,or_false] at hu
 obtain⟨_,_,h⟩:=hu
 rcases h with rfl | rfl | rfl | rfl | rfl | rfl <;> rfl
theorem pair_at (m i:Nat)(h:i<2*m):(pairVals m)[i*3]?=some (.int .i64 (if i % 2=0 then 4 else 12))/\(∃ x,(pairVals m)[i*3+1]?=some (.int .i64 x))/\∃ x,(pairVals m)[i*3+2]?=some (.int .i64 x):=by
 have f:=fun j hj=>flat_at (fun _:Unit=>sixVals) 6 (fun _=>rfl) (List.replicate m ()) (i / 2) j () (by rw [List.getElem?_replicate,if_pos (by omega)]) hj
 rcases Nat.mod_two_eq_zero_or_one i with e | e
 · rw [if_pos e]
   have e0:i*3=6*(i / 2)+0:=by omega
   rw [e0]
   exact⟨f 0 (by omega),⟨_,f 1 (by omega)⟩,⟨_,f 2 (by omega)⟩⟩
 · rw [if_neg (by omega)]
   have e0:i*3=6*(i / 2)+3:=by omega
   rw [e0]
   exact⟨f 3 (by omega),⟨_,f 4 (by omega)⟩,⟨_,f 5 (by omega)⟩⟩
set_option maxRecDepth 100000 in
theorem sstrips_p (w:World):Calls Tryz.prog 89 #[] w fun e w'=>∃ v,e=.returned v/\w'.ownsRow w.heap.size 102 3 v 2 sixVals/\Ext w w':=by
 have hr:=row_new w [.int .i64 4,.int .i64 1,.int .i64 1099511627776] 102 3 1 rfl (by omega)
 have hX:=(Ext.refl w).alloc (.cells [.int .i64 4,.int .i64 1,.int .i64 1099511627776].toArray 102)
 go_enter Tryz.func89,Tryz.ntmps89
 go_wp2_with fail
 generalize w.alloc _=W at *
 refine (trstrips_p _).mono ?_
 rintro e w' ⟨rfl,rfl⟩
 have g1:=Blk.new W (.cells #[.int .i64 3,.int .i64 1,.int .i64 1] 102)
 have x1:=(Ext.refl W).alloc (.cells #[.int .i64 3,.int .i64 1,.int .i64 1] 102)
 replace hr:=row_ext hr x1
 replace hX:=hX.trans x1
 generalize W.alloc _=W1 at *
 go_wp2_with fail
 go_loopw [1,8] (fun v i wr=>∃ j:Nat,i=.int .i64 j/\j<=1/\(j=0->Blk wr W.heap.size (.cells #[.int .i64 3,.int .i64 1,.int .i64 1] 102))/\Ext w wr/\wr.ownsRow w.heap.size 102 3 v (1+j) (sixVals.take (3+3*j))) (fun _ i _=>1-(intOf i).toNat)
 case atStart=>exact⟨0,rfl,by omega,fun _=>g1,hX,hr⟩
 case round =>
  obtain⟨j,rfl,hj,hx,hX2,hown⟩:=hrel
  clear hr hX
  by_cases hl:j<1
  · obtain rfl:j=0:=by omega
    have g2:=hx rfl
    clear hx
    have c_g:=g2.cells
    have g3:=Blk.new wr (.cells #[.int .i64 3,.int .i64 1,.int .i64 1] 102)
    have h12:Ext w ((wr.alloc (.cells #[.int .i64 12,.int .i64 1,.int .i64 1] 102))):=hX2.alloc _
    have ho12:((wr.alloc (.cells #[.int .i64 12,.int .i64 1,.int .i64 1] 102))).ownsRow w.heap.size 102 3 u1 1 [.int .i64 4,.int .i64 1,.int .i64 1099511627776]:=World.ownsRow.alloc hown _
    clear hown
    go_wp2_with (at_builtin;refine append_rec info_strip Tryz.underlying99 rfl (by decide) (by decide) rfl _ _ rfl _ 1 _ [.int .i64 12,.int .i64 1,.int .i64 1] h12 ho12 rfl (by simp [Act.eval,World.size_alloc]) rfl (by simp [Value.oneCell']) (by omega) ?_)
    intro v' w' ho hx' _
    have hoh:=Lib.hid ho
    clear ho ho12 h12 c_g g2 g3
    go_wp2_with fail
    refine⟨⟨1,by go_num,by omega,fun h=>by omega,hx',hoh.out⟩,?_⟩
    simp [intOf]
  · obtain rfl:j=1:=by omega
    have hownh:=Lib.hid hown
    clear hown
    go_wp2_with fail
    go_ret
    exact⟨_,rfl,hownh.out,hX2⟩
set_option maxRecDepth 100000 in
theorem tstrips_p (n:Int)(w:World)(h1:1<=n)(h2:n<=8):Calls Tryz.prog 90 #[.int .i64 n] w fun e w'=>∃ v,e=.returned v/\w'.ownsRow w.heap.size 102 3 v (2*((n-1).toNat*(n-1).toNat)) (pairVals ((n-1).toNat*(n-1).toNat))/\Ext w w':=by
 obtain⟨k,rfl⟩:∃ k:Nat,n=(k:Int)+1:=⟨(n-1).toNat,by omega⟩
 have hk:k*k<=49:=Nat.mul_le_mul (show k<=7 by omega) (show k<=7 by omega)
 have hkk:(k:Int)*(k:Int)=((k*k:Nat):Int):=by simp
 rw [show ((k:Int)+1-1).toNat=k by omega]
 generalize hm:k*k=m at *
 clear hm
 go_enter Tryz.func90,Tryz.ntmps90
 go_wp2_with fail
 refine (threads_p ((k:Int)+1) _ h1 h2).mono ?_
 rintro e w' ⟨rfl,rfl⟩
 go_wp2_with fail
 go_loopw [4,11] (fun v i wr=>∃ j:Nat,i=.int .i64 j/\j<=m/\wr.ownsRow w.heap.size 102 3 v (2*j) (pairVals j)/\Ext w wr) (fun _ i _=>m-(intOf i).toNat)
 case atStart=>exact⟨0,rfl,by omega,World.ownsRow_nil _ _ _ _,Ext.refl _⟩
 case round =>
  obtain⟨j,rfl,hj,hown,hX⟩:=hrel
  by_cases hl:j<m
  · go_wp2_with fail
    refine (sstrips_p _).mono ?_
    rintro e w2 ⟨v2,rfl,hr2,hx2⟩
    obtain⟨A,c,rfl,r1,r2,hV⟩:=Recs.of_row hr2
    obtain⟨b,rfl,hb,hc⟩:=hV (by simp [sixVals])
    replace hown:=row_ext hown hx2
    replace hX:=hX.trans hx2
    clear hr2 hV hx2
    go_wp2_with (at_builtin;refine append_recs info_strip Tryz.underlying99 rfl (by decide) (by decide) rfl _ _ rfl _ (2*j) _ sixVals ⟨b,0,none⟩ 2 c hX hown rfl rfl rfl (fun i u hu=>by rw [Addr.add_lit,Nat.zero_add];exact hc i u hu) (fun u hu=>pairVals_one 1 u (by simpa [pairVals] using hu)) (by omega) (by omega) ?_)
    intro v' w' ho hx'
    have hoh:=Lib.hid ho
    clear hown ho hc
    go_wp2_with fail
    refine⟨⟨j+1,by go_num,by omega,by rw [pairVals_succ];exact hoh.out,hx'⟩,?_⟩
    simp [intOf];omega
  · obtain rfl:j=m:=by omega
    have hownh:=Lib.hid hown
    clear hown
    go_wp2_with fail
    go_ret
    exact⟨_,rfl,hownh.out,hX⟩
set_option maxRecDepth 100000 in
theorem mstrips_p (n:Int)(w:World)(h1:2<=n)(h2:n<=8)(ht:Calls Tryz.prog 120 #[.int .i64 n] w fun e w'=>e=.returned (.int .i64 n)/\w=w'):Calls Tryz.prog 91 #[.int .i64 n] w fun e w'=>∃ v,e=.returned v/\w'.ownsRow w.heap.size 102 3 v (2*(n.toNat*((n-1).toNat*(n-1).toNat))) (pairVals (n.toNat*((n-1).toNat*(n-1).toNat)))/\Ext w w':=by
 have hT:=fun w=>tstrips_p n w (by omega) h2
 have hm1:1<=(n-1).toNat*(n-1).toNat:=Nat.mul_pos (by omega) (by omega)
 have hk:(n-1).toNat*(n-1).toNat<=49:=Nat.mul_le_mul (show (n-1).toNat<=7 by omega) (show (n-1).toNat<=7 by omega)
 generalize (n-1).toNat*(n-1).toNat=m at *
 obtain⟨k,rfl⟩:∃ k:Nat,n=(k:Int):=⟨n.toNat,by omega⟩
 rw [Int.toNat_natCast]
 go_enter Tryz.func91,Tryz.ntmps91
 go_wp2_with fail
 refine ht.mono ?_
 rintro e w' ⟨rfl,rfl⟩
 go_wp2_with fail
 go_loopw [3,6] (fun v i wr=>∃ j:Nat,i=.int .i64 j/\j<=k/\wr.ownsRow w.heap.size 102 3 v (2*(j*m)) (pairVals (j*m))/\Ext w wr) (fun _ i _=>k-(intOf i).toNat)
 case atStart=>exact⟨0,rfl,by omega,by rw [Nat.zero_mul];exact World.ownsRow_nil _ _ _ _,Ext.refl _⟩
 case round =>
  obtain⟨j,rfl,hj,hown,hX⟩:=hrel
  by_cases hl:j<k
  · have hjm:j*m<=8*49:=Nat.mul_le_mul (by omega) hk
    go_wp2_with fail
    refine (hT _).mono ?_
    rintro e w2 ⟨v2,rfl,hr2,hx2⟩
    obtain⟨A,c,rfl,r1,r2,hV⟩:=Recs.of_row hr2
    replace hown:=row_ext hown hx2
    replace hX:=hX.trans hx2
    have hjs:(j+1)*m=j*m+m:=Nat.succ_mul j m
    obtain⟨b,rfl,hb,hc⟩:=hV (fun e=>by have:=pairVals_len m;rw [e] at this;simp at this;omega)
    clear hr2 hV hx2
    go_wp2_with (at_builtin;refine append_recs info_strip Tryz.underlying99 rfl (by decide) (by decide) rfl _ _ rfl _ (2*(j*m)) _ (pairVals m) ⟨b,0,none⟩ (2*m) c hX hown rfl rfl (by rw [pairVals_len];omega) (fun i u hu=>by rw [Addr.add_lit,Nat.zero_add];exact hc i u hu) (pairVals_one m) (by omega) (by omega) ?_)
    intro v' w' ho hx'
    have hoh:=Lib.hid ho
    clear hown ho hc
    go_wp2_with fail
    refine⟨⟨j+1,by go_num,by omega,?_,hx'⟩,?_⟩
    · rw [hjs,pairVals_add,Nat.mul_add];exact hoh.out
    · simp [intOf];omega
  · obtain rfl:j=k:=by omega
    have hownh:=Lib.hid hown
    clear hown
    go_wp2_with fail
    go_ret
    exact⟨_,rfl,hownh.out,hX⟩
def StripsAre (w w':World) (v:Value) (n:Nat) (f:Nat->Int):Prop :=
 ∃ A c vals,v=.slice A n c/\n<=c/\c<=9223372036854775807/\Ext w w'/\∀ i,i<n->∃ b x y,A=some ⟨b,0,none⟩/\b<w'.heap.size/\vals=b/\w'.cell? ⟨b,i*3,none⟩=some (.int .i64 (f i))/\w'.cell? ⟨b,i*3+1,none⟩=some (.int .i64 x)/\w'.cell? ⟨b,i*3+2,none⟩=some (.int .i64 y)
def pairF (i:Nat):Int:=if i % 2=0 then 4 else 12
theorem strips_pairs {w w':World}{B:Nat}{v:Value}{m:Nat}(h:w'.ownsRow B 102 3 v (2*m) (pairVals m))(hx:Ext w w'):StripsAre w w' v (2*m) pairF:=by
 obtain⟨A,c,rfl,r1,r2,hV⟩:=Recs.of_row h
 by_cases hm:m=0
 · subst hm
   exact⟨A,c,0,rfl,r1,r2,hx,fun i hi=>by omega⟩
 · obtain⟨b,rfl,hb,hc⟩:=hV (fun e=>by have:=pairVals_len m;rw [e] at this;simp at this;omega)
   refine⟨_,c,b,rfl,r1,r2,hx,fun i hi=>?_⟩
   obtain⟨p0,⟨x,p1⟩,⟨y,p2⟩⟩:=pair_at m i hi
   exact⟨b,x,y,rfl,hb,rfl,hc _ _ p0,hc _ _ p1,hc _ _ p2⟩
def manyF (r:Reg):Nat:=if r.kind=1 then 1 else if r.kind=6 then 2*((r.n-1).toNat*(r.n-1).toNat) else 2*(r.n.toNat*((r.n-1).toNat*(r.n-1).toNat))
def stripF (r:Reg) (i:Nat):Int:=if r.kind=1 then 1 else pairF i
set_option maxRecDepth 100000 in
theorem rstrips_p (r:Reg)(w:World)(hk:r.kind=1∨r.kind=6∨(r.kind=7/\2<=r.n))(hn:1<=r.n/\r.n<=8)(ht:∀ w,Calls Tryz.prog 120 #[.int .i64 r.n] w fun e w'=>e=.returned (.int .i64 r.n)/\w=w') :
  Calls Tryz.prog 64 #[encR r] w fun e w'=>∃ v,e=.returned v/\StripsAre w w' v (manyF r) (stripF r):=by
 obtain⟨kind,base,loc,n,wr,rd,top⟩:=r
 simp only at hk hn ht
 unfold encR
 simp only
 have hX:=Ext.refl w
 have b1:=Blk.new w (.cells #[.int .i64 kind,.int .i64 base,.int .i64 loc,.int .i64 n,.int .i64 wr,.int .i64 rd,.int .i64 top] 87)
 replace hX:=hX.alloc (.cells #[.int .i64 kind,.int .i64 base,.int .i64 loc,.int .i64 n,.int .i64 wr,.int .i64 rd,.int .i64 top] 87)
 have c_b1:=b1.cells
 rcases hk with rfl | rfl | ⟨rfl,h2⟩
 · go_enter Tryz.func64,Tryz.ntmps64
   go_wp2_with fail
   refine (clamp_p _ _ _).mono ?_
   rintro e w' ⟨rfl,rfl⟩
   have g1:=Blk.new (w.alloc (.cells #[.int .i64 1,.int .i64 base,.int .i64 loc,.int .i64 n,.int .i64 wr,.int .i64 rd,.int .i64 top] 87)) (.cells #[.int .i64 1,.int .i64 3,.int .i64 (clamp top 1099511627776)] 102)
   have hX2:=Lib.hid (hX.alloc (.cells #[.int .i64 1,.int .i64 3,.int .i64 (clamp top 1099511627776)] 102))
   simp only [World.size_alloc] at g1
   have g1h:=Lib.hid g1
   clear g1
   go_wp2_with fail
   go_ret
   refine⟨_,rfl,some ⟨w.heap.size+1,0,none⟩,1,w.heap.size+1,rfl,by simp [manyF],by omega,hX2.out,fun i hi=>?_⟩
   have hi0:i=0:=by simp [manyF] at hi;exact hi
   subst hi0
   exact⟨_,_,_,rfl,g1h.out.lt,rfl,g1h.out.cells 0,g1h.out.cells 1,g1h.out.cells 2⟩
 · go_enter Tryz.func64,Tryz.ntmps64
   go_wp2_with fail
   refine (tstrips_p n _ hn.1 hn.2).mono ?_
   rintro e w2 ⟨v,rfl,hr,hx⟩
   have hS:=Lib.hid (strips_pairs hr (hX.trans hx))
   clear hr hx
   go_wp2_with fail
   go_ret
   exact⟨_,rfl,hS.out⟩
 · go_enter Tryz.func64,Tryz.ntmps64
   go_wp2_with fail
   refine (mstrips_p n _ h2 hn.2 (ht _)).mono ?_
   rintro e w2 ⟨v,rfl,hr,hx⟩
   have hS:=Lib.hid (strips_pairs hr (hX.trans hx))
   clear hr hx
   go_wp2_with fail
   go_ret
   exact⟨_,rfl,hS.out⟩
def sumF (f:Nat->Int):Nat->Int
 | 0=>0
 | n+1=>sumF f n+f n
theorem sum_pair:∀ m:Nat,sumF pairF (2*m)=16*(m:Int)
 | 0=>rfl
 | m+1=>by
   have h1:pairF (2*m)=4:=by unfold pairF;rw [if_pos (by omega)]
   have h2:pairF (2*m+1)=12:=by unfold pairF;rw [if_neg (by omega)]
   show sumF pairF (2*m)+pairF (2*m)+pairF (2*m+1)=_
   rw [sum_pair m,h1,h2]
   omega
theorem sumF_bd (r:Reg):∀ n:Nat,0<=sumF (stripF r) n/\sumF (stripF r) n<=12*n
 | 0=>by simp [sumF]
 | n+1=>by
   have h:=sumF_bd r n
   have h2:0<=stripF r n/\stripF r n<=12:=by unfold stripF pairF;split <;> (try split) <;> omega
   show 0<=sumF (stripF r) n+stripF r n/\sumF (stripF r) n+stripF r n<=_
   omega
theorem sum_cells (r:Reg)(hk:r.kind=1∨r.kind=6∨r.kind=7)(hn:1<=r.n/\r.n<=8):sumF (stripF r) (manyF r)=cellsM r:=by
 obtain⟨k,hk0⟩:∃ k:Nat,r.n=(k:Int)+1:=⟨(r.n-1).toNat,by omega⟩
 rcases hk with h | h | h
 · unfold manyF cellsM
   rw [if_pos h,if_pos h]
   show sumF (stripF r) 0+stripF r 0=1
   unfold stripF
   rw [if_pos h]
   rfl
 · have e:stripF r=pairF:=by funext i;unfold stripF;rw [if_neg (by omega)]
   have n1:r.kind≠1:=by omega
   unfold manyF cellsM
   rw [if_neg n1,if_neg n1,if_pos h,if_pos h,e,sum_pair,hk0,show ((k:Int)+1-1)=(k:Int) by omega,Int.toNat_natCast,Int.natCast_mul,<- Int.mul_assoc]
 · have e:stripF r=pairF:=by funext i;unfold stripF;rw [if_neg (by omega)]
   have n1:r.kind≠1:=by omega
   have n6:r.kind≠6:=by omega
   unfold manyF cellsM
   rw [if_neg n1,if_neg n1,if_neg n6,if_neg n6,e,sum_pair,hk0,show ((k:Int)+1-1)=(k:Int) by omega,show ((k:Int)+1).toNat=k+1 by omega,Int.toNat_natCast,Int.natCast_mul,Int.natCast_mul,Int.mul_comm ((k+1:Nat):Int),<- Int.mul_assoc,<- Int.mul_assoc]
   rfl
theorem manyF_bd (r:Reg)(hn:1<=r.n/\r.n<=8):manyF r<=784:=by
 have h1:(r.n-1).toNat*(r.n-1).toNat<=49:=Nat.mul_le_mul (show (r.n-1).toNat<=7 by omega) (show (r.n-1).toNat<=7 by omega)
 have h2:r.n.toNat*((r.n-1).toNat*(r.n-1).toNat)<=8*49:=Nat.mul_le_mul (by omega) h1
 unfold manyF
 split
 · omega
 · split <;> omega
set_option maxRecDepth 100000 in
theorem cells_p (r:Reg)(w:World)(hk:r.kind=1∨r.kind=6∨(r.kind=7/\2<=r.n))(hn:1<=r.n/\r.n<=8)(ht:∀ w,Calls Tryz.prog 120 #[.int .i64 r.n] w fun e w'=>e=.returned (.int .i64 r.n)/\w=w') :
  Calls Tryz.prog 51 #[encR r] w fun e w'=>e=.returned (.int .i64 (cellsM r))/\Ext w w':=by
 have hS:=fun w=>rstrips_p r w hk hn ht
 have hsum:=sum_cells r (by omega) hn
 have hbd:=sumF_bd r
 have hmn:=manyF_bd r hn
 generalize stripF r=f at *
 generalize manyF r=M at *
 rw [<- hsum]
 clear hsum hk hn ht
 obtain⟨kind,base,loc,n,wr,rd,top⟩:=r
 unfold encR at hS ⊢
 simp only at hS ⊢
 have hX:=Ext.refl w
 have b1:=Blk.new w (.cells #[.int .i64 kind,.int .i64 base,.int .i64 loc,.int .i64 n,.int .i64 wr,.int .i64 rd,.int .i64 top] 87)
 replace hX:=hX.alloc (.cells #[.int .i64 kind,.int .i64 base,.int .i64 loc,.int .i64 n,.int .i64 wr,.int .i64 rd,.int .i64 top] 87)
 have c_b1:=b1.cells
 go_enter Tryz.func51,Tryz.ntmps51
 go_wp2_with fail
 refine (hS _).mono ?_
 rintro e w2 ⟨v,rfl,A,c,bb,rfl,r1,r2,hx,hat⟩
 replace hX:=hX.trans hx
 clear hx hS c_b1 b1
 go_wp2_with fail
 go_loopw [3,9] (fun s i wr=>∃ j:Nat,i=.int .i64 j/\j<=M/\s=.int .i64 (sumF f j)/\Ext w2 wr) (fun _ i _=>M-(intOf i).toNat)
 case atStart=>exact⟨0,rfl,by omega,rfl,Ext.refl _⟩
 case round =>
  obtain⟨j,rfl,hj,rfl,hx⟩:=hrel
  by_cases hl:j<M
  · obtain⟨b,x,y,rfl,hb,rfl,e1,e2,e3⟩:=hat j hl
    have e1:=(hx.cell (p:=⟨bb,j*3,none⟩) hb).trans e1
    have e2:=(hx.cell (p:=⟨bb,j*3+1,none⟩) hb).trans e2
    have e3:=(hx.cell (p:=⟨bb,j*3+2,none⟩) hb).trans e3
    have hb1:=hbd j
    have hb2:=hbd (j+1)
    have hs:sumF f (j+1)=sumF f j+f j:=rfl
    rw [hs] at hb2
    have hxa:=Lib.hid (hx.alloc (.cells #[.int .i64 (f j),.int .i64 x,.int .i64 y] 102))
    have hsh:=Lib.hid hs
    clear hat hbd hs
    generalize sumF f j=s at *
    generalize f j=F at *
    go_wp2_with fail
    refine⟨⟨j+1,by go_num,by omega,by rw [hsh.out],hxa.out⟩,?_⟩
    simp [intOf];omega
  · obtain rfl:j=M:=by omega
    clear hat hbd
    have hf:=Lib.hid (hX.trans hx)
    go_wp2_with fail
    go_ret
    exact⟨rfl,hf.out⟩
end Go.Proofs.YtbphlkaihfbgeaaGreat
namespace Kv
end Kv
namespace Go.Proofs.YtbphlkaihfbgeaaGreat
open Go.RowKit Kv
def wantRow (f:Nat->Want) (n:Nat):List Value:=((List.range n).map f).flatMap wantVals
theorem wants_succ (f:Nat->Want)(j:Nat):wantRow f (j+1)=wantRow f j++wantVals (f j):=by
 unfold wantRow
 rw [List.range_succ,List.map_append,List.flatMap_append]
 simp
theorem wants_row {w:World}{B:Nat}{v:Value}{n:Nat}{f:Nat->Want}(h:w.ownsRow B 54 2 v n (wantRow f n)):WantsAt w v ((List.range n).map f):=by
 have:=Recs.of_row h
 unfold WantsAt
 rw [List.length_map,List.length_range]
 exact this
@[go_sem] theorem build_regw (a b c d e:Int) (w:World):(Instr.build 87 #[(0,.int .i64 a),(3,.int .i64 b),(4,.int .i64 c),(5,.int .i64 d),(6,.int .i64 e)]).run Tryz.prog w=.ok (.agg #[.int .i64 a,.int .i64 0,.int .i64 0,.int .i64 b,.int .i64 c,.int .i64 d,.int .i64 e]) w:=run_build w 87 _ _ (by kernel_rfl)
theorem append_none {w:World}{ops:Array Oper}{rest:List Oper}{o:Oper}{a:Act}{Q:Exit->Act->World->Prop}{z:Value}{e t:TypeId}{size bytes:Nat}
  (hinfo:(Tryz.prog.info? e).map (fun i=>(i.zero,i.size,i.bytes))=some (some z,size,bytes))(hund:Tryz.prog.underlying t=some (.slice e))(hgd:o.guard=none)(s x:Operand)
  (ho:o.op=.call { callee:=.builtin .append,args:=#[s,x],argTypes:=#[t,t] })(base:Nat)(v:Value)(n:Nat)(xs:List Value)(hown:w.ownsRow base e size v n xs)(hs:a.eval s=v)(hx:a.eval x=.slice none 0 0)
  (h:wpList Tryz.prog ops Q rest (a.put o.dst v) w):wpList Tryz.prog ops Q (o :: rest) a w:=by
 obtain⟨i0,hi,hz0,hz1,hz2⟩:=info_parts hinfo
 exact wpList_append_own_none hgd s x t ho base e i0 size hund hi v n xs hs hown hx h
set_option maxRecDepth 100000 in
theorem mstrips1_p (w:World):Calls Tryz.prog 91 #[.int .i64 1] w fun e w'=>∃ A c,e=.returned (.slice A 0 c)/\Ext w w':=by
 go_enter Tryz.func91,Tryz.ntmps91
 go_wp2_with fail
 refine (mthreads_p 1 _ (by omega) (by omega)).mono ?_
 rintro e w' ⟨rfl,rfl⟩
 go_wp2_with fail
 go_loopw [3,6] (fun v i wr=>∃ j:Nat,i=.int .i64 j/\j<=1/\wr.ownsRow w.heap.size 102 3 v 0 []/\Ext w wr) (fun _ i _=>1-(intOf i).toNat)
 case atStart=>exact⟨0,rfl,by omega,World.ownsRow_nil _ _ _ _,Ext.refl _⟩
 case round =>
  obtain⟨j,rfl,hj,hown,hX⟩:=hrel
  by_cases hl:j<1
  · obtain rfl:j=0:=by omega
    go_wp2_with fail
    refine (tstrips_p 1 _ (by omega) (by omega)).mono ?_
    rintro e w2 ⟨v2,rfl,hr2,hx2⟩
    rw [show 2*((1-1:Int).toNat*(1-1:Int).toNat)=0 from rfl,show pairVals ((1-1:Int).toNat*(1-1:Int).toNat)=[] from rfl] at hr2
    replace hown:=row_ext hown hx2
    replace hX:=hX.trans hx2
    clear hx2
    rcases hr2.2 with⟨rfl,-⟩ | ⟨g,cap,cur,rfl,q1,q2,q3,q4,-⟩
    · clear hr2
      go_wp2_with (at_builtin;refine append_none info_strip Tryz.underlying99 rfl _ _ rfl w.heap.size _ 0 [] hown rfl rfl ?_)
      have hoh:=Lib.hid hown
      clear hown
      go_wp2_with fail
      refine⟨⟨1,by go_num,by omega,hoh.out,hX⟩,?_⟩
      simp [intOf]
    · clear hr2
      go_wp2_with (at_builtin;refine append_recs info_strip Tryz.underlying99 rfl (by decide) (by decide) rfl _ _ rfl _ 0 [] [] ⟨g,0,none⟩ 0 cap hX hown rfl rfl rfl (fun i u hu=>by simp at hu) (fun u hu=>by simp at hu) (by omega) (by omega) ?_)
      intro v' w' ho hx'
      have hoh:=Lib.hid ho
      clear hown ho q1 q2 q3 q4
      go_wp2_with fail
      refine⟨⟨1,by go_num,by omega,hoh.out,hx'⟩,?_⟩
      simp [intOf]
  · obtain rfl:j=1:=by omega
    obtain⟨A,c,rfl,-⟩:=Recs.of_row hown
    clear hown
    go_wp2_with fail
    go_ret
    exact⟨_,_,rfl,hX⟩
set_option maxRecDepth 100000 in
theorem cells71_p (base loc wr rd top:Int)(w:World):Calls Tryz.prog 51 #[.agg #[.int .i64 7,.int .i64 base,.int .i64 loc,.int .i64 1,.int .i64 wr,.int .i64 rd,.int .i64 top]] w fun e w'=>e=.returned (.int .i64 0)/\Ext w w':=by
 have hS:∀ w,Calls Tryz.prog 64 #[.agg #[.int .i64 7,.int .i64 base,.int .i64 loc,.int .i64 1,.int .i64 wr,.int .i64 rd,.int .i64 top]] w fun e w'=>∃ A c,e=.returned (.slice A 0 c)/\Ext w w':=by
  intro w
  have hX:=Ext.refl w
  have b1:=Blk.new w (.cells #[.int .i64 7,.int .i64 base,.int .i64 loc,.int .i64 1,.int .i64 wr,.int .i64 rd,.int .i64 top] 87)
  replace hX:=hX.alloc (.cells #[.int .i64 7,.int .i64 base,.int .i64 loc,.int .i64 1,.int .i64 wr,.int .i64 rd,.int .i64 top] 87)
  have c_b1:=b1.cells
  go_enter Tryz.func64,Tryz.ntmps64
  go_wp2_with fail
  refine (mstrips1_p _).mono ?_
  rintro e w2 ⟨A,c,rfl,hx⟩
  have hf:=Lib.hid (hX.trans hx)
  clear hx
  go_wp2_with fail
  go_ret
  exact⟨_,_,rfl,hf.out⟩
 have hX:=Ext.refl w
 have b1:=Blk.new w (.cells #[.int .i64 7,.int .i64 base,.int .i64 loc,.int .i64 1,.int .i64 wr,.int .i64 rd,.int .i64 top] 87)
 replace hX:=hX.alloc (.cells #[.int .i64 7,.int .i64 base,.int .i64 loc,.int .i64 1,.int .i64 wr,.int .i64 rd,.int .i64 top] 87)
 have c_b1:=b1.cells
 go_enter Tryz.func51,Tryz.ntmps51
 go_wp2_with fail
 refine (hS _).mono ?_
 rintro e w2 ⟨A,c,rfl,hx⟩
 have hf:=Lib.hid (hX.trans hx)
 clear hx hS c_b1 b1 hX
 go_wp2_with fail
 go_loopw [3,9] (fun s i wr=>i=.int .i64 0/\s=.int .i64 0/\w2=wr) (fun _ _ _=>0)
 case atStart=>exact⟨rfl,rfl,rfl⟩
 case round =>
  obtain⟨rfl,rfl,rfl⟩:=hrel
  go_wp2_with fail
  go_ret
  exact⟨rfl,hf.out⟩
theorem cells_all (r:Reg)(w:World)(hk:r.kind=1∨r.kind=6∨r.kind=7)(hn:1<=r.n/\r.n<=8):Calls Tryz.prog 51 #[encR r] w fun e w'=>e=.returned (.int .i64 (cellsM r))/\Ext w w':=by
 by_cases h:r.kind=7/\r.n=1
 · obtain⟨kind,base,loc,n,wr,rd,top⟩:=r
   obtain⟨rfl,rfl⟩:=h
   exact cells71_p base loc wr rd top w
 · exact cells_p r w (by omega) hn (fun w=>mthreads_p r.n w hn.1 hn.2)
theorem RegsAt.ext {ix:List Nat}{p b:Nat}{w w':World}{l:List Reg}(h:RegsAt ix w p b l)(hx:Ext w w')(hp:p<w.heap.size):RegsAt ix w' p b l:=h.keep (B:=0) (Keep.of_ext hx hp (Nat.zero_le _))
theorem take_snoc_eq {a b:List Int}{k:Nat}(ha:k<a.length)(hb:k<b.length)(h:a.take k=b.take k):(a.take (k+1)=b.take (k+1))↔a.getD k 0=b.getD k 0:=by
 rw [List.take_succ_eq_append_getElem ha,List.take_succ_eq_append_getElem hb,h]
 rw [List.append_cancel_left_eq]
 simp [List.getD,List.getElem?_eq_getElem ha,List.getElem?_eq_getElem hb]
theorem ints_r (v1 v2:Value)(a b:List Int)(w:World)(h1:Ints w v1 a)(h2:Ints w v2 b) :
  Calls Tryz.prog 44 #[v1,v2] w fun e w'=>e=.returned (.bool (decide (a=b)))/\Drew w w':=by
 obtain⟨A,c,rfl,q1,q2⟩:=h1.slice
 obtain⟨B,d,rfl,q3,q4⟩:=h2.slice
 by_cases hl:a.length=b.length
 · have H:Hid (a.length=b.length):=hl
   rw [<- hl] at h2 q3 ⊢
   have l1:a.length<=9223372036854775807:=by omega
   clear hl
   go_enter Tryz.func44,Tryz.ntmps44
   go_wp2_with fail
   go_loopw [5] (fun i wr=>∃ j:Nat,i=.int .i64 j/\j<=a.length/\Hid (a.take j=b.take j)/\Drew w wr) (fun i _=>a.length-(intOf i).toNat)
   case atStart=>exact⟨0,rfl,by omega,by simp [Hid],Drew.rfl' _⟩
   case round =>
    obtain⟨j,rfl,hj,ht,hd⟩:=hrel
    by_cases hlt:j<a.length
    · obtain⟨b1,o1,rfl,hb1,hc1⟩:=h1.at_ hlt
      obtain⟨b2,o2,rfl,hb2,hc2⟩:=h2.at_ hlt
      obtain⟨n,rfl⟩:=hd
      have hlt2:j<b.length:=by rw [<- H.out];exact hlt
      have T:=Lib.hid (take_snoc_eq hlt hlt2 ht.out)
      rw [List.getD_eq_getElem?_getD,List.getElem?_eq_getElem hlt,Option.getD_some] at hc1
      rw [List.getD_eq_getElem?_getD,List.getElem?_eq_getElem hlt2,Option.getD_some] at hc2
      clear h1 h2
      by_cases hx:a[j]=b[j]
      · have d1:(a[j]==b[j])=true:=by rw [beq_iff_eq];exact hx
        have d2:(a[j] != b[j])=false:=by rw [bne_eq_false_iff_eq];exact hx
        have HX:=Lib.hid hx
        clear hx
        go_wp2_with fail
        go_quiet (fail)
        go_wp2_with fail
        refine⟨⟨j+1,by go_num,by omega,T.out.2 (by simpa [List.getD,hlt,hlt2] using HX.out),Drew.mk' _ _⟩,?_⟩
        simp [intOf];omega
      · have d1:(a[j]==b[j])=false:=by rw [beq_eq_false_iff_ne];exact hx
        have d2:(a[j] != b[j])=true:=by rw [bne_iff_ne];exact hx
        have HX:=Lib.hid hx
        clear hx
        go_wp2_with fail
        go_quiet (fail)
        go_wp2_with fail
        go_ret
        refine⟨ret_bool ?_,(Drew.mk' _ _).trans (Drew.mk' _ _)⟩
        symm
        rw [decide_eq_false_iff_not]
        rintro rfl
        exact HX.out rfl
    · obtain rfl:j=a.length:=by omega
      have E:Hid (a=b):=by
       have:=ht.out
       rw [List.take_length,H.out,List.take_length] at this
       exact this
      go_wp2_with fail
      go_ret
      refine⟨ret_bool ?_,hd⟩
      simp [E.out]
 · have d1:((a.length:Int) != (b.length:Int))=true:=by rw [bne_iff_ne];omega
   have H:Hid (decide (a=b)=false):=by
    unfold Hid
    rw [decide_eq_false_iff_not]
    intro he
    exact hl (by rw [he])
   clear hl
   go_enter Tryz.func44,Tryz.ntmps44
   go_wp2_with fail
   go_ret
   exact⟨ret_bool H.out.symm,Drew.rfl' _⟩
end Go.Proofs.YtbphlkaihfbgeaaGreat
