/-
  BoundTellsSaid: part 6 of its proof.
-/
import Derived.Test.YtponihangpiooaaGreatJBoundTellsSaid5
import Derived.Laws.Rows
import Derived.Laws.Cells
import Derived.Deep.WholeRow
import Derived.ProofKit
import Derived.Deep.MidRow
namespace Go.Proofs.YtponihangpiooaaGreat
open Go.RowKit Kv
set_option maxRecDepth 100000 in
set_option maxHeartbeats 4000000 in
theorem fin6_r (base loc n wr rd top C D:Int)(w:World)(hb:0<=base/\base<=32768)(hl:0<=loc/\loc<=32768)(hn:1<=n/\n<=8)(hz:0<=C/\C<=6272/\0<=D/\D<=7072)
  (hC:∀ w,Calls Tryz.prog 138 #[.agg #[.int .i64 6,.int .i64 base,.int .i64 loc,.int .i64 n,.int .i64 wr,.int .i64 rd,.int .i64 top]] w fun e w'=>e=.returned (.int .i64 C)/\Ext w w')
  (hL:∀ w,Calls Tryz.prog 139 #[.agg #[.int .i64 6,.int .i64 base,.int .i64 loc,.int .i64 n,.int .i64 wr,.int .i64 rd,.int .i64 top]] w fun e w'=>e=.returned (.int .i64 D)/\Ext w w') :
  Calls Tryz.prog 136 #[.agg #[.int .i64 6,.int .i64 base,.int .i64 loc,.int .i64 n,.int .i64 wr,.int .i64 rd,.int .i64 top]] w (BoolPost w (thrB n wr true=true/\thrB n rd false=true/\True/\1<=top/\top<=1048576/\base+C<=32768/\loc+D<=32768)):=by
 have d1:decide (base<0)=false:=by simpa using hb.1
 have d2:decide (loc<0)=false:=by simpa using hl.1
 have d3:decide (n<1)=false:=by simpa using hn.1
 have d4:decide (8<n)=false:=by simpa using hn.2
 have d5:decide (32768<base)=false:=by simpa using hb.2
 have d6:decide (32768<loc)=false:=by simpa using hl.2
 have hT:=fun w=>thread_b n wr true w
 have hT2:=fun w=>thread_b n rd false w
 have hX:=Ext.refl w
 have b1:=Blk.new w (.cells #[.int .i64 6,.int .i64 base,.int .i64 loc,.int .i64 n,.int .i64 wr,.int .i64 rd,.int .i64 top] 59)
 replace hX:=hX.alloc (.cells #[.int .i64 6,.int .i64 base,.int .i64 loc,.int .i64 n,.int .i64 wr,.int .i64 rd,.int .i64 top] 59)
 have c_b1:=b1.cells
 cases t1:thrB n wr true
 · rw [t1] at hT
   go_enter Tryz.func136,Tryz.ntmps136
   go_wp2_with fail
   refine (hT _).mono ?_
   rintro e w' ⟨rfl,rfl⟩
   go_wp2_with fail
   go_ret
   exact⟨false,rfl,hX,fun h=>nomatch h⟩
 rw [t1] at hT
 cases t2:thrB n rd false
 · rw [t2] at hT2
   go_enter Tryz.func136,Tryz.ntmps136
   go_wp2_with fail
   refine (hT _).mono ?_
   rintro e w' ⟨rfl,rfl⟩
   go_wp2_with fail
   refine (hT2 _).mono ?_
   rintro e w' ⟨rfl,rfl⟩
   go_wp2_with fail
   go_ret
   exact⟨false,rfl,hX,fun h=>nomatch h⟩
 rw [t2] at hT2
 have h1w:=IntWalk.i64_in (base+C) (by omega)
 have h2w:=IntWalk.i64_in (loc+D) (by omega)
 have hf:∀ b:Bool,(b=true->1<=top/\top<=1048576/\base+C<=32768/\loc+D<=32768)->(b=true->true=true/\true=true/\True/\1<=top/\top<=1048576/\base+C<=32768/\loc+D<=32768):=fun b h hb=>⟨rfl,rfl,trivial,h hb⟩
 have hfh:=Lib.hid hf
 clear hf
 go_enter Tryz.func136,Tryz.ntmps136
 go_wp2_with fail
 refine (hT _).mono ?_
 rintro e w' ⟨rfl,rfl⟩
 go_wp2_with fail
 refine (hT2 _).mono ?_
 rintro e w' ⟨rfl,rfl⟩
 clear hT hT2 t1 t2
 go_wp2_with fail
 have k1:=b1.alloc (.cells #[.int .i64 0,.int .i64 1099511627776,.int .i64 1,.int .i64 255,.int .i64 1,.int .i64 1099511627776,.int .i64 1048576,.int .i64 255] 3)
 have k2:=Blk.new (w.alloc (.cells #[.int .i64 6,.int .i64 base,.int .i64 loc,.int .i64 n,.int .i64 wr,.int .i64 rd,.int .i64 top] 59)) (.cells #[.int .i64 0,.int .i64 1099511627776,.int .i64 1,.int .i64 255,.int .i64 1,.int .i64 1099511627776,.int .i64 1048576,.int .i64 255] 3)
 have hXW:=hX.alloc (.cells #[.int .i64 0,.int .i64 1099511627776,.int .i64 1,.int .i64 255,.int .i64 1,.int .i64 1099511627776,.int .i64 1048576,.int .i64 255] 3)
 simp only [World.size_alloc] at k2
 clear b1 c_b1 hX
 generalize World.alloc (World.alloc _ _) _=W at *
 have hX:=(Ext.refl W).drew
 have hS:∀ w',Ext W w'->(∀ i,w'.cell? ⟨w.heap.size,i,none⟩=(#[.int .i64 6,.int .i64 base,.int .i64 loc,.int .i64 n,.int .i64 wr,.int .i64 rd,.int .i64 top]:Array Value)[i]?)/\(∀ i,w'.cell? ⟨w.heap.size+1,i,none⟩=(#[.int .i64 0,.int .i64 1099511627776,.int .i64 1,.int .i64 255,.int .i64 1,.int .i64 1099511627776,.int .i64 1048576,.int .i64 255]:Array Value)[i]?):=fun w' hx=>⟨(k1.ext hx).cells,(k2.ext hx).cells⟩
 by_cases e7:1<=top
 · have d7:decide (1<=top)=true:=by simpa using e7
   by_cases e8:top<=1048576
   · have d8:decide (top<=1048576)=true:=by simpa using e8
     by_cases hc:base+C<=32768
     · have d9:decide (base+C<=32768)=true:=by simpa using hc
       go_region_held2 (fun w'=>(∀ i,w'.cell? ⟨w.heap.size,i,none⟩=(#[.int .i64 6,.int .i64 base,.int .i64 loc,.int .i64 n,.int .i64 wr,.int .i64 rd,.int .i64 top]:Array Value)[i]?)/\(∀ i,w'.cell? ⟨w.heap.size+1,i,none⟩=(#[.int .i64 0,.int .i64 1099511627776,.int .i64 1,.int .i64 255,.int .i64 1,.int .i64 1099511627776,.int .i64 1048576,.int .i64 255]:Array Value)[i]?)) (exact hS _ hX)
       (first
          | (go_at_call 138
             refine (hC _).mono ?_
             rintro e w2 ⟨rfl,hx⟩
             replace hX:=hX.trans hx
             clear hx)
          | (go_at_call 139
             refine (hL _).mono ?_
             rintro e w2 ⟨rfl,hx⟩
             replace hX:=hX.trans hx
             clear hx))
       go_wp2_with fail
       go_ret
       exact⟨_,rfl,hXW.trans hX,hfh.out _ fun h=>⟨e7,e8,hc,by simpa using h⟩⟩
     · have d9:decide (base+C<=32768)=false:=by simpa using hc
       refine wp_region_held_drew (S:=fun w'=>(∀ i,w'.cell? ⟨w.heap.size,i,none⟩=(#[.int .i64 6,.int .i64 base,.int .i64 loc,.int .i64 n,.int .i64 wr,.int .i64 rd,.int .i64 top]:Array Value)[i]?)/\(∀ i,w'.cell? ⟨w.heap.size+1,i,none⟩=(#[.int .i64 0,.int .i64 1099511627776,.int .i64 1,.int .i64 255,.int .i64 1,.int .i64 1099511627776,.int .i64 1048576,.int .i64 255]:Array Value)[i]?)) rfl (hS _ hX) (fun hHeld=>?_)
       refine tkb 0 ?_
       iterate 17
        refine tkn (v:=?_) rfl (by kernel_rfl) (fun _ _ _ h=>h) (by assumption) ?_ ?_
        rotate_left
        · (intro w hSw;(try dsimp only at hSw);go_simp;try with_reducible rfl)
        try simp only [put_pack]
       refine tke ?_
       refine wpAnyH_ready (rs:=[17]) (by kernel_rfl) (by simp) ?_
       refine AllReadyH.cons rfl (fun K hKK=>?_) (AllReadyH.nil)
       go_simp
       refine (hC _).mono ?_
       rintro e w2 ⟨rfl,hx⟩
       replace hX:=hX.trans hx
       clear hx
       refine hKK.out _ _ (hS _ hX) (fun hHeld=>?_)
       clear hKK K
       try dsimp only
       refine tkb 18 ?_
       iterate 4
        refine tkn (v:=?_) rfl (by kernel_rfl) (fun _ _ _ h=>h) (by assumption) ?_ ?_
        rotate_left
        · (intro w hSw;(try dsimp only at hSw);go_simp;try with_reducible rfl)
        try simp only [put_pack]
       refine tke ?_
       refine sk 22 rfl (by kernel_rfl) (fun _ _ _ h=>h) (by assumption) ?_
       try simp only [put_pack]
       refine sk 23 rfl (by kernel_rfl) (fun _ _ _ h=>h) (by assumption) ?_
       try simp only [put_pack]
       refine sk 24 rfl (by kernel_rfl) (fun _ _ _ h=>h) (by assumption) ?_
       try simp only [put_pack]
       refine sk 25 rfl (by kernel_rfl) (fun _ _ _ h=>h) (by assumption) ?_
       try simp only [put_pack]
       refine sk 26 rfl (by kernel_rfl) (fun _ _ _ h=>h) (by assumption) ?_
       try simp only [put_pack]
       refine sk 27 rfl (by kernel_rfl) (fun _ _ _ h=>h) (by assumption) ?_
       try simp only [put_pack]
       refine tk 28 (v:=?_) rfl (by kernel_rfl) (fun _ _ _ h=>h) (by assumption) ?_ ?_
       rotate_left
       · (intro w hSw;(try dsimp only at hSw);go_simp;try with_reducible rfl)
       try simp only [put_pack]
       refine tk 29 (v:=?_) rfl (by kernel_rfl) (fun _ _ _ h=>h) (by assumption) ?_ ?_
       rotate_left
       · (intro w hSw;(try dsimp only at hSw);go_simp;try with_reducible rfl)
       try simp only [put_pack]
       refine wpAnyH_done (by kernel_rfl) ?_ _
       go_simp
       go_wp2_with fail
       go_ret
       exact⟨false,rfl,hXW.trans hX,fun h=>nomatch h⟩
   · have d8:decide (top<=1048576)=false:=by simpa using e8
     refine wp_region_held_drew (S:=fun w'=>(∀ i,w'.cell? ⟨w.heap.size,i,none⟩=(#[.int .i64 6,.int .i64 base,.int .i64 loc,.int .i64 n,.int .i64 wr,.int .i64 rd,.int .i64 top]:Array Value)[i]?)/\(∀ i,w'.cell? ⟨w.heap.size+1,i,none⟩=(#[.int .i64 0,.int .i64 1099511627776,.int .i64 1,.int .i64 255,.int .i64 1,.int .i64 1099511627776,.int .i64 1048576,.int .i64 255]:Array Value)[i]?)) rfl (hS _ hX) (fun hHeld=>?_)
     refine tkb 0 ?_
     iterate 14
      refine tkn (v:=?_) rfl (by kernel_rfl) (fun _ _ _ h=>h) (by assumption) ?_ ?_
      rotate_left
      · (intro w hSw;(try dsimp only at hSw);go_simp;try with_reducible rfl)
      try simp only [put_pack]
     refine tke ?_
     refine sk 14 rfl (by kernel_rfl) (fun _ _ _ h=>h) (by assumption) ?_
     try simp only [put_pack]
     refine sk 15 rfl (by kernel_rfl) (fun _ _ _ h=>h) (by assumption) ?_
     try simp only [put_pack]
     refine sk 16 rfl (by kernel_rfl) (fun _ _ _ h=>h) (by assumption) ?_
     try simp only [put_pack]
     refine sk 17 rfl (by kernel_rfl) (fun _ _ _ h=>h) (by assumption) ?_
     try simp only [put_pack]
     refine sk 18 rfl (by kernel_rfl) (fun _ _ _ h=>h) (by assumption) ?_
     try simp only [put_pack]
     refine sk 19 rfl (by kernel_rfl) (fun _ _ _ h=>h) (by assumption) ?_
     try simp only [put_pack]
     refine tk 20 (v:=?_) rfl (by kernel_rfl) (fun _ _ _ h=>h) (by assumption) ?_ ?_
     rotate_left
     · (intro w hSw;(try dsimp only at hSw);go_simp;try with_reducible rfl)
     try simp only [put_pack]
     refine tk 21 (v:=?_) rfl (by kernel_rfl) (fun _ _ _ h=>h) (by assumption) ?_ ?_
     rotate_left
     · (intro w hSw;(try dsimp only at hSw);go_simp;try with_reducible rfl)
     try simp only [put_pack]
     refine sk 22 rfl (by kernel_rfl) (fun _ _ _ h=>h) (by assumption) ?_
     try simp only [put_pack]
     refine sk 23 rfl (by kernel_rfl) (fun _ _ _ h=>h) (by assumption) ?_
     try simp only [put_pack]
     refine sk 24 rfl (by kernel_rfl) (fun _ _ _ h=>h) (by assumption) ?_
     try simp only [put_pack]
     refine sk 25 rfl (by kernel_rfl) (fun _ _ _ h=>h) (by assumption) ?_
     try simp only [put_pack]
     refine sk 26 rfl (by kernel_rfl) (fun _ _ _ h=>h) (by assumption) ?_
     try simp only [put_pack]
     refine sk 27 rfl (by kernel_rfl) (fun _ _ _ h=>h) (by assumption) ?_
     try simp only [put_pack]
     refine tk 28 (v:=?_) rfl (by kernel_rfl) (fun _ _ _ h=>h) (by assumption) ?_ ?_
     rotate_left
     · (intro w hSw;(try dsimp only at hSw);go_simp;try with_reducible rfl)
     try simp only [put_pack]
     refine tk 29 (v:=?_) rfl (by kernel_rfl) (fun _ _ _ h=>h) (by assumption) ?_ ?_
     rotate_left
     · (intro w hSw;(try dsimp only at hSw);go_simp;try with_reducible rfl)
     try simp only [put_pack]
     refine wpAnyH_done (by kernel_rfl) ?_ _
     go_simp
     go_wp2_with fail
     go_ret
     exact⟨false,rfl,hXW.trans hX,fun h=>nomatch h⟩
 · have d7:decide (1<=top)=false:=by simpa using e7
   refine wp_region_held_drew (S:=fun w'=>(∀ i,w'.cell? ⟨w.heap.size,i,none⟩=(#[.int .i64 6,.int .i64 base,.int .i64 loc,.int .i64 n,.int .i64 wr,.int .i64 rd,.int .i64 top]:Array Value)[i]?)/\(∀ i,w'.cell? ⟨w.heap.size+1,i,none⟩=(#[.int .i64 0,.int .i64 1099511627776,.int .i64 1,.int .i64 255,.int .i64 1,.int .i64 1099511627776,.int .i64 1048576,.int .i64 255]:Array Value)[i]?)) rfl (hS _ hX) (fun hHeld=>?_)
   refine tkb 0 ?_
   iterate 4
    refine tkn (v:=?_) rfl (by kernel_rfl) (fun _ _ _ h=>h) (by assumption) ?_ ?_
    rotate_left
    · (intro w hSw;(try dsimp only at hSw);go_simp;try with_reducible rfl)
    try simp only [put_pack]
   refine tke ?_
   refine sk 4 rfl (by kernel_rfl) (fun _ _ _ h=>h) (by assumption) ?_
   try simp only [put_pack]
   refine sk 5 rfl (by kernel_rfl) (fun _ _ _ h=>h) (by assumption) ?_
   try simp only [put_pack]
   refine sk 6 rfl (by kernel_rfl) (fun _ _ _ h=>h) (by assumption) ?_
   try simp only [put_pack]
   refine sk 7 rfl (by kernel_rfl) (fun _ _ _ h=>h) (by assumption) ?_
   try simp only [put_pack]
   refine sk 8 rfl (by kernel_rfl) (fun _ _ _ h=>h) (by assumption) ?_
   try simp only [put_pack]
   refine sk 9 rfl (by kernel_rfl) (fun _ _ _ h=>h) (by assumption) ?_
   try simp only [put_pack]
   refine sk 10 rfl (by kernel_rfl) (fun _ _ _ h=>h) (by assumption) ?_
   try simp only [put_pack]
   refine sk 11 rfl (by kernel_rfl) (fun _ _ _ h=>h) (by assumption) ?_
   try simp only [put_pack]
   refine tk 12 (v:=?_) rfl (by kernel_rfl) (fun _ _ _ h=>h) (by assumption) ?_ ?_
   rotate_left
   · (intro w hSw;(try dsimp only at hSw);go_simp;try with_reducible rfl)
   try simp only [put_pack]
   refine tk 13 (v:=?_) rfl (by kernel_rfl) (fun _ _ _ h=>h) (by assumption) ?_ ?_
   rotate_left
   · (intro w hSw;(try dsimp only at hSw);go_simp;try with_reducible rfl)
   try simp only [put_pack]
   refine sk 14 rfl (by kernel_rfl) (fun _ _ _ h=>h) (by assumption) ?_
   try simp only [put_pack]
   refine sk 15 rfl (by kernel_rfl) (fun _ _ _ h=>h) (by assumption) ?_
   try simp only [put_pack]
   refine sk 16 rfl (by kernel_rfl) (fun _ _ _ h=>h) (by assumption) ?_
   try simp only [put_pack]
   refine sk 17 rfl (by kernel_rfl) (fun _ _ _ h=>h) (by assumption) ?_
   try simp only [put_pack]
   refine sk 18 rfl (by kernel_rfl) (fun _ _ _ h=>h) (by assumption) ?_
   try simp only [put_pack]
   refine sk 19 rfl (by kernel_rfl) (fun _ _ _ h=>h) (by assumption) ?_
   try simp only [put_pack]
   refine tk 20 (v:=?_) rfl (by kernel_rfl) (fun _ _ _ h=>h) (by assumption) ?_ ?_
   rotate_left
   · (intro w hSw;(try dsimp only at hSw);go_simp;try with_reducible rfl)
   try simp only [put_pack]
   refine tk 21 (v:=?_) rfl (by kernel_rfl) (fun _ _ _ h=>h) (by assumption) ?_ ?_
   rotate_left
   · (intro w hSw;(try dsimp only at hSw);go_simp;try with_reducible rfl)
   try simp only [put_pack]
   refine sk 22 rfl (by kernel_rfl) (fun _ _ _ h=>h) (by assumption) ?_
   try simp only [put_pack]
   refine sk 23 rfl (by kernel_rfl) (fun _ _ _ h=>h) (by assumption) ?_
   try simp only [put_pack]
   refine sk 24 rfl (by kernel_rfl) (fun _ _ _ h=>h) (by assumption) ?_
   try simp only [put_pack]
   refine sk 25 rfl (by kernel_rfl) (fun _ _ _ h=>h) (by assumption) ?_
   try simp only [put_pack]
   refine sk 26 rfl (by kernel_rfl) (fun _ _ _ h=>h) (by assumption) ?_
   try simp only [put_pack]
   refine sk 27 rfl (by kernel_rfl) (fun _ _ _ h=>h) (by assumption) ?_
   try simp only [put_pack]
   refine tk 28 (v:=?_) rfl (by kernel_rfl) (fun _ _ _ h=>h) (by assumption) ?_ ?_
   rotate_left
   · (intro w hSw;(try dsimp only at hSw);go_simp;try with_reducible rfl)
   try simp only [put_pack]
   refine tk 29 (v:=?_) rfl (by kernel_rfl) (fun _ _ _ h=>h) (by assumption) ?_ ?_
   rotate_left
   · (intro w hSw;(try dsimp only at hSw);go_simp;try with_reducible rfl)
   try simp only [put_pack]
   refine wpAnyH_done (by kernel_rfl) ?_ _
   go_simp
   go_wp2_with fail
   go_ret
   exact⟨false,rfl,hXW.trans hX,fun h=>nomatch h⟩
set_option maxRecDepth 100000 in
set_option maxHeartbeats 4000000 in
theorem fin7_r (base loc n wr rd top C D:Int)(w:World)(hb:0<=base/\base<=32768)(hl:0<=loc/\loc<=32768)(hn:1<=n/\n<=8)(hz:0<=C/\C<=6272/\0<=D/\D<=7072)
  (hC:∀ w,Calls Tryz.prog 138 #[.agg #[.int .i64 7,.int .i64 base,.int .i64 loc,.int .i64 n,.int .i64 wr,.int .i64 rd,.int .i64 top]] w fun e w'=>e=.returned (.int .i64 C)/\Ext w w')
  (hL:∀ w,Calls Tryz.prog 139 #[.agg #[.int .i64 7,.int .i64 base,.int .i64 loc,.int .i64 n,.int .i64 wr,.int .i64 rd,.int .i64 top]] w fun e w'=>e=.returned (.int .i64 D)/\Ext w w') :
  Calls Tryz.prog 136 #[.agg #[.int .i64 7,.int .i64 base,.int .i64 loc,.int .i64 n,.int .i64 wr,.int .i64 rd,.int .i64 top]] w (BoolPost w (thrB n wr false=true/\thrB n rd false=true/\True/\1<=top/\top<=255/\base+C<=32768/\loc+D<=32768)):=by
 have d1:decide (base<0)=false:=by simpa using hb.1
 have d2:decide (loc<0)=false:=by simpa using hl.1
 have d3:decide (n<1)=false:=by simpa using hn.1
 have d4:decide (8<n)=false:=by simpa using hn.2
 have d5:decide (32768<base)=false:=by simpa using hb.2
 have d6:decide (32768<loc)=false:=by simpa using hl.2
 have hT:=fun w=>thread_b n wr false w
 have hT2:=fun w=>thread_b n rd false w
 have hX:=Ext.refl w
 have b1:=Blk.new w (.cells #[.int .i64 7,.int .i64 base,.int .i64 loc,.int .i64 n,.int .i64 wr,.int .i64 rd,.int .i64 top] 59)
 replace hX:=hX.alloc (.cells #[.int .i64 7,.int .i64 base,.int .i64 loc,.int .i64 n,.int .i64 wr,.int .i64 rd,.int .i64 top] 59)
 have c_b1:=b1.cells
 cases t1:thrB n wr false
 · rw [t1] at hT
   go_enter Tryz.func136,Tryz.ntmps136
   go_wp2_with fail
   refine (hT _).mono ?_
   rintro e w' ⟨rfl,rfl⟩
   go_wp2_with fail
   go_ret
   exact⟨false,rfl,hX,fun h=>nomatch h⟩
 rw [t1] at hT
 cases t2:thrB n rd false
 · rw [t2] at hT2
   go_enter Tryz.func136,Tryz.ntmps136
   go_wp2_with fail
   refine (hT _).mono ?_
   rintro e w' ⟨rfl,rfl⟩
   go_wp2_with fail
   refine (hT2 _).mono ?_
   rintro e w' ⟨rfl,rfl⟩
   go_wp2_with fail
   go_ret
   exact⟨false,rfl,hX,fun h=>nomatch h⟩
 rw [t2] at hT2
 have h1w:=IntWalk.i64_in (base+C) (by omega)
 have h2w:=IntWalk.i64_in (loc+D) (by omega)
 have hf:∀ b:Bool,(b=true->1<=top/\top<=255/\base+C<=32768/\loc+D<=32768)->(b=true->true=true/\true=true/\True/\1<=top/\top<=255/\base+C<=32768/\loc+D<=32768):=fun b h hb=>⟨rfl,rfl,trivial,h hb⟩
 have hfh:=Lib.hid hf
 clear hf
 go_enter Tryz.func136,Tryz.ntmps136
 go_wp2_with fail
 refine (hT _).mono ?_
 rintro e w' ⟨rfl,rfl⟩
 go_wp2_with fail
 refine (hT2 _).mono ?_
 rintro e w' ⟨rfl,rfl⟩
 clear hT hT2 t1 t2
 go_wp2_with fail
 have k1:=b1.alloc (.cells #[.int .i64 0,.int .i64 1099511627776,.int .i64 1,.int .i64 255,.int .i64 1,.int .i64 1099511627776,.int .i64 1048576,.int .i64 255] 3)
 have k2:=Blk.new (w.alloc (.cells #[.int .i64 7,.int .i64 base,.int .i64 loc,.int .i64 n,.int .i64 wr,.int .i64 rd,.int .i64 top] 59)) (.cells #[.int .i64 0,.int .i64 1099511627776,.int .i64 1,.int .i64 255,.int .i64 1,.int .i64 1099511627776,.int .i64 1048576,.int .i64 255] 3)
 have hXW:=hX.alloc (.cells #[.int .i64 0,.int .i64 1099511627776,.int .i64 1,.int .i64 255,.int .i64 1,.int .i64 1099511627776,.int .i64 1048576,.int .i64 255] 3)
 simp only [World.size_alloc] at k2
 clear b1 c_b1 hX
 generalize World.alloc (World.alloc _ _) _=W at *
 have hX:=(Ext.refl W).drew
 have hS:∀ w',Ext W w'->(∀ i,w'.cell? ⟨w.heap.size,i,none⟩=(#[.int .i64 7,.int .i64 base,.int .i64 loc,.int .i64 n,.int .i64 wr,.int .i64 rd,.int .i64 top]:Array Value)[i]?)/\(∀ i,w'.cell? ⟨w.heap.size+1,i,none⟩=(#[.int .i64 0,.int .i64 1099511627776,.int .i64 1,.int .i64 255,.int .i64 1,.int .i64 1099511627776,.int .i64 1048576,.int .i64 255]:Array Value)[i]?):=fun w' hx=>⟨(k1.ext hx).cells,(k2.ext hx).cells⟩
 by_cases e7:1<=top
 · have d7:decide (1<=top)=true:=by simpa using e7
   by_cases e8:top<=255
   · have d8:decide (top<=255)=true:=by simpa using e8
     by_cases hc:base+C<=32768
     · have d9:decide (base+C<=32768)=true:=by simpa using hc
       go_region_held2 (fun w'=>(∀ i,w'.cell? ⟨w.heap.size,i,none⟩=(#[.int .i64 7,.int .i64 base,.int .i64 loc,.int .i64 n,.int .i64 wr,.int .i64 rd,.int .i64 top]:Array Value)[i]?)/\(∀ i,w'.cell? ⟨w.heap.size+1,i,none⟩=(#[.int .i64 0,.int .i64 1099511627776,.int .i64 1,.int .i64 255,.int .i64 1,.int .i64 1099511627776,.int .i64 1048576,.int .i64 255]:Array Value)[i]?)) (exact hS _ hX)
       (first
          | (go_at_call 138
             refine (hC _).mono ?_
             rintro e w2 ⟨rfl,hx⟩
             replace hX:=hX.trans hx
             clear hx)
          | (go_at_call 139
             refine (hL _).mono ?_
             rintro e w2 ⟨rfl,hx⟩
             replace hX:=hX.trans hx
             clear hx))
       go_wp2_with fail
       go_ret
       exact⟨_,rfl,hXW.trans hX,hfh.out _ fun h=>⟨e7,e8,hc,by simpa using h⟩⟩
     · have d9:decide (base+C<=32768)=false:=by simpa using hc
       refine wp_region_held_drew (S:=fun w'=>(∀ i,w'.cell? ⟨w.heap.size,i,none⟩=(#[.int .i64 7,.int .i64 base,.int .i64 loc,.int .i64 n,.int .i64 wr,.int .i64 rd,.int .i64 top]:Array Value)[i]?)/\(∀ i,w'.cell? ⟨w.heap.size+1,i,none⟩=(#[.int .i64 0,.int .i64 1099511627776,.int .i64 1,.int .i64 255,.int .i64 1,.int .i64 1099511627776,.int .i64 1048576,.int .i64 255]:Array Value)[i]?)) rfl (hS _ hX) (fun hHeld=>?_)
       refine tkb 0 ?_
       iterate 17
        refine tkn (v:=?_) rfl (by kernel_rfl) (fun _ _ _ h=>h) (by assumption) ?_ ?_
        rotate_left
        · (intro w hSw;(try dsimp only at hSw);go_simp;try with_reducible rfl)
        try simp only [put_pack]
       refine tke ?_
       refine wpAnyH_ready (rs:=[17]) (by kernel_rfl) (by simp) ?_
       refine AllReadyH.cons rfl (fun K hKK=>?_) (AllReadyH.nil)
       go_simp
       refine (hC _).mono ?_
       rintro e w2 ⟨rfl,hx⟩
       replace hX:=hX.trans hx
       clear hx
       refine hKK.out _ _ (hS _ hX) (fun hHeld=>?_)
       clear hKK K
       try dsimp only
       refine tkb 18 ?_
       iterate 4
        refine tkn (v:=?_) rfl (by kernel_rfl) (fun _ _ _ h=>h) (by assumption) ?_ ?_
        rotate_left
        · (intro w hSw;(try dsimp only at hSw);go_simp;try with_reducible rfl)
        try simp only [put_pack]
       refine tke ?_
       refine sk 22 rfl (by kernel_rfl) (fun _ _ _ h=>h) (by assumption) ?_
       try simp only [put_pack]
       refine sk 23 rfl (by kernel_rfl) (fun _ _ _ h=>h) (by assumption) ?_
       try simp only [put_pack]
       refine sk 24 rfl (by kernel_rfl) (fun _ _ _ h=>h) (by assumption) ?_
       try simp only [put_pack]
       refine sk 25 rfl (by kernel_rfl) (fun _ _ _ h=>h) (by assumption) ?_
       try simp only [put_pack]
       refine sk 26 rfl (by kernel_rfl) (fun _ _ _ h=>h) (by assumption) ?_
       try simp only [put_pack]
       refine sk 27 rfl (by kernel_rfl) (fun _ _ _ h=>h) (by assumption) ?_
       try simp only [put_pack]
       refine tk 28 (v:=?_) rfl (by kernel_rfl) (fun _ _ _ h=>h) (by assumption) ?_ ?_
       rotate_left
       · (intro w hSw;(try dsimp only at hSw);go_simp;try with_reducible rfl)
       try simp only [put_pack]
       refine tk 29 (v:=?_) rfl (by kernel_rfl) (fun _ _ _ h=>h) (by assumption) ?_ ?_
       rotate_left
       · (intro w hSw;(try dsimp only at hSw);go_simp;try with_reducible rfl)
       try simp only [put_pack]
       refine wpAnyH_done (by kernel_rfl) ?_ _
       go_simp
       go_wp2_with fail
       go_ret
       exact⟨false,rfl,hXW.trans hX,fun h=>nomatch h⟩
   · have d8:decide (top<=255)=false:=by simpa using e8
     refine wp_region_held_drew (S:=fun w'=>(∀ i,w'.cell? ⟨w.heap.size,i,none⟩=(#[.int .i64 7,.int .i64 base,.int .i64 loc,.int .i64 n,.int .i64 wr,.int .i64 rd,.int .i64 top]:Array Value)[i]?)/\(∀ i,w'.cell? ⟨w.heap.size+1,i,none⟩=(#[.int .i64 0,.int .i64 1099511627776,.int .i64 1,.int .i64 255,.int .i64 1,.int .i64 1099511627776,.int .i64 1048576,.int .i64 255]:Array Value)[i]?)) rfl (hS _ hX) (fun hHeld=>?_)
     refine tkb 0 ?_
     iterate 14
      refine tkn (v:=?_) rfl (by kernel_rfl) (fun _ _ _ h=>h) (by assumption) ?_ ?_
      rotate_left
      · (intro w hSw;(try dsimp only at hSw);go_simp;try with_reducible rfl)
      try simp only [put_pack]
     refine tke ?_
     refine sk 14 rfl (by kernel_rfl) (fun _ _ _ h=>h) (by assumption) ?_
     try simp only [put_pack]
     refine sk 15 rfl (by kernel_rfl) (fun _ _ _ h=>h) (by assumption) ?_
     try simp only [put_pack]
     refine sk 16 rfl (by kernel_rfl) (fun _ _ _ h=>h) (by assumption) ?_
     try simp only [put_pack]
     refine sk 17 rfl (by kernel_rfl) (fun _ _ _ h=>h) (by assumption) ?_
     try simp only [put_pack]
     refine sk 18 rfl (by kernel_rfl) (fun _ _ _ h=>h) (by assumption) ?_
     try simp only [put_pack]
     refine sk 19 rfl (by kernel_rfl) (fun _ _ _ h=>h) (by assumption) ?_
     try simp only [put_pack]
     refine tk 20 (v:=?_) rfl (by kernel_rfl) (fun _ _ _ h=>h) (by assumption) ?_ ?_
     rotate_left
     · (intro w hSw;(try dsimp only at hSw);go_simp;try with_reducible rfl)
     try simp only [put_pack]
     refine tk 21 (v:=?_) rfl (by kernel_rfl) (fun _ _ _ h=>h) (by assumption) ?_ ?_
     rotate_left
     · (intro w hSw;(try dsimp only at hSw);go_simp;try with_reducible rfl)
     try simp only [put_pack]
     refine sk 22 rfl (by kernel_rfl) (fun _ _ _ h=>h) (by assumption) ?_
     try simp only [put_pack]
     refine sk 23 rfl (by kernel_rfl) (fun _ _ _ h=>h) (by assumption) ?_
     try simp only [put_pack]
     refine sk 24 rfl (by kernel_rfl) (fun _ _ _ h=>h) (by assumption) ?_
     try simp only [put_pack]
     refine sk 25 rfl (by kernel_rfl) (fun _ _ _ h=>h) (by assumption) ?_
     try simp only [put_pack]
     refine sk 26 rfl (by kernel_rfl) (fun _ _ _ h=>h) (by assumption) ?_
     try simp only [put_pack]
     refine sk 27 rfl (by kernel_rfl) (fun _ _ _ h=>h) (by assumption) ?_
     try simp only [put_pack]
     refine tk 28 (v:=?_) rfl (by kernel_rfl) (fun _ _ _ h=>h) (by assumption) ?_ ?_
     rotate_left
     · (intro w hSw;(try dsimp only at hSw);go_simp;try with_reducible rfl)
     try simp only [put_pack]
     refine tk 29 (v:=?_) rfl (by kernel_rfl) (fun _ _ _ h=>h) (by assumption) ?_ ?_
     rotate_left
     · (intro w hSw;(try dsimp only at hSw);go_simp;try with_reducible rfl)
     try simp only [put_pack]
     refine wpAnyH_done (by kernel_rfl) ?_ _
     go_simp
     go_wp2_with fail
     go_ret
     exact⟨false,rfl,hXW.trans hX,fun h=>nomatch h⟩
 · have d7:decide (1<=top)=false:=by simpa using e7
   refine wp_region_held_drew (S:=fun w'=>(∀ i,w'.cell? ⟨w.heap.size,i,none⟩=(#[.int .i64 7,.int .i64 base,.int .i64 loc,.int .i64 n,.int .i64 wr,.int .i64 rd,.int .i64 top]:Array Value)[i]?)/\(∀ i,w'.cell? ⟨w.heap.size+1,i,none⟩=(#[.int .i64 0,.int .i64 1099511627776,.int .i64 1,.int .i64 255,.int .i64 1,.int .i64 1099511627776,.int .i64 1048576,.int .i64 255]:Array Value)[i]?)) rfl (hS _ hX) (fun hHeld=>?_)
   refine tkb 0 ?_
   iterate 4
    refine tkn (v:=?_) rfl (by kernel_rfl) (fun _ _ _ h=>h) (by assumption) ?_ ?_
    rotate_left
    · (intro w hSw;(try dsimp only at hSw);go_simp;try with_reducible rfl)
    try simp only [put_pack]
   refine tke ?_
   refine sk 4 rfl (by kernel_rfl) (fun _ _ _ h=>h) (by assumption) ?_
   try simp only [put_pack]
   refine sk 5 rfl (by kernel_rfl) (fun _ _ _ h=>h) (by assumption) ?_
   try simp only [put_pack]
   refine sk 6 rfl (by kernel_rfl) (fun _ _ _ h=>h) (by assumption) ?_
   try simp only [put_pack]
   refine sk 7 rfl (by kernel_rfl) (fun _ _ _ h=>h) (by assumption) ?_
   try simp only [put_pack]
   refine sk 8 rfl (by kernel_rfl) (fun _ _ _ h=>h) (by assumption) ?_
   try simp only [put_pack]
   refine sk 9 rfl (by kernel_rfl) (fun _ _ _ h=>h) (by assumption) ?_
   try simp only [put_pack]
   refine sk 10 rfl (by kernel_rfl) (fun _ _ _ h=>h) (by assumption) ?_
   try simp only [put_pack]
   refine sk 11 rfl (by kernel_rfl) (fun _ _ _ h=>h) (by assumption) ?_
   try simp only [put_pack]
   refine tk 12 (v:=?_) rfl (by kernel_rfl) (fun _ _ _ h=>h) (by assumption) ?_ ?_
   rotate_left
   · (intro w hSw;(try dsimp only at hSw);go_simp;try with_reducible rfl)
   try simp only [put_pack]
   refine tk 13 (v:=?_) rfl (by kernel_rfl) (fun _ _ _ h=>h) (by assumption) ?_ ?_
   rotate_left
   · (intro w hSw;(try dsimp only at hSw);go_simp;try with_reducible rfl)
   try simp only [put_pack]
   refine sk 14 rfl (by kernel_rfl) (fun _ _ _ h=>h) (by assumption) ?_
   try simp only [put_pack]
   refine sk 15 rfl (by kernel_rfl) (fun _ _ _ h=>h) (by assumption) ?_
   try simp only [put_pack]
   refine sk 16 rfl (by kernel_rfl) (fun _ _ _ h=>h) (by assumption) ?_
   try simp only [put_pack]
   refine sk 17 rfl (by kernel_rfl) (fun _ _ _ h=>h) (by assumption) ?_
   try simp only [put_pack]
   refine sk 18 rfl (by kernel_rfl) (fun _ _ _ h=>h) (by assumption) ?_
   try simp only [put_pack]
   refine sk 19 rfl (by kernel_rfl) (fun _ _ _ h=>h) (by assumption) ?_
   try simp only [put_pack]
   refine tk 20 (v:=?_) rfl (by kernel_rfl) (fun _ _ _ h=>h) (by assumption) ?_ ?_
   rotate_left
   · (intro w hSw;(try dsimp only at hSw);go_simp;try with_reducible rfl)
   try simp only [put_pack]
   refine tk 21 (v:=?_) rfl (by kernel_rfl) (fun _ _ _ h=>h) (by assumption) ?_ ?_
   rotate_left
   · (intro w hSw;(try dsimp only at hSw);go_simp;try with_reducible rfl)
   try simp only [put_pack]
   refine sk 22 rfl (by kernel_rfl) (fun _ _ _ h=>h) (by assumption) ?_
   try simp only [put_pack]
   refine sk 23 rfl (by kernel_rfl) (fun _ _ _ h=>h) (by assumption) ?_
   try simp only [put_pack]
   refine sk 24 rfl (by kernel_rfl) (fun _ _ _ h=>h) (by assumption) ?_
   try simp only [put_pack]
   refine sk 25 rfl (by kernel_rfl) (fun _ _ _ h=>h) (by assumption) ?_
   try simp only [put_pack]
   refine sk 26 rfl (by kernel_rfl) (fun _ _ _ h=>h) (by assumption) ?_
   try simp only [put_pack]
   refine sk 27 rfl (by kernel_rfl) (fun _ _ _ h=>h) (by assumption) ?_
   try simp only [put_pack]
   refine tk 28 (v:=?_) rfl (by kernel_rfl) (fun _ _ _ h=>h) (by assumption) ?_ ?_
   rotate_left
   · (intro w hSw;(try dsimp only at hSw);go_simp;try with_reducible rfl)
   try simp only [put_pack]
   refine tk 29 (v:=?_) rfl (by kernel_rfl) (fun _ _ _ h=>h) (by assumption) ?_ ?_
   rotate_left
   · (intro w hSw;(try dsimp only at hSw);go_simp;try with_reducible rfl)
   try simp only [put_pack]
   refine wpAnyH_done (by kernel_rfl) ?_ _
   go_simp
   go_wp2_with fail
   go_ret
   exact⟨false,rfl,hXW.trans hX,fun h=>nomatch h⟩
end Go.Proofs.YtponihangpiooaaGreat
namespace Kv
def most7 (k:Int):Int:=if k=1 then 1099511627776 else if k=2 then 1 else if k=3 then 255 else if k=4 then 1 else if k=5 then 1099511627776 else if k=6 then 1048576 else 255
structure Fine17 (r:Reg):Prop where
 fine:Fine7 r
 cells:r.base+cells7 r<=32768
 locals:r.loc+locals7 r<=32768
 wr:thrB r.n r.wr (decide (1<r.kind/\r.kind<7))=true
 rd:thrB r.n r.rd (decide (r.kind=4∨r.kind=5))=true
 ne:r.kind=4∨r.kind=5->r.wr≠r.rd
 top:1<=r.top/\r.top<=most7 r.kind
end Kv
namespace Go.Proofs.YtponihangpiooaaGreat
open Go.RowKit Kv
set_option maxRecDepth 100000 in
set_option maxHeartbeats 4000000 in
theorem fine17x_r (r:Reg)(w:World):Calls Tryz.prog 136 #[encR r] w (BoolPost w (Fine17 r)):=by
 by_cases h:(1<=r.kind/\r.kind<=7)/\(0<=r.base/\r.base<=32768)/\(0<=r.loc/\r.loc<=32768)/\(1<=r.n/\r.n<=8)
 · obtain⟨hk,hb,hl,hn⟩:=h
   have hC:=fun w=>cells17_r r w hk hn
   have hL:=fun w=>locals17_r r w hk hn
   have hz:=cells7_bd hn
   have hF:∀ (x y pr:Bool) (mo:Int) (b:Bool),x=decide (1<r.kind/\r.kind<7)->y=decide (r.kind=4∨r.kind=5)->mo=most7 r.kind->pr=y->(b=true->thrB r.n r.wr x=true/\thrB r.n r.rd y=true/\(pr=true->r.wr≠r.rd)/\1<=r.top/\r.top<=mo/\r.base+cells7 r<=32768/\r.loc+locals7 r<=32768)->(b=true->Fine17 r):=by
    intro x y pr mo b hx hy hm hp h hb2
    obtain⟨a1,a2,a3,a4,a5,a6,a7⟩:=h hb2
    subst hx hy hm hp
    refine⟨⟨by omega,hb,hl,hn,fun e=>?_⟩,a6,a7,a1,a2,fun e=>a3 (by simpa using e),⟨a4,a5⟩⟩
    rw [e] at a1
    unfold thrB at a1
    simpa using a1
   obtain⟨kind,base,loc,n,wr,rd,top⟩:=r
   simp only at hk hb hl hn hF
   have hk2:kind=1∨kind=2∨kind=3∨kind=4∨kind=5∨kind=6∨kind=7:=by omega
   unfold encR at hC hL ⊢
   simp only at hC hL
   rcases hk2 with rfl | rfl | rfl | rfl | rfl | rfl | rfl
   · exact (fin1_r base loc n wr rd top _ _ w hb hl hn hz hC hL).mono fun _ _ ⟨b,he,hx,hf⟩=>⟨b,he,hx,hF false false false 1099511627776 b (by simp) (by simp) (by simp [most7]) rfl fun e=>⟨(hf e).1,(hf e).2.1,fun q=>absurd q (by simp),(hf e).2.2.2⟩⟩
   · exact (fin2_r base loc n wr rd top _ _ w hb hl hn hz hC hL).mono fun _ _ ⟨b,he,hx,hf⟩=>⟨b,he,hx,hF true false false 1 b (by simp) (by simp) (by simp [most7]) rfl fun e=>⟨(hf e).1,(hf e).2.1,fun q=>absurd q (by simp),(hf e).2.2.2⟩⟩
   · exact (fin3_r base loc n wr rd top _ _ w hb hl hn hz hC hL).mono fun _ _ ⟨b,he,hx,hf⟩=>⟨b,he,hx,hF true false false 255 b (by simp) (by simp) (by simp [most7]) rfl fun e=>⟨(hf e).1,(hf e).2.1,fun q=>absurd q (by simp),(hf e).2.2.2⟩⟩
   · exact (fin4_r base loc n wr rd top _ _ w hb hl hn hz hC hL).mono fun _ _ ⟨b,he,hx,hf⟩=>⟨b,he,hx,hF true true true 1 b (by simp) (by simp) (by simp [most7]) rfl fun e=>⟨(hf e).1,(hf e).2.1,fun _=>(hf e).2.2.1,(hf e).2.2.2⟩⟩
   · exact (fin5_r base loc n wr rd top _ _ w hb hl hn hz hC hL).mono fun _ _ ⟨b,he,hx,hf⟩=>⟨b,he,hx,hF true true true 1099511627776 b (by simp) (by simp) (by simp [most7]) rfl fun e=>⟨(hf e).1,(hf e).2.1,fun _=>(hf e).2.2.1,(hf e).2.2.2⟩⟩
   · exact (fin6_r base loc n wr rd top _ _ w hb hl hn hz hC hL).mono fun _ _ ⟨b,he,hx,hf⟩=>⟨b,he,hx,hF true false false 1048576 b (by simp) (by simp) (by simp [most7]) rfl fun e=>⟨(hf e).1,(hf e).2.1,fun q=>absurd q (by simp),(hf e).2.2.2⟩⟩
   · exact (fin7_r base loc n wr rd top _ _ w hb hl hn hz hC hL).mono fun _ _ ⟨b,he,hx,hf⟩=>⟨b,he,hx,hF false false false 255 b (by simp) (by simp) (by simp [most7]) rfl fun e=>⟨(hf e).1,(hf e).2.1,fun q=>absurd q (by simp),(hf e).2.2.2⟩⟩
 · obtain⟨kind,base,loc,n,wr,rd,top⟩:=r
   simp only at h
   unfold encR
   have hX:=Ext.refl w
   have b1:=Blk.new w (.cells #[.int .i64 kind,.int .i64 base,.int .i64 loc,.int .i64 n,.int .i64 wr,.int .i64 rd,.int .i64 top] 59)
   replace hX:=hX.alloc (.cells #[.int .i64 kind,.int .i64 base,.int .i64 loc,.int .i64 n,.int .i64 wr,.int .i64 rd,.int .i64 top] 59)
   have c_b1:=b1.cells
   go_enter Tryz.func136,Tryz.ntmps136
   by_cases a1:kind<1
   · have d1:decide (kind<1)=true:=by simpa using a1
     go_wp2_with fail
     go_ret
     exact⟨false,rfl,hX,fun h=>nomatch h⟩
   have c1:decide (kind<1)=false:=by simpa using a1
   by_cases a2:7<kind
   · have d1:decide (7<kind)=true:=by simpa using a2
     go_wp2_with fail
     go_ret
     exact⟨false,rfl,hX,fun h=>nomatch h⟩
   have c2:decide (7<kind)=false:=by simpa using a2
   by_cases a3:base<0
   · have d1:decide (base<0)=true:=by simpa using a3
     go_wp2_with fail
     go_ret
     exact⟨false,rfl,hX,fun h=>nomatch h⟩
   have c3:decide (base<0)=false:=by simpa using a3
   by_cases a4:loc<0
   · have d1:decide (loc<0)=true:=by simpa using a4
     go_wp2_with fail
     go_ret
     exact⟨false,rfl,hX,fun h=>nomatch h⟩
   have c4:decide (loc<0)=false:=by simpa using a4
   by_cases a5:n<1
   · have d1:decide (n<1)=true:=by simpa using a5
     go_wp2_with fail
     go_ret
     exact⟨false,rfl,hX,fun h=>nomatch h⟩
   have c5:decide (n<1)=false:=by simpa using a5
   by_cases a6:8<n
   · have d1:decide (8<n)=true:=by simpa using a6
     go_wp2_with fail
     go_ret
     exact⟨false,rfl,hX,fun h=>nomatch h⟩
   have c6:decide (8<n)=false:=by simpa using a6
   by_cases a7:32768<base
   · have d1:decide (32768<base)=true:=by simpa using a7
     go_wp2_with fail
     go_ret
     exact⟨false,rfl,hX,fun h=>nomatch h⟩
   have c7:decide (32768<base)=false:=by simpa using a7
   by_cases a8:32768<loc
   · have d1:decide (32768<loc)=true:=by simpa using a8
     go_wp2_with fail
     go_ret
     exact⟨false,rfl,hX,fun h=>nomatch h⟩
   exact absurd ⟨⟨by omega,by omega⟩,⟨by omega,by omega⟩,⟨by omega,by omega⟩,⟨by omega,by omega⟩⟩ h
set_option maxRecDepth 100000 in
theorem alloc_obj (w:World)(a:Act)(op:Oper)(h:op.op=.alloc 61):∃ c:Array Value,c.size=23/\(execOp a.eval op).run Tryz.prog w=.ok (.value (.pointer (some ⟨w.heap.size,0,none⟩))) (w.alloc (.cells c 61)):=by
 refine⟨#[.int .i64 0,.int .i64 0,.int .i64 0,.int .i64 0,.int .i64 0,.int .i64 0,.int .i64 0,.int .i64 0,.int .i64 0,.int .i64 0,.int .i64 0,.int .i64 0,.int .i64 0,.int .i64 0,.int .i64 0,.int .i64 0,.int .i64 0,.int .i64 0,.int .i64 0,.int .i64 0,.int .i64 0,.int .i64 0,.int .i64 0],rfl,?_⟩
 unfold execOp
 rw [h]
 go_simp
theorem new_obj {ops:Array Oper}{rest:List Oper}{op0 op:Oper}{a:Act}{w:World}{Q:Exit->Act->World->Prop}(hg0:op0.guard=none)(ho0:op0.op=.alloc 61)(hgd:op.guard=none)(x y:Operand)(ho:op.op=.store 61 x y)
  (cs:Array Value)(hx:(a.put op0.dst (.pointer (some ⟨w.heap.size,0,none⟩))).eval x=.pointer (some ⟨w.heap.size,0,none⟩))(hy:(a.put op0.dst (.pointer (some ⟨w.heap.size,0,none⟩))).eval y=.agg cs)(hn:cs.size=23)(h1:cs.all (·.oneCell')=true)
  (hK:wpList Tryz.prog ops Q rest ((a.put op0.dst (.pointer (some ⟨w.heap.size,0,none⟩))).put op.dst undef) (w.alloc (.cells cs 61))):wpList Tryz.prog ops Q (op0 :: op :: rest) a w:=by
 obtain⟨c,hc,hal⟩:=alloc_obj w a op0 ho0
 refine wpList_plain hg0 fun _ hK'=>?_
 unfold Oper.wp
 rw [hal]
 refine hK' _ _ ?_
 refine wpList_plain hgd fun _ hK'=>?_
 have hst:=run_storeAt_new (P:=Tryz.prog) w 61 c cs (by rw [hn];kernel_rfl) (by rw [hc,hn]) h1
 unfold Oper.wp execOp
 simp only [ho,hx,hy,Sem.run_bind,hst,Sem.run_pure,Result.andThen_ok]
 exact hK' _ _ hK
theorem wpList_wanted {P:Program}{ops:Array Oper}{rest:List Oper}{o:Oper}{a:Act}{w:World}{Q:Exit->Act->World->Prop}(hw:Region.wanted o (yielded ops a.tmps)=true)
  (h:∀ K:Act->World->Prop,(∀ a w,wpList P ops Q rest a w->K a w)->o.wp P a w K Q):wpList P ops Q (o :: rest) a w :=
 wpList_step fun K hK=>by simp only [hw,if_true];exact h K hK
theorem obj_run {op:Oper}{a:Act}{w:World}{x:Operand}(ho:op.op=.load 61 x)(b:Nat)(hx:a.eval x=.pointer (some ⟨b,0,none⟩)){cs:Array Value}{t:TypeId}{fz:Nat × Nat}(h:w.heap[b]?=some (.cells cs t fz))(hn:cs.size=23):(execOp a.eval op).run Tryz.prog w=.ok (.value (.agg cs)) w:=by
 have hv:(loadVar 61 ⟨b,0,none⟩).run Tryz.prog w=.ok (.agg cs) w:=by
  refine run_loadVar_row _ _ _ _ cs fz _ h Tryz.underlying61 rfl ?_
  rw [hn]
  kernel_rfl
 unfold execOp
 simp only [ho,hx,Instr.loadAt,Instr.sureAddr,Sem.run_bind,Sem.run_pure,Result.andThen_ok,hv]
theorem load_objS {ops:Array Oper}{rest:List Oper}{op:Oper}{a:Act}{w:World}{Q:Exit->Act->World->Prop}(hgd:op.guard=none)(x:Operand)(ho:op.op=.load 61 x)(b:Nat)(hx:a.eval x=.pointer (some ⟨b,0,none⟩)){cs:Array Value}{t:TypeId}{fz:Nat × Nat}(h:w.heap[b]?=some (.cells cs t fz))(hn:cs.size=23)
  (hK:wpList Tryz.prog ops Q rest (a.put op.dst (.agg cs)) w):wpList Tryz.prog ops Q (op :: rest) a w:=by
 refine wpList_plain hgd fun _ hK'=>?_
 unfold Oper.wp
 rw [obj_run ho b hx h hn]
 exact hK' _ _ hK
theorem heap_setCells_at {w:World}{z:Nat}{t:TypeId}{cur:Array Value}(h:w.heap[z]?=some (.cells cur t (0,0)))(vs:List Value)(o:Nat)(hl:o+vs.length<=cur.size) :
  (w.setCells z o vs).heap[z]?=some (.cells (cur.toList.take o++vs++cur.toList.drop (o+vs.length)).toArray t (0,0)):=by
 obtain⟨cur',h1,h2⟩:=heap_setCells_ex z t vs o w cur h
 rw [h1]
 congr 2
 apply Array.ext_getElem?
 intro i
 have hso:∀ j,j<vs.length->(w.cell? ⟨z,o+j,none⟩).isSome=true:=fun j hj=>by
  rw [cell_of_heap h]
  have:o+j<cur.size:=by omega
  simp [this]
 refine Eq.trans ?_ (List.getElem?_toArray ..).symm
 rw [List.append_assoc]
 have hcl:cur.toList.length=cur.size:=Array.length_toList
 have hct:(cur.toList.take o).length=o:=by rw [List.length_take];omega
 by_cases hi:o<=i/\i<o+vs.length
 · have hc:=World.cell?_setCells_in z vs o w hso (i-o) (by omega)
   rw [show o+(i-o)=i by omega,cell_of_heap h1] at hc
   rw [hc,List.getElem?_append_right (by omega),hct,List.getElem?_append_left (by omega)]
   exact (List.getElem?_eq_getElem (by omega)).symm
 · have hc:=World.cell?_setCells_out z vs o w ⟨z,i,none⟩ (fun _ _=>by show i<o∨o+vs.length<=i;omega)
   rw [cell_of_heap h1,cell_of_heap h] at hc
   rw [hc]
   by_cases hi2:i<o
   · rw [List.getElem?_append_left (by omega),List.getElem?_take,if_pos hi2,Array.getElem?_toList]
   · rw [List.getElem?_append_right (by omega),hct,List.getElem?_append_right (by omega),List.getElem?_drop,show o+vs.length+(i-o-vs.length)=i by omega,Array.getElem?_toList]
theorem there_blkS {w:World}{b:Nat}{cs:Array Value}{t:TypeId}(h:w.heap[b]?=some (.cells cs t (0,0)))(o n:Nat)(hl:o+n<=cs.size):w.there b o n:=fun j hj=>by
 have:o+j<cs.size:=by omega
 exact⟨by rw [cell_of_heap h];simp [this],by simp [World.frozen?,h]⟩
theorem store_part {ops:Array Oper}{rest:List Oper}{op:Oper}{a:Act}{w:World}{Q:Exit->Act->World->Prop}(T:TypeId)(b o:Nat)(vs:List Value)(new:Array Value)(hgd:op.guard=none)(x y:Operand)(ho:op.op=.store T x y)
  (hx:a.eval x=.pointer (some ⟨b,o,none⟩))(hy:a.eval y=.agg vs.toArray){cur:Array Value}{t:TypeId}(hb:Blk w b (.cells cur t))(hl:o+vs.length<=cur.size)(hi:(Tryz.prog.info? T).map (·.size)=some vs.length)(h1:vs.all (·.oneCell')=true)
  (hnew:(cur.toList.take o++vs++cur.toList.drop (o+vs.length)).toArray=new)
  (hK:∀ w',Blk w' b (.cells new t)->(∀ w0,Ext w0 w->w0.heap.size<=b->Ext w0 w')->(∀ b',b'≠b->w'.heap[b']?=w.heap[b']?)->wpList Tryz.prog ops Q rest (a.put op.dst undef) w') :
  wpList Tryz.prog ops Q (op :: rest) a w:=by
 refine wpList_store_mid hgd T x y ho b o vs.toArray hx hy (by simpa using there_blkS hb o vs.length hl) (by simpa using hi) (by simpa using h1) ?_
 refine hK _ ?_ (fun w0 h hb0=>h.setCells hb0 vs o) (fun b' hne=>?_)
 · rw [<- hnew]
   exact heap_setCells_at hb vs o hl
 · have:∀ (vs:List Value) (o:Nat) (w:World),(w.setCells b o vs).heap[b']?=w.heap[b']?:=by
    intro vs
    induction vs with
    | nil=>intro o w;rfl
    | cons v r ih=>intro o w;exact (ih (o+1) _).trans (heap_setCell_ne w v hne)
   exact this vs o w
theorem store_ob {ops:Array Oper}{rest:List Oper}{op:Oper}{a:Act}{w:World}{Q:Exit->Act->World->Prop}(b:Nat)(cs:Array Value)(hn:cs.size=23)(h1:cs.all (·.oneCell')=true)(hgd:op.guard=none)(x y:Operand)(ho:op.op=.store 61 x y)
  (hx:a.eval x=.pointer (some ⟨b,0,none⟩))(hy:a.eval y=.agg cs){cur:Array Value}{t:TypeId}(hb:Blk w b (.cells cur t))(hc:cur.size=23)
  (hK:∀ w',Blk w' b (.cells cs t)->(∀ w0,Ext w0 w->w0.heap.size<=b->Ext w0 w')->(∀ b',b'≠b->w'.heap[b']?=w.heap[b']?)->wpList Tryz.prog ops Q rest (a.put op.dst undef) w') :
  wpList Tryz.prog ops Q (op :: rest) a w:=by
 have hl:cs.toList.length=23:=by rw [Array.length_toList];exact hn
 refine store_part 61 b 0 cs.toList cs hgd x y ho hx hy hb (by omega) (by rw [hl];kernel_rfl) ?_ ?_ hK
 · rw [<- Array.all_toList] at h1
   exact h1
 · rw [List.take_zero,List.nil_append,List.drop_eq_nil_of_le (by rw [Array.length_toList];omega),List.append_nil]
theorem load_boxS {w:World}{z:Nat}{cs:Array Value}{t:TypeId}(h:Blk w z (.cells cs t))(hn:cs.size=23):(loadVar 61 ⟨z,0,none⟩).run Tryz.prog w=.ok (.agg cs) w :=
 run_loadVar_row _ _ _ _ _ _ _ h Tryz.underlying61 rfl (by rw [hn];kernel_rfl)
theorem results_obj2 {fn:Func}{p q:Tmp}(h:fn.results=#[.cell p 61,.tmp q])(tmps:Array Value)(w:World){b:Nat}{cs:Array Value}{t:TypeId}{x:Value}(hp:tmps.getD p undef=.pointer (some ⟨b,0,none⟩))(hq:tmps.getD q undef=x)(hb:Blk w b (.cells cs t))(hn:cs.size=23) :
  (results fn tmps).run Tryz.prog w=.ok (.tuple #[.agg cs,x]) w:=by
 have hld:=load_boxS hb hn
 generalize 61=T at h hld
 rw [Array.getD_eq_getD_getElem?] at hp hq
 simp only [results,h]
 simp [Result.andThen,asAddr,hp,hq,hld]
theorem obj2_post {fn:Func}{p q:Tmp}{R:Ending->World->Prop}{W:World}{z:Nat}{cs:Array Value}{t:TypeId}{x:Value}{a:Act}(hfn:fn.results=#[.cell p 61,.tmp q])(hz:Blk W z (.cells cs t))(hn:cs.size=23)(ha:a.tmps.getD p undef=.pointer (some ⟨z,0,none⟩))(hx:a.tmps.getD q undef=x)
  (hd:a.defers=[])(hR:R (.returned (.tuple #[.agg cs,x])) W):bodyPost Tryz.prog fn R .ret a W :=
 bodyPost_ret (v:=.tuple #[.agg cs,x]) (results_obj2 hfn a.tmps W ha hx hz hn) hd hR
theorem blk_apart {w w':World}{b b':Nat}{o:Obj}(h:Blk w b' o)(hne:b'≠b)(hN:∀ k,k≠b->w'.heap[k]?=w.heap[k]?):Blk w' b' o:=(hN b' hne).trans h
end Go.Proofs.YtponihangpiooaaGreat
namespace Kv
structure Thg where
 k:Int
 alg:Int
 mode:Int
 room:Int
 arg:Int
 wt:Int
 rt:Int
 top:Int
structure Ob where
 t:Thg
 la:Int
 ln:Int
 lm:Int
 lb:Int
 ll:Int
 lr:Int
 r:Reg
 ba:Int
 lo:Int
end Kv
namespace Go.Proofs.YtponihangpiooaaGreat
open Go.RowKit Kv
def thgA (t:Thg):Array Value:=#[.int .i64 t.k,.int .i64 t.alg,.int .i64 t.mode,.int .i64 t.room,.int .i64 t.arg,.int .i64 t.wt,.int .i64 t.rt,.int .i64 t.top]
def obA (o:Ob):Array Value:=#[.int .i64 o.t.k,.int .i64 o.t.alg,.int .i64 o.t.mode,.int .i64 o.t.room,.int .i64 o.t.arg,.int .i64 o.t.wt,.int .i64 o.t.rt,.int .i64 o.t.top,.int .i64 o.la,.int .i64 o.ln,.int .i64 o.lm,.int .i64 o.lb,.int .i64 o.ll,.int .i64 o.lr,
 .int .i64 o.r.kind,.int .i64 o.r.base,.int .i64 o.r.loc,.int .i64 o.r.n,.int .i64 o.r.wr,.int .i64 o.r.rd,.int .i64 o.r.top,.int .i64 o.ba,.int .i64 o.lo]
def reg0:Reg:=⟨0,0,0,0,0,0,0⟩
inductive ObOk (N:Nat) (b l:Int) (t:Thg):Ob->Int->Int->Prop
 | lock (rs:List Reg) (hk:1<=t.k/\t.k<=6) (h:LkOk t.alg N t.mode b l t.room rs) (h3:t.k=3->1<=t.arg/\t.arg<=8) (hc:b+(lkC t.alg N rs+ownC t.k)<=32768) (hl:l+(lkL t.alg rs+ownL t.k)<=32768) :
    ObOk N b l t ⟨t,t.alg,N,t.mode,b,l,t.room,reg0,b+lkC t.alg N rs,l+lkL t.alg rs⟩ (lkC t.alg N rs+ownC t.k) (lkL t.alg rs+ownL t.k)
 | reg (hk:t.k=7) (h:Fine17 ⟨t.arg,b,l,N,t.wt,t.rt,t.top⟩) (h1:t.arg=1->1<=t.mode/\t.mode<=3):ObOk N b l t ⟨t,0,0,0,0,0,0,⟨t.arg,b,l,N,t.wt,t.rt,t.top⟩,b,l⟩ (cells7 ⟨t.arg,b,l,N,t.wt,t.rt,t.top⟩) (locals7 ⟨t.arg,b,l,N,t.wt,t.rt,t.top⟩)
 | name (rs:List Reg) (hk:t.k=8) (h:renLay N t.mode b l=some rs) (hc:b+sumC rs<=32768) (hl:l+(sumL rs+1)<=32768):ObOk N b l t ⟨t,0,N,t.mode,b,l,0,reg0,b,l+sumL rs⟩ (sumC rs) (sumL rs+1)
theorem lk_pos {alg:Int}{N:Nat}{mode base loc room:Int}{rs:List Reg}(h:LkOk alg N mode base loc room rs):0<=lkC alg N rs/\0<=lkL alg rs:=by
 by_cases a1:alg=1
 · subst a1
   have e1:lkC 1 N rs=2*(N:Int):=rfl
   have e2:lkL 1 rs=1:=rfl
   omega
 by_cases a2:alg=2
 · subst a2
   have e1:lkC 2 N rs=(N:Int):=rfl
   have e2:lkL 2 rs=0:=rfl
   omega
 have hl:=h.hlay (by have:=h.halg;omega)
 have hok:∀ r∈rs,r.ok:=fun r hr=>(laid_all hl r hr).1
 have hbd:=sum_bd hok rs.length (Nat.le_refl _)
 rw [List.take_length] at hbd
 have hC:lkC alg N rs=sumC rs:=by unfold lkC;rw [if_neg a1,if_neg a2]
 have hL:lkL alg rs=if alg=3∨alg=8 then sumL rs+1 else sumL rs:=by unfold lkL;rw [if_neg a1,if_neg a2]
 rw [hC,hL]
 split <;> omega
def OnePost (w:World) (N:Nat) (c l:Int) (t:Thg) (e:Ending) (w':World):Prop:=Ext w w'/\∃ (o:Array Value) (b:Bool),e=.returned (.tuple #[.agg o,.bool b])/\o.size=23/\o.all (·.oneCell')=true /\
 ((b=false/\(t.k<=6->¬ ∃ ob cs ls,ObOk N c l t ob cs ls))∨(b=true/\∃ ob cs ls,o=obA ob/\ObOk N c l t ob cs ls))
theorem onePost_no {w w':World}{N:Nat}{c l:Int}{t:Thg}(hx:Ext w w')(o:Array Value)(hn:o.size=23)(h1:o.all (·.oneCell')=true)(h:t.k<=6->¬ ∃ ob cs ls,ObOk N c l t ob cs ls):OnePost w N c l t (.returned (.tuple #[.agg o,.bool false])) w':=⟨hx,o,false,rfl,hn,h1,.inl ⟨rfl,h⟩⟩
theorem onePost_yes {w w':World}{N:Nat}{c l:Int}{t:Thg}(hx:Ext w w')(ob:Ob)(cs ls:Int)(h:ObOk N c l t ob cs ls):OnePost w N c l t (.returned (.tuple #[.agg (obA ob),.bool true])) w':=⟨hx,_,true,rfl,rfl,by kernel_rfl,.inr ⟨rfl,_,_,_,rfl,h⟩⟩
set_option maxRecDepth 100000 in
set_option maxHeartbeats 2000000 in
theorem one40_lock (k alg mode room arg wt rt top:Int)(N:Nat)(c l:Int)(w:World)(hk:1<=k/\k<=6):Calls Tryz.prog 81 #[.agg #[.int .i64 k,.int .i64 alg,.int .i64 mode,.int .i64 room,.int .i64 arg,.int .i64 wt,.int .i64 rt,.int .i64 top],.int .i64 N,.int .i64 c,.int .i64 l] w (OnePost w N c l ⟨k,alg,mode,room,arg,wt,rt,top⟩):=by
 obtain⟨bf,hbf⟩:∃ bf:Bool,bf=true↔∃ (N':Nat) (rs:List Reg),(N:Int)=N'/\LkOk alg N' mode c l room rs:=by
  by_cases h:∃ (N':Nat) (rs:List Reg),(N:Int)=N'/\LkOk alg N' mode c l room rs
  · exact⟨true,fun _=>h,fun _=>rfl⟩
  · exact⟨false,fun h=>absurd h (by decide),fun q=>absurd q h⟩
 have hF:∀ w,Calls Tryz.prog 134 #[.agg #[.int .i64 alg,.int .i64 N,.int .i64 mode,.int .i64 c,.int .i64 l,.int .i64 room]] w fun e w'=>e=.returned (.bool bf)/\Ext w w':=fun w=>(lkfine_x alg N mode c l room w).mono fun e w' ⟨⟨b,he,hb⟩,hx⟩=>⟨by
  obtain rfl:b=bf:=Bool.eq_iff_iff.2 (hb.trans hbf.symm)
  exact he,hx⟩
 have hcut:k=1∨k=2∨k=3∨k=4∨k=5∨k=6:=by omega
 have hgood:bf=true->(k=3->1<=arg/\arg<=8)->∃ C L:Int,(0<=c/\c+C<=32768/\0<=C/\0<=l/\l+L<=32768/\0<=L)/\(∀ w,Calls Tryz.prog 135 #[.agg #[.int .i64 alg,.int .i64 N,.int .i64 mode,.int .i64 c,.int .i64 l,.int .i64 room]] w fun e w'=>e=.returned (.tuple #[.int .i64 C,.int .i64 L])/\Ext w w') /\
   ((c+(C+ownC k)<=32768/\l+(L+ownL k)<=32768)->∃ cs ls,ObOk N c l ⟨k,alg,mode,room,arg,wt,rt,top⟩ ⟨⟨k,alg,mode,room,arg,wt,rt,top⟩,alg,N,mode,c,l,room,reg0,c+C,l+L⟩ cs ls) /\
   (¬ (c+(C+ownC k)<=32768/\l+(L+ownL k)<=32768)->¬ ∃ ob cs ls,ObOk N c l ⟨k,alg,mode,room,arg,wt,rt,top⟩ ob cs ls):=fun hb h3=>by
  obtain⟨N',rs,hNN,hL⟩:=hbf.1 hb
  obtain rfl:N=N':=by omega
  have hnum:=hL.nums
  have hpos:=lk_pos hL
  have hcl1:=hL.hcells
  have hcl2:=hL.hlocals
  refine⟨lkC alg N rs,lkL alg rs,⟨by omega,by omega,by omega,by omega,by omega,by omega⟩,fun w=>lksize_r alg N mode c l room rs w hL.halg hL.hn.1 hL.hn.2 hL.hlay,fun q=>⟨_,_,.lock rs hk hL h3 q.1 q.2⟩,fun q ⟨ob,cs,ls,ho⟩=>?_⟩
  cases ho with
  | lock rs' _ h' _ q1 q2 =>
    have e12:lkC alg N rs'=lkC alg N rs/\lkL alg rs'=lkL alg rs:=by
     by_cases ha:2<alg
     · have e1:=h'.hlay (by show 3<=alg;omega)
       rw [hL.hlay (by omega)] at e1
       obtain rfl:rs=rs':=by simpa using e1
       exact⟨rfl,rfl⟩
     · exact lkC_two ha hL.halg.1 N rs' rs
    simp only at q1 q2
    rw [e12.1] at q1
    rw [e12.2] at q2
    exact q ⟨q1,q2⟩
  | reg hk7 _ _=>simp only at hk7;omega
  | name _ hk8 _ _ _=>simp only at hk8;omega
 have hnoF:bf=false->¬ ∃ ob cs ls,ObOk N c l ⟨k,alg,mode,room,arg,wt,rt,top⟩ ob cs ls:=fun hb ⟨ob,cs,ls,ho⟩=>by
  cases ho with
  | lock rs _ hL _ _ _ =>
    have:=hbf.2 ⟨N,rs,rfl,hL⟩
    rw [hb] at this
    exact absurd this (by decide)
  | reg hk7 _ _=>simp only at hk7;omega
  | name _ hk8 _ _ _=>simp only at hk8;omega
 have hno3:¬ (k=3->1<=arg/\arg<=8)->¬ ∃ ob cs ls,ObOk N c l ⟨k,alg,mode,room,arg,wt,rt,top⟩ ob cs ls:=fun h3 ⟨ob,cs,ls,ho⟩=>by
  cases ho with
  | lock rs _ _ q3 _ _=>exact h3 q3
  | reg hk7 _ _=>simp only at hk7;omega
  | name _ hk8 _ _ _=>simp only at hk8;omega
 have hown:(0<=ownC k/\ownC k<=4)/\0<=ownL k/\ownL k<=1:=by
  rcases hcut with rfl | rfl | rfl | rfl | rfl | rfl <;> decide
 have hZZ:=fun (C L:Int) (h1:0<=C/\C<=10000000) (h2:0<=L/\L<=10000000) hS w=>size40_lock k alg mode room arg wt rt top alg N mode c l room 0 0 0 0 0 0 0 (c+C) (l+L) C L w hk h1 h2 hS
 generalize hoc:ownC k=oc at *
 generalize hol:ownL k=ol at *
 clear hbf hoc hol
 have hH:=Lib.hid (And.intro hgood (And.intro hnoF (And.intro hno3 (And.intro hown (And.intro hZZ (And.intro hcut hk))))))
 clear hgood hnoF hno3 hown hZZ hcut hk
 have hbld:∀ w,(Instr.build 61 #[(0,.agg #[.int .i64 k,.int .i64 alg,.int .i64 mode,.int .i64 room,.int .i64 arg,.int .i64 wt,.int .i64 rt,.int .i64 top]),(3,.int .i64 c),(4,.int .i64 l)]).run Tryz.prog w=.ok (.agg #[.int .i64 k,.int .i64 alg,.int .i64 mode,.int .i64 room,.int .i64 arg,.int .i64 wt,.int .i64 rt,.int .i64 top,.int .i64 0,.int .i64 0,.int .i64 0,.int .i64 0,.int .i64 0,.int .i64 0,.int .i64 0,.int .i64 0,.int .i64 0,.int .i64 0,.int .i64 0,.int .i64 0,.int .i64 0,.int .i64 c,.int .i64 l]) w:=fun w=>run_build w 61 _ _ (by kernel_rfl)
 have b1:=(Blk.new w (.cells #[.int .i64 k,.int .i64 alg,.int .i64 mode,.int .i64 room,.int .i64 arg,.int .i64 wt,.int .i64 rt,.int .i64 top] 57)).alloc (.cells #[.int .i64 0,.int .i64 0,.int .i64 0,.int .i64 0,.int .i64 0,.int .i64 0,.int .i64 0,.int .i64 0,.int .i64 0,.int .i64 0,.int .i64 0,.int .i64 0,.int .i64 0,.int .i64 0,.int .i64 0,.int .i64 0,.int .i64 0,.int .i64 0,.int .i64 0,.int .i64 0,.int .i64 0,.int .i64 0,.int .i64 0] 61)
 have b2:=Blk.new (w.alloc (.cells #[.int .i64 k,.int .i64 alg,.int .i64 mode,.int .i64 room,.int .i64 arg,.int .i64 wt,.int .i64 rt,.int .i64 top] 57)) (.cells #[.int .i64 0,.int .i64 0,.int .i64 0,.int .i64 0,.int .i64 0,.int .i64 0,.int .i64 0,.int .i64 0,.int .i64 0,.int .i64 0,.int .i64 0,.int .i64 0,.int .i64 0,.int .i64 0,.int .i64 0,.int .i64 0,.int .i64 0,.int .i64 0,.int .i64 0,.int .i64 0,.int .i64 0,.int .i64 0,.int .i64 0] 61)
 have hX:=((Ext.refl w).alloc (.cells #[.int .i64 k,.int .i64 alg,.int .i64 mode,.int .i64 room,.int .i64 arg,.int .i64 wt,.int .i64 rt,.int .i64 top] 57)).alloc (.cells #[.int .i64 0,.int .i64 0,.int .i64 0,.int .i64 0,.int .i64 0,.int .i64 0,.int .i64 0,.int .i64 0,.int .i64 0,.int .i64 0,.int .i64 0,.int .i64 0,.int .i64 0,.int .i64 0,.int .i64 0,.int .i64 0,.int .i64 0,.int .i64 0,.int .i64 0,.int .i64 0,.int .i64 0,.int .i64 0,.int .i64 0] 61)
 simp only [World.size_alloc] at b2
 have c_b1:=b1.cells
 go_enter Tryz.func81,Tryz.ntmps81
 go_upto_region 1 with fail
 have hy2:w.heap.size+1<(World.alloc (World.alloc w (.cells #[.int .i64 k,.int .i64 alg,.int .i64 mode,.int .i64 room,.int .i64 arg,.int .i64 wt,.int .i64 rt,.int .i64 top] 57)) (.cells #[.int .i64 0,.int .i64 0,.int .i64 0,.int .i64 0,.int .i64 0,.int .i64 0,.int .i64 0,.int .i64 0,.int .i64 0,.int .i64 0,.int .i64 0,.int .i64 0,.int .i64 0,.int .i64 0,.int .i64 0,.int .i64 0,.int .i64 0,.int .i64 0,.int .i64 0,.int .i64 0,.int .i64 0,.int .i64 0,.int .i64 0] 61)).heap.size:=b2.lt
 generalize World.alloc (World.alloc w _) _=W at *
 go_upto_region 2 with (refine new_obj rfl rfl rfl _ _ rfl _ rfl rfl rfl (by kernel_rfl) ?_)
 have b3:=Blk.new W (.cells #[.int .i64 k,.int .i64 alg,.int .i64 mode,.int .i64 room,.int .i64 arg,.int .i64 wt,.int .i64 rt,.int .i64 top,.int .i64 0,.int .i64 0,.int .i64 0,.int .i64 0,.int .i64 0,.int .i64 0,.int .i64 0,.int .i64 0,.int .i64 0,.int .i64 0,.int .i64 0,.int .i64 0,.int .i64 0,.int .i64 c,.int .i64 l] 61)
 replace b1:=b1.alloc (.cells #[.int .i64 k,.int .i64 alg,.int .i64 mode,.int .i64 room,.int .i64 arg,.int .i64 wt,.int .i64 rt,.int .i64 top,.int .i64 0,.int .i64 0,.int .i64 0,.int .i64 0,.int .i64 0,.int .i64 0,.int .i64 0,.int .i64 0,.int .i64 0,.int .i64 0,.int .i64 0,.int .i64 0,.int .i64 0,.int .i64 c,.int .i64 l] 61)
 replace b2:=b2.alloc (.cells #[.int .i64 k,.int .i64 alg,.int .i64 mode,.int .i64 room,.int .i64 arg,.int .i64 wt,.int .i64 rt,.int .i64 top,.int .i64 0,.int .i64 0,.int .i64 0,.int .i64 0,.int .i64 0,.int .i64 0,.int .i64 0,.int .i64 0,.int .i64 0,.int .i64 0,.int .i64 0,.int .i64 0,.int .i64 0,.int .i64 c,.int .i64 l] 61)
 replace hX:=hX.alloc (.cells #[.int .i64 k,.int .i64 alg,.int .i64 mode,.int .i64 room,.int .i64 arg,.int .i64 wt,.int .i64 rt,.int .i64 top,.int .i64 0,.int .i64 0,.int .i64 0,.int .i64 0,.int .i64 0,.int .i64 0,.int .i64 0,.int .i64 0,.int .i64 0,.int .i64 0,.int .i64 0,.int .i64 0,.int .i64 0,.int .i64 c,.int .i64 l] 61)
 clear c_b1 hbld
 generalize hzz:W.heap.size=z at *
 generalize World.alloc W _=W2 at *
 have c_b1:=b1.cells
 have hg:=Lib.hid (show w.heap.size≠z/\w.heap.size+1≠z/\w.heap.size<=z by omega)
 clear hy2 hzz
 go_upto_block 0 with fail
 go_step
 go_step
 go_cut [25] (fun s wx=>s=.bool true/\wx=W2)
 case first =>
  have hcut:=hH.out.2.2.2.2.2.1
  clear hH hF
  rcases hcut with rfl | rfl | rfl | rfl | rfl | rfl
  all_goals
   go_wp2_with fail
   go_meet
   exact⟨rfl,rfl⟩
 case rest =>
  obtain⟨rfl,rfl⟩:=hcut
  go_upto_region 10 with fail
  go_upto_region 11 with (refine store_part 23 z 8 [.int .i64 alg,.int .i64 N,.int .i64 mode,.int .i64 c,.int .i64 l,.int .i64 room] #[.int .i64 k,.int .i64 alg,.int .i64 mode,.int .i64 room,.int .i64 arg,.int .i64 wt,.int .i64 rt,.int .i64 top,.int .i64 alg,.int .i64 N,.int .i64 mode,.int .i64 c,.int .i64 l,.int .i64 room,.int .i64 0,.int .i64 0,.int .i64 0,.int .i64 0,.int .i64 0,.int .i64 0,.int .i64 0,.int .i64 c,.int .i64 l] rfl _ _ rfl rfl rfl b3 (by simp) (by kernel_rfl) rfl rfl ?_;intro W3 b3' hE3 hN3)
  replace hX:=hE3 _ hX hg.out.2.2
  replace b1:=blk_apart b1 hg.out.1 hN3
  replace b2:=blk_apart b2 hg.out.2.1 hN3
  replace b3:=b3'
  clear c_b1 hE3 hN3 b3'
  have c_b3:=b3.cells
  have c_b1:=b1.cells
  go_wp2_with fail
  refine (hF _).mono ?_
  rintro e w4 ⟨rfl,hx⟩
  replace hX:=hX.trans hx
  replace b1:=b1.ext hx
  replace b2:=b2.ext hx
  replace b3:=b3.ext hx
  clear c_b1 c_b3 hx
  have c_b1:=b1.cells
  have c_b3:=b3.cells
  cases bf with
  | false =>
    have hno:=Lib.hid (hH.out.2.1 rfl)
    clear hH hF
    obtain⟨OB,hOB⟩:∃ OB:Array Value,OB=#[.int .i64 k,.int .i64 alg,.int .i64 mode,.int .i64 room,.int .i64 arg,.int .i64 wt,.int .i64 rt,.int .i64 top,.int .i64 alg,.int .i64 N,.int .i64 mode,.int .i64 c,.int .i64 l,.int .i64 room,.int .i64 0,.int .i64 0,.int .i64 0,.int .i64 0,.int .i64 0,.int .i64 0,.int .i64 0,.int .i64 c,.int .i64 l]:=⟨_,rfl⟩
    have h23:OB.size=23:=by rw [hOB];rfl
    have h1c:OB.all (·.oneCell')=true:=by rw [hOB];kernel_rfl
    rw [<- hOB] at b3
    replace hOB:=Lib.hid hOB
    go_upto_region 12 with fail
    refine wp_region_lit ?_
    refine load_objS rfl _ rfl z rfl b3 h23 ?_
    try simp only [put_pack]
    go_wp2_with (refine store_ob (w.heap.size+1) OB h23 h1c rfl _ _ rfl rfl rfl b2 rfl ?_;intro W9 b9 hE9 hN9)
    have hX9:=hE9 _ hX (Nat.le_succ _)
    have hOO:=hOB.out
    exact obj2_post (p:=8) (q:=9) (x:=.bool false) rfl b9 h23 rfl rfl rfl (by exact onePost_no hX9 OB h23 h1c fun _=>hno.out)
  | true =>
    by_cases h3:k=3->1<=arg/\arg<=8
    rotate_left
    · have hno:=Lib.hid (hH.out.2.2.1 h3)
      have d0:(k==3)=true:=by rw [beq_iff_eq];omega
      by_cases ha:arg<1
      · have d1:decide (arg<1)=true:=by rw [decide_eq_true_eq];exact ha
        clear hH hF h3 ha
        obtain⟨OB,hOB⟩:∃ OB:Array Value,OB=#[.int .i64 k,.int .i64 alg,.int .i64 mode,.int .i64 room,.int .i64 arg,.int .i64 wt,.int .i64 rt,.int .i64 top,.int .i64 alg,.int .i64 N,.int .i64 mode,.int .i64 c,.int .i64 l,.int .i64 room,.int .i64 0,.int .i64 0,.int .i64 0,.int .i64 0,.int .i64 0,.int .i64 0,.int .i64 0,.int .i64 c,.int .i64 l]:=⟨_,rfl⟩
        have h23:OB.size=23:=by rw [hOB];rfl
        have h1c:OB.all (·.oneCell')=true:=by rw [hOB];kernel_rfl
        rw [<- hOB] at b3
        replace hOB:=Lib.hid hOB
        go_upto_region 12 with fail
        refine wp_region_lit ?_
        refine load_objS rfl _ rfl z rfl b3 h23 ?_
        try simp only [put_pack]
        go_wp2_with (refine store_ob (w.heap.size+1) OB h23 h1c rfl _ _ rfl rfl rfl b2 rfl ?_;intro W9 b9 hE9 hN9)
        have hX9:=hE9 _ hX (Nat.le_succ _)
        have hOO:=hOB.out
        exact obj2_post (p:=8) (q:=9) (x:=.bool false) rfl b9 h23 rfl rfl rfl (by exact onePost_no hX9 OB h23 h1c fun _=>hno.out)
      · have d1:decide (arg<1)=false:=by rw [decide_eq_false_iff_not];omega
        have d2:decide (8<arg)=true:=by rw [decide_eq_true_eq];omega
        clear hH hF h3 ha
        obtain⟨OB,hOB⟩:∃ OB:Array Value,OB=#[.int .i64 k,.int .i64 alg,.int .i64 mode,.int .i64 room,.int .i64 arg,.int .i64 wt,.int .i64 rt,.int .i64 top,.int .i64 alg,.int .i64 N,.int .i64 mode,.int .i64 c,.int .i64 l,.int .i64 room,.int .i64 0,.int .i64 0,.int .i64 0,.int .i64 0,.int .i64 0,.int .i64 0,.int .i64 0,.int .i64 c,.int .i64 l]:=⟨_,rfl⟩
        have h23:OB.size=23:=by rw [hOB];rfl
        have h1c:OB.all (·.oneCell')=true:=by rw [hOB];kernel_rfl
        rw [<- hOB] at b3
        replace hOB:=Lib.hid hOB
        go_upto_region 12 with fail
        refine wp_region_lit ?_
        refine load_objS rfl _ rfl z rfl b3 h23 ?_
        try simp only [put_pack]
        go_wp2_with (refine store_ob (w.heap.size+1) OB h23 h1c rfl _ _ rfl rfl rfl b2 rfl ?_;intro W9 b9 hE9 hN9)
        have hX9:=hE9 _ hX (Nat.le_succ _)
        have hOO:=hOB.out
        exact obj2_post (p:=8) (q:=9) (x:=.bool false) rfl b9 h23 rfl rfl rfl (by exact onePost_no hX9 OB h23 h1c fun _=>hno.out)
    · obtain⟨C,L,hbd,hS,hyes,hno⟩:=hH.out.1 rfl h3
      have hown:=hH.out.2.2.2.1
      have hZ:=hH.out.2.2.2.2.1 C L (by omega) (by omega) hS
      have ws1:=IntWalk.i64_in (c+C) (by omega)
      have ws2:=IntWalk.i64_in (l+L) (by omega)
      have ws3:=IntWalk.i64_in (c+(C+oc)) (by omega)
      have ws4:=IntWalk.i64_in (l+(L+ol)) (by omega)
      have hyn:=Lib.hid (And.intro hyes hno)
      clear hF hbd hyes hno hown
      by_cases k3:k=3
      · have d0:(k==3)=true:=by rw [beq_iff_eq];exact k3
        obtain⟨g1,g2⟩:=h3 k3
        have d1:decide (arg<1)=false:=by rw [decide_eq_false_iff_not];omega
        have d2:decide (8<arg)=false:=by rw [decide_eq_false_iff_not];omega
        clear h3 g1 g2 k3 hH
        go_wp2_with fail
        refine (hS _).mono ?_
        rintro e w4 ⟨rfl,hx⟩
        replace hX:=hX.trans hx
        replace b1:=b1.ext hx
        replace b2:=b2.ext hx
        replace b3:=b3.ext hx
        clear c_b1 c_b3 hx
        have c_b1:=b1.cells
        have c_b3:=b3.cells
        clear hS
        have f21:w4.frozen? ⟨z,21,none⟩=false:=frozen_of_heap b3 21
        go_upto_region 15 with fail
        have b3':Blk (w4.setCell ⟨z,21,none⟩ (.int .i64 (c+C))) z (.cells #[.int .i64 k,.int .i64 alg,.int .i64 mode,.int .i64 room,.int .i64 arg,.int .i64 wt,.int .i64 rt,.int .i64 top,.int .i64 alg,.int .i64 N,.int .i64 mode,.int .i64 c,.int .i64 l,.int .i64 room,.int .i64 0,.int .i64 0,.int .i64 0,.int .i64 0,.int .i64 0,.int .i64 0,.int .i64 0,.int .i64 (c+C),.int .i64 l] 61):=heap_setCell (i:=21) b3 (.int .i64 (c+C))
        replace hX:=hX.setCell (p:=⟨z,21,none⟩) hg.out.2.2 (.int .i64 (c+C))
        replace b1:=Blk.setZ (b:=z) (i:=21) b1 hg.out.1 (.int .i64 (c+C))
        replace b2:=Blk.setZ (b:=z) (i:=21) b2 hg.out.2.1 (.int .i64 (c+C))
        replace b3:=b3'
        clear b3' f21 c_b3 c_b1
        generalize World.setCell w4 _ _=W5 at *
        have c_b3:=b3.cells
        have f22:W5.frozen? ⟨z,22,none⟩=false:=frozen_of_heap b3 22
        go_upto_region 26 with fail
        have b3':Blk (W5.setCell ⟨z,22,none⟩ (.int .i64 (l+L))) z (.cells #[.int .i64 k,.int .i64 alg,.int .i64 mode,.int .i64 room,.int .i64 arg,.int .i64 wt,.int .i64 rt,.int .i64 top,.int .i64 alg,.int .i64 N,.int .i64 mode,.int .i64 c,.int .i64 l,.int .i64 room,.int .i64 0,.int .i64 0,.int .i64 0,.int .i64 0,.int .i64 0,.int .i64 0,.int .i64 0,.int .i64 (c+C),.int .i64 (l+L)] 61):=heap_setCell (i:=22) b3 (.int .i64 (l+L))
        replace hX:=hX.setCell (p:=⟨z,22,none⟩) hg.out.2.2 (.int .i64 (l+L))
        replace b1:=Blk.setZ (b:=z) (i:=22) b1 hg.out.1 (.int .i64 (l+L))
        replace b2:=Blk.setZ (b:=z) (i:=22) b2 hg.out.2.1 (.int .i64 (l+L))
        replace b3:=b3'
        clear b3' f22 c_b3
        generalize World.setCell W5 _ _=W6 at *
        go_upto_region 26 with fail
        refine wp_region_lit ?_
        refine load_objS rfl _ rfl z rfl b3 rfl ?_
        try simp only [put_pack]
        go_wp2_with fail
        have c_b1:=b1.cells
        have c_b3:=b3.cells
        refine (hZ _).mono ?_
        rintro e w4 ⟨rfl,hx⟩
        replace hX:=hX.trans hx
        replace b1:=b1.ext hx
        replace b2:=b2.ext hx
        replace b3:=b3.ext hx
        clear c_b1 c_b3 hx
        have c_b1:=b1.cells
        have c_b3:=b3.cells
        clear hZ
        by_cases r1:c+(C+oc)<=32768
        · have e1:decide (c+(C+oc)<=32768)=true:=by rw [decide_eq_true_eq];exact r1
          by_cases r2:l+(L+ol)<=32768
          · have e2:decide (l+(L+ol)<=32768)=true:=by rw [decide_eq_true_eq];exact r2
            obtain⟨cs,ls,hok⟩:=hyn.out.1 ⟨r1,r2⟩
            have hokh:=Lib.hid hok
            clear hyn r1 r2 hok
            obtain⟨OB,hOB⟩:∃ OB:Array Value,OB=#[.int .i64 k,.int .i64 alg,.int .i64 mode,.int .i64 room,.int .i64 arg,.int .i64 wt,.int .i64 rt,.int .i64 top,.int .i64 alg,.int .i64 N,.int .i64 mode,.int .i64 c,.int .i64 l,.int .i64 room,.int .i64 0,.int .i64 0,.int .i64 0,.int .i64 0,.int .i64 0,.int .i64 0,.int .i64 0,.int .i64 (c+C),.int .i64 (l+L)]:=⟨_,rfl⟩
            have h23:OB.size=23:=by rw [hOB];rfl
            have h1c:OB.all (·.oneCell')=true:=by rw [hOB];kernel_rfl
            rw [<- hOB] at b3
            replace hOB:=Lib.hid hOB
            go_upto_region 27 with fail
            refine wp_region_lit ?_
            refine load_objS rfl _ rfl z rfl b3 h23 ?_
            try simp only [put_pack]
            go_wp2_with (refine store_ob (w.heap.size+1) OB h23 h1c rfl _ _ rfl rfl rfl b2 rfl ?_;intro W9 b9 hE9 hN9)
            have hX9:=hE9 _ hX (Nat.le_succ _)
            have hOO:=hOB.out
            exact obj2_post (p:=8) (q:=9) (x:=.bool true) rfl b9 h23 rfl rfl rfl (by rw [hOO];exact onePost_yes hX9 ⟨⟨k,alg,mode,room,arg,wt,rt,top⟩,alg,N,mode,c,l,room,reg0,c+C,l+L⟩ cs ls hokh.out)
          · have e2:decide (l+(L+ol)<=32768)=false:=by rw [decide_eq_false_iff_not];exact r2
            have hno:=Lib.hid (hyn.out.2 fun q=>r2 q.2)
            clear hyn r1 r2
            obtain⟨OB,hOB⟩:∃ OB:Array Value,OB=#[.int .i64 k,.int .i64 alg,.int .i64 mode,.int .i64 room,.int .i64 arg,.int .i64 wt,.int .i64 rt,.int .i64 top,.int .i64 alg,.int .i64 N,.int .i64 mode,.int .i64 c,.int .i64 l,.int .i64 room,.int .i64 0,.int .i64 0,.int .i64 0,.int .i64 0,.int .i64 0,.int .i64 0,.int .i64 0,.int .i64 (c+C),.int .i64 (l+L)]:=⟨_,rfl⟩
            have h23:OB.size=23:=by rw [hOB];rfl
            have h1c:OB.all (·.oneCell')=true:=by rw [hOB];kernel_rfl
            rw [<- hOB] at b3
            replace hOB:=Lib.hid hOB
            go_upto_region 27 with fail
            refine wp_region_lit ?_
            refine load_objS rfl _ rfl z rfl b3 h23 ?_
            try simp only [put_pack]
            go_wp2_with (refine store_ob (w.heap.size+1) OB h23 h1c rfl _ _ rfl rfl rfl b2 rfl ?_;intro W9 b9 hE9 hN9)
            have hX9:=hE9 _ hX (Nat.le_succ _)
            have hOO:=hOB.out
            exact obj2_post (p:=8) (q:=9) (x:=.bool false) rfl b9 h23 rfl rfl rfl (by exact onePost_no hX9 OB h23 h1c fun _=>hno.out)
        · have e1:decide (c+(C+oc)<=32768)=false:=by rw [decide_eq_false_iff_not];exact r1
          have hno:=Lib.hid (hyn.out.2 fun q=>r1 q.1)
          clear hyn r1
          obtain⟨OB,hOB⟩:∃ OB:Array Value,OB=#[.int .i64 k,.int .i64 alg,.int .i64 mode,.int .i64 room,.int .i64 arg,.int .i64 wt,.int .i64 rt,.int .i64 top,.int .i64 alg,.int .i64 N,.int .i64 mode,.int .i64 c,.int .i64 l,.int .i64 room,.int .i64 0,.int .i64 0,.int .i64 0,.int .i64 0,.int .i64 0,.int .i64 0,.int .i64 0,.int .i64 (c+C),.int .i64 (l+L)]:=⟨_,rfl⟩
          have h23:OB.size=23:=by rw [hOB];rfl
          have h1c:OB.all (·.oneCell')=true:=by rw [hOB];kernel_rfl
          rw [<- hOB] at b3
          replace hOB:=Lib.hid hOB
          go_upto_region 27 with fail
          refine wp_region_lit ?_
          refine load_objS rfl _ rfl z rfl b3 h23 ?_
          try simp only [put_pack]
          go_wp2_with (refine store_ob (w.heap.size+1) OB h23 h1c rfl _ _ rfl rfl rfl b2 rfl ?_;intro W9 b9 hE9 hN9)
          have hX9:=hE9 _ hX (Nat.le_succ _)
          have hOO:=hOB.out
          exact obj2_post (p:=8) (q:=9) (x:=.bool false) rfl b9 h23 rfl rfl rfl (by exact onePost_no hX9 OB h23 h1c fun _=>hno.out)
      · have d0:(k==3)=false:=by rw [beq_eq_false_iff_ne];exact k3
        clear h3 k3 hH
        go_wp2_with fail
        refine (hS _).mono ?_
        rintro e w4 ⟨rfl,hx⟩
        replace hX:=hX.trans hx
        replace b1:=b1.ext hx
        replace b2:=b2.ext hx
        replace b3:=b3.ext hx
        clear c_b1 c_b3 hx
        have c_b1:=b1.cells
        have c_b3:=b3.cells
        clear hS
        have f21:w4.frozen? ⟨z,21,none⟩=false:=frozen_of_heap b3 21
        go_upto_region 15 with fail
        have b3':Blk (w4.setCell ⟨z,21,none⟩ (.int .i64 (c+C))) z (.cells #[.int .i64 k,.int .i64 alg,.int .i64 mode,.int .i64 room,.int .i64 arg,.int .i64 wt,.int .i64 rt,.int .i64 top,.int .i64 alg,.int .i64 N,.int .i64 mode,.int .i64 c,.int .i64 l,.int .i64 room,.int .i64 0,.int .i64 0,.int .i64 0,.int .i64 0,.int .i64 0,.int .i64 0,.int .i64 0,.int .i64 (c+C),.int .i64 l] 61):=heap_setCell (i:=21) b3 (.int .i64 (c+C))
        replace hX:=hX.setCell (p:=⟨z,21,none⟩) hg.out.2.2 (.int .i64 (c+C))
        replace b1:=Blk.setZ (b:=z) (i:=21) b1 hg.out.1 (.int .i64 (c+C))
        replace b2:=Blk.setZ (b:=z) (i:=21) b2 hg.out.2.1 (.int .i64 (c+C))
        replace b3:=b3'
        clear b3' f21 c_b3 c_b1
        generalize World.setCell w4 _ _=W5 at *
        have c_b3:=b3.cells
        have f22:W5.frozen? ⟨z,22,none⟩=false:=frozen_of_heap b3 22
        go_upto_region 26 with fail
        have b3':Blk (W5.setCell ⟨z,22,none⟩ (.int .i64 (l+L))) z (.cells #[.int .i64 k,.int .i64 alg,.int .i64 mode,.int .i64 room,.int .i64 arg,.int .i64 wt,.int .i64 rt,.int .i64 top,.int .i64 alg,.int .i64 N,.int .i64 mode,.int .i64 c,.int .i64 l,.int .i64 room,.int .i64 0,.int .i64 0,.int .i64 0,.int .i64 0,.int .i64 0,.int .i64 0,.int .i64 0,.int .i64 (c+C),.int .i64 (l+L)] 61):=heap_setCell (i:=22) b3 (.int .i64 (l+L))
        replace hX:=hX.setCell (p:=⟨z,22,none⟩) hg.out.2.2 (.int .i64 (l+L))
        replace b1:=Blk.setZ (b:=z) (i:=22) b1 hg.out.1 (.int .i64 (l+L))
        replace b2:=Blk.setZ (b:=z) (i:=22) b2 hg.out.2.1 (.int .i64 (l+L))
        replace b3:=b3'
        clear b3' f22 c_b3
        generalize World.setCell W5 _ _=W6 at *
        go_upto_region 26 with fail
        refine wp_region_lit ?_
        refine load_objS rfl _ rfl z rfl b3 rfl ?_
        try simp only [put_pack]
        go_wp2_with fail
        have c_b1:=b1.cells
        have c_b3:=b3.cells
        refine (hZ _).mono ?_
        rintro e w4 ⟨rfl,hx⟩
        replace hX:=hX.trans hx
        replace b1:=b1.ext hx
        replace b2:=b2.ext hx
        replace b3:=b3.ext hx
        clear c_b1 c_b3 hx
        have c_b1:=b1.cells
        have c_b3:=b3.cells
        clear hZ
        by_cases r1:c+(C+oc)<=32768
        · have e1:decide (c+(C+oc)<=32768)=true:=by rw [decide_eq_true_eq];exact r1
          by_cases r2:l+(L+ol)<=32768
          · have e2:decide (l+(L+ol)<=32768)=true:=by rw [decide_eq_true_eq];exact r2
            obtain⟨cs,ls,hok⟩:=hyn.out.1 ⟨r1,r2⟩
            have hokh:=Lib.hid hok
            clear hyn r1 r2 hok
            obtain⟨OB,hOB⟩:∃ OB:Array Value,OB=#[.int .i64 k,.int .i64 alg,.int .i64 mode,.int .i64 room,.int .i64 arg,.int .i64 wt,.int .i64 rt,.int .i64 top,.int .i64 alg,.int .i64 N,.int .i64 mode,.int .i64 c,.int .i64 l,.int .i64 room,.int .i64 0,.int .i64 0,.int .i64 0,.int .i64 0,.int .i64 0,.int .i64 0,.int .i64 0,.int .i64 (c+C),.int .i64 (l+L)]:=⟨_,rfl⟩
            have h23:OB.size=23:=by rw [hOB];rfl
            have h1c:OB.all (·.oneCell')=true:=by rw [hOB];kernel_rfl
            rw [<- hOB] at b3
            replace hOB:=Lib.hid hOB
            go_upto_region 27 with fail
            refine wp_region_lit ?_
            refine load_objS rfl _ rfl z rfl b3 h23 ?_
            try simp only [put_pack]
            go_wp2_with (refine store_ob (w.heap.size+1) OB h23 h1c rfl _ _ rfl rfl rfl b2 rfl ?_;intro W9 b9 hE9 hN9)
            have hX9:=hE9 _ hX (Nat.le_succ _)
            have hOO:=hOB.out
            exact obj2_post (p:=8) (q:=9) (x:=.bool true) rfl b9 h23 rfl rfl rfl (by rw [hOO];exact onePost_yes hX9 ⟨⟨k,alg,mode,room,arg,wt,rt,top⟩,alg,N,mode,c,l,room,reg0,c+C,l+L⟩ cs ls hokh.out)
          · have e2:decide (l+(L+ol)<=32768)=false:=by rw [decide_eq_false_iff_not];exact r2
            have hno:=Lib.hid (hyn.out.2 fun q=>r2 q.2)
            clear hyn r1 r2
            obtain⟨OB,hOB⟩:∃ OB:Array Value,OB=#[.int .i64 k,.int .i64 alg,.int .i64 mode,.int .i64 room,.int .i64 arg,.int .i64 wt,.int .i64 rt,.int .i64 top,.int .i64 alg,.int .i64 N,.int .i64 mode,.int .i64 c,.int .i64 l,.int .i64 room,.int .i64 0,.int .i64 0,.int .i64 0,.int .i64 0,.int .i64 0,.int .i64 0,.int .i64 0,.int .i64 (c+C),.int .i64 (l+L)]:=⟨_,rfl⟩
            have h23:OB.size=23:=by rw [hOB];rfl
            have h1c:OB.all (·.oneCell')=true:=by rw [hOB];kernel_rfl
            rw [<- hOB] at b3
            replace hOB:=Lib.hid hOB
            go_upto_region 27 with fail
            refine wp_region_lit ?_
            refine load_objS rfl _ rfl z rfl b3 h23 ?_
            try simp only [put_pack]
            go_wp2_with (refine store_ob (w.heap.size+1) OB h23 h1c rfl _ _ rfl rfl rfl b2 rfl ?_;intro W9 b9 hE9 hN9)
            have hX9:=hE9 _ hX (Nat.le_succ _)
            have hOO:=hOB.out
            exact obj2_post (p:=8) (q:=9) (x:=.bool false) rfl b9 h23 rfl rfl rfl (by exact onePost_no hX9 OB h23 h1c fun _=>hno.out)
        · have e1:decide (c+(C+oc)<=32768)=false:=by rw [decide_eq_false_iff_not];exact r1
          have hno:=Lib.hid (hyn.out.2 fun q=>r1 q.1)
          clear hyn r1
          obtain⟨OB,hOB⟩:∃ OB:Array Value,OB=#[.int .i64 k,.int .i64 alg,.int .i64 mode,.int .i64 room,.int .i64 arg,.int .i64 wt,.int .i64 rt,.int .i64 top,.int .i64 alg,.int .i64 N,.int .i64 mode,.int .i64 c,.int .i64 l,.int .i64 room,.int .i64 0,.int .i64 0,.int .i64 0,.int .i64 0,.int .i64 0,.int .i64 0,.int .i64 0,.int .i64 (c+C),.int .i64 (l+L)]:=⟨_,rfl⟩
          have h23:OB.size=23:=by rw [hOB];rfl
          have h1c:OB.all (·.oneCell')=true:=by rw [hOB];kernel_rfl
          rw [<- hOB] at b3
          replace hOB:=Lib.hid hOB
          go_upto_region 27 with fail
          refine wp_region_lit ?_
          refine load_objS rfl _ rfl z rfl b3 h23 ?_
          try simp only [put_pack]
          go_wp2_with (refine store_ob (w.heap.size+1) OB h23 h1c rfl _ _ rfl rfl rfl b2 rfl ?_;intro W9 b9 hE9 hN9)
          have hX9:=hE9 _ hX (Nat.le_succ _)
          have hOO:=hOB.out
          exact obj2_post (p:=8) (q:=9) (x:=.bool false) rfl b9 h23 rfl rfl rfl (by exact onePost_no hX9 OB h23 h1c fun _=>hno.out)
set_option maxRecDepth 100000 in
set_option maxHeartbeats 2000000 in
theorem one40_reg (alg mode room arg wt rt top:Int)(N:Nat)(c l:Int)(w:World):Calls Tryz.prog 81 #[.agg #[.int .i64 7,.int .i64 alg,.int .i64 mode,.int .i64 room,.int .i64 arg,.int .i64 wt,.int .i64 rt,.int .i64 top],.int .i64 N,.int .i64 c,.int .i64 l] w (OnePost w N c l ⟨7,alg,mode,room,arg,wt,rt,top⟩):=by
 have hF:=fun w=>fine17x_r ⟨arg,c,l,N,wt,rt,top⟩ w
 unfold encR at hF
 have hbld:∀ w,(Instr.build 61 #[(0,.agg #[.int .i64 7,.int .i64 alg,.int .i64 mode,.int .i64 room,.int .i64 arg,.int .i64 wt,.int .i64 rt,.int .i64 top]),(3,.int .i64 c),(4,.int .i64 l)]).run Tryz.prog w=.ok (.agg #[.int .i64 7,.int .i64 alg,.int .i64 mode,.int .i64 room,.int .i64 arg,.int .i64 wt,.int .i64 rt,.int .i64 top,.int .i64 0,.int .i64 0,.int .i64 0,.int .i64 0,.int .i64 0,.int .i64 0,.int .i64 0,.int .i64 0,.int .i64 0,.int .i64 0,.int .i64 0,.int .i64 0,.int .i64 0,.int .i64 c,.int .i64 l]) w:=fun w=>run_build w 61 _ _ (by kernel_rfl)
 have b1:=(Blk.new w (.cells #[.int .i64 7,.int .i64 alg,.int .i64 mode,.int .i64 room,.int .i64 arg,.int .i64 wt,.int .i64 rt,.int .i64 top] 57)).alloc (.cells #[.int .i64 0,.int .i64 0,.int .i64 0,.int .i64 0,.int .i64 0,.int .i64 0,.int .i64 0,.int .i64 0,.int .i64 0,.int .i64 0,.int .i64 0,.int .i64 0,.int .i64 0,.int .i64 0,.int .i64 0,.int .i64 0,.int .i64 0,.int .i64 0,.int .i64 0,.int .i64 0,.int .i64 0,.int .i64 0,.int .i64 0] 61)
 have b2:=Blk.new (w.alloc (.cells #[.int .i64 7,.int .i64 alg,.int .i64 mode,.int .i64 room,.int .i64 arg,.int .i64 wt,.int .i64 rt,.int .i64 top] 57)) (.cells #[.int .i64 0,.int .i64 0,.int .i64 0,.int .i64 0,.int .i64 0,.int .i64 0,.int .i64 0,.int .i64 0,.int .i64 0,.int .i64 0,.int .i64 0,.int .i64 0,.int .i64 0,.int .i64 0,.int .i64 0,.int .i64 0,.int .i64 0,.int .i64 0,.int .i64 0,.int .i64 0,.int .i64 0,.int .i64 0,.int .i64 0] 61)
 have hX:=((Ext.refl w).alloc (.cells #[.int .i64 7,.int .i64 alg,.int .i64 mode,.int .i64 room,.int .i64 arg,.int .i64 wt,.int .i64 rt,.int .i64 top] 57)).alloc (.cells #[.int .i64 0,.int .i64 0,.int .i64 0,.int .i64 0,.int .i64 0,.int .i64 0,.int .i64 0,.int .i64 0,.int .i64 0,.int .i64 0,.int .i64 0,.int .i64 0,.int .i64 0,.int .i64 0,.int .i64 0,.int .i64 0,.int .i64 0,.int .i64 0,.int .i64 0,.int .i64 0,.int .i64 0,.int .i64 0,.int .i64 0] 61)
 simp only [World.size_alloc] at b2
 have c_b1:=b1.cells
 go_enter Tryz.func81,Tryz.ntmps81
 go_upto_region 1 with fail
 have hy2:w.heap.size+1<(World.alloc (World.alloc w (.cells #[.int .i64 7,.int .i64 alg,.int .i64 mode,.int .i64 room,.int .i64 arg,.int .i64 wt,.int .i64 rt,.int .i64 top] 57)) (.cells #[.int .i64 0,.int .i64 0,.int .i64 0,.int .i64 0,.int .i64 0,.int .i64 0,.int .i64 0,.int .i64 0,.int .i64 0,.int .i64 0,.int .i64 0,.int .i64 0,.int .i64 0,.int .i64 0,.int .i64 0,.int .i64 0,.int .i64 0,.int .i64 0,.int .i64 0,.int .i64 0,.int .i64 0,.int .i64 0,.int .i64 0] 61)).heap.size:=b2.lt
 generalize World.alloc (World.alloc w _) _=W at *
 go_upto_region 2 with (refine new_obj rfl rfl rfl _ _ rfl _ rfl rfl rfl (by kernel_rfl) ?_)
 have b3:=Blk.new W (.cells #[.int .i64 7,.int .i64 alg,.int .i64 mode,.int .i64 room,.int .i64 arg,.int .i64 wt,.int .i64 rt,.int .i64 top,.int .i64 0,.int .i64 0,.int .i64 0,.int .i64 0,.int .i64 0,.int .i64 0,.int .i64 0,.int .i64 0,.int .i64 0,.int .i64 0,.int .i64 0,.int .i64 0,.int .i64 0,.int .i64 c,.int .i64 l] 61)
 replace b1:=b1.alloc (.cells #[.int .i64 7,.int .i64 alg,.int .i64 mode,.int .i64 room,.int .i64 arg,.int .i64 wt,.int .i64 rt,.int .i64 top,.int .i64 0,.int .i64 0,.int .i64 0,.int .i64 0,.int .i64 0,.int .i64 0,.int .i64 0,.int .i64 0,.int .i64 0,.int .i64 0,.int .i64 0,.int .i64 0,.int .i64 0,.int .i64 c,.int .i64 l] 61)
 replace b2:=b2.alloc (.cells #[.int .i64 7,.int .i64 alg,.int .i64 mode,.int .i64 room,.int .i64 arg,.int .i64 wt,.int .i64 rt,.int .i64 top,.int .i64 0,.int .i64 0,.int .i64 0,.int .i64 0,.int .i64 0,.int .i64 0,.int .i64 0,.int .i64 0,.int .i64 0,.int .i64 0,.int .i64 0,.int .i64 0,.int .i64 0,.int .i64 c,.int .i64 l] 61)
 replace hX:=hX.alloc (.cells #[.int .i64 7,.int .i64 alg,.int .i64 mode,.int .i64 room,.int .i64 arg,.int .i64 wt,.int .i64 rt,.int .i64 top,.int .i64 0,.int .i64 0,.int .i64 0,.int .i64 0,.int .i64 0,.int .i64 0,.int .i64 0,.int .i64 0,.int .i64 0,.int .i64 0,.int .i64 0,.int .i64 0,.int .i64 0,.int .i64 c,.int .i64 l] 61)
 clear c_b1 hbld
 generalize hzz:W.heap.size=z at *
 generalize World.alloc W _=W2 at *
 have c_b1:=b1.cells
 have hg:=Lib.hid (show w.heap.size≠z/\w.heap.size+1≠z/\w.heap.size<=z by omega)
 clear hy2 hzz
 go_upto_region 17 with fail
 go_upto_region 18 with (refine store_part 59 z 14 [.int .i64 arg,.int .i64 c,.int .i64 l,.int .i64 N,.int .i64 wt,.int .i64 rt,.int .i64 top] #[.int .i64 7,.int .i64 alg,.int .i64 mode,.int .i64 room,.int .i64 arg,.int .i64 wt,.int .i64 rt,.int .i64 top,.int .i64 0,.int .i64 0,.int .i64 0,.int .i64 0,.int .i64 0,.int .i64 0,.int .i64 arg,.int .i64 c,.int .i64 l,.int .i64 N,.int .i64 wt,.int .i64 rt,.int .i64 top,.int .i64 c,.int .i64 l] rfl _ _ rfl rfl rfl b3 (by simp) (by kernel_rfl) rfl rfl ?_;intro W3 b3' hE3 hN3)
 replace hX:=hE3 _ hX hg.out.2.2
 replace b1:=blk_apart b1 hg.out.1 hN3
 replace b2:=blk_apart b2 hg.out.2.1 hN3
 replace b3:=b3'
 clear c_b1 hE3 hN3 b3'
 have c_b3:=b3.cells
 have c_b1:=b1.cells
 go_wp2_with fail
 refine (hF _).mono ?_
 rintro e w4 ⟨bf,rfl,hx,hbf⟩
 replace hX:=hX.trans hx
 replace b1:=b1.ext hx
 replace b2:=b2.ext hx
 replace b3:=b3.ext hx
 clear c_b1 c_b3 hx hF
 have c_b1:=b1.cells
 have c_b3:=b3.cells
 cases bf with
 | false =>
   clear hbf
   obtain⟨OB,hOB⟩:∃ OB:Array Value,OB=#[.int .i64 7,.int .i64 alg,.int .i64 mode,.int .i64 room,.int .i64 arg,.int .i64 wt,.int .i64 rt,.int .i64 top,.int .i64 0,.int .i64 0,.int .i64 0,.int .i64 0,.int .i64 0,.int .i64 0,.int .i64 arg,.int .i64 c,.int .i64 l,.int .i64 N,.int .i64 wt,.int .i64 rt,.int .i64 top,.int .i64 c,.int .i64 l]:=⟨_,rfl⟩
   have h23:OB.size=23:=by rw [hOB];rfl
   have h1c:OB.all (·.oneCell')=true:=by rw [hOB];kernel_rfl
   rw [<- hOB] at b3
   replace hOB:=Lib.hid hOB
   go_upto_region 19 with fail
   refine wp_region_lit ?_
   refine load_objS rfl _ rfl z rfl b3 h23 ?_
   try simp only [put_pack]
   go_wp2_with (refine store_ob (w.heap.size+1) OB h23 h1c rfl _ _ rfl rfl rfl b2 rfl ?_;intro W9 b9 hE9 hN9)
   have hX9:=hE9 _ hX (Nat.le_succ _)
   have hOO:=hOB.out
   exact obj2_post (p:=8) (q:=9) (x:=.bool false) rfl b9 h23 rfl rfl rfl (by exact onePost_no hX9 OB h23 h1c fun h=>absurd h (by show ¬ (7:Int)<=6;decide))
 | true =>
   have hf:=hbf rfl
   clear hbf
   by_cases h1:arg=1->1<=mode/\mode<=3
   rotate_left
   · have d0:(arg==1)=true:=by rw [beq_iff_eq];omega
     by_cases ha:mode<1
     · have d1:decide (mode<1)=true:=by rw [decide_eq_true_eq];exact ha
       clear h1 ha hf
       obtain⟨OB,hOB⟩:∃ OB:Array Value,OB=#[.int .i64 7,.int .i64 alg,.int .i64 mode,.int .i64 room,.int .i64 arg,.int .i64 wt,.int .i64 rt,.int .i64 top,.int .i64 0,.int .i64 0,.int .i64 0,.int .i64 0,.int .i64 0,.int .i64 0,.int .i64 arg,.int .i64 c,.int .i64 l,.int .i64 N,.int .i64 wt,.int .i64 rt,.int .i64 top,.int .i64 c,.int .i64 l]:=⟨_,rfl⟩
       have h23:OB.size=23:=by rw [hOB];rfl
       have h1c:OB.all (·.oneCell')=true:=by rw [hOB];kernel_rfl
       rw [<- hOB] at b3
       replace hOB:=Lib.hid hOB
       go_upto_region 19 with fail
       refine wp_region_lit ?_
       refine load_objS rfl _ rfl z rfl b3 h23 ?_
       try simp only [put_pack]
       go_wp2_with (refine store_ob (w.heap.size+1) OB h23 h1c rfl _ _ rfl rfl rfl b2 rfl ?_;intro W9 b9 hE9 hN9)
       have hX9:=hE9 _ hX (Nat.le_succ _)
       have hOO:=hOB.out
       exact obj2_post (p:=8) (q:=9) (x:=.bool false) rfl b9 h23 rfl rfl rfl (by exact onePost_no hX9 OB h23 h1c fun h=>absurd h (by show ¬ (7:Int)<=6;decide))
     · have d1:decide (mode<1)=false:=by rw [decide_eq_false_iff_not];omega
       have d2:decide (3<mode)=true:=by rw [decide_eq_true_eq];omega
       clear h1 ha hf
       obtain⟨OB,hOB⟩:∃ OB:Array Value,OB=#[.int .i64 7,.int .i64 alg,.int .i64 mode,.int .i64 room,.int .i64 arg,.int .i64 wt,.int .i64 rt,.int .i64 top,.int .i64 0,.int .i64 0,.int .i64 0,.int .i64 0,.int .i64 0,.int .i64 0,.int .i64 arg,.int .i64 c,.int .i64 l,.int .i64 N,.int .i64 wt,.int .i64 rt,.int .i64 top,.int .i64 c,.int .i64 l]:=⟨_,rfl⟩
       have h23:OB.size=23:=by rw [hOB];rfl
       have h1c:OB.all (·.oneCell')=true:=by rw [hOB];kernel_rfl
       rw [<- hOB] at b3
       replace hOB:=Lib.hid hOB
       go_upto_region 19 with fail
       refine wp_region_lit ?_
       refine load_objS rfl _ rfl z rfl b3 h23 ?_
       try simp only [put_pack]
       go_wp2_with (refine store_ob (w.heap.size+1) OB h23 h1c rfl _ _ rfl rfl rfl b2 rfl ?_;intro W9 b9 hE9 hN9)
       have hX9:=hE9 _ hX (Nat.le_succ _)
       have hOO:=hOB.out
       exact obj2_post (p:=8) (q:=9) (x:=.bool false) rfl b9 h23 rfl rfl rfl (by exact onePost_no hX9 OB h23 h1c fun h=>absurd h (by show ¬ (7:Int)<=6;decide))
   · have hokh:=Lib.hid (ObOk.reg (N:=N) (b:=c) (l:=l) (t:=⟨7,alg,mode,room,arg,wt,rt,top⟩) rfl hf h1)
     have hk:=hf.fine.kind
     have hn:=hf.fine.n
     have hcells:=hf.cells
     have hlocals:=hf.locals
     have hC:=fun w=>cells17_r ⟨arg,c,l,N,wt,rt,top⟩ w (by show 1<=arg/\arg<=7;simp only at hk;omega) hn
     have hL:=fun w=>locals17_r ⟨arg,c,l,N,wt,rt,top⟩ w (by show 1<=arg/\arg<=7;simp only at hk;omega) hn
     have hZ:=fun w=>size40_reg alg mode room arg wt rt top 0 0 0 0 0 0 arg c l N wt rt top c l _ _ w hC hL
     have hz:=cells7_bd hn
     have hb:=hf.fine.base
     have hl:=hf.fine.loc
     simp only at hcells hlocals hb hl hz
     clear hC hL hk hn hf
     generalize cells7 ⟨arg,c,l,N,wt,rt,top⟩=C at *
     generalize locals7 ⟨arg,c,l,N,wt,rt,top⟩=L at *
     have e1:decide (c+C<=32768)=true:=by rw [decide_eq_true_eq];exact hcells
     have e2:decide (l+L<=32768)=true:=by rw [decide_eq_true_eq];exact hlocals
     have ws1:=IntWalk.i64_in (c+C) (by omega)
     have ws2:=IntWalk.i64_in (l+L) (by omega)
     clear hcells hlocals hz hb hl
     by_cases k1:arg=1
     · have d0:(arg==1)=true:=by rw [beq_iff_eq];exact k1
       obtain⟨g1,g2⟩:=h1 k1
       have d1:decide (mode<1)=false:=by rw [decide_eq_false_iff_not];omega
       have d2:decide (3<mode)=false:=by rw [decide_eq_false_iff_not];omega
       clear h1 g1 g2 k1
       go_upto_region 26 with fail
       refine wp_region_lit ?_
       refine load_objS rfl _ rfl z rfl b3 rfl ?_
       try simp only [put_pack]
       go_wp2_with fail
       refine (hZ _).mono ?_
       rintro e w4 ⟨rfl,hx⟩
       replace hX:=hX.trans hx
       replace b1:=b1.ext hx
       replace b2:=b2.ext hx
       replace b3:=b3.ext hx
       clear c_b1 c_b3 hx
       have c_b1:=b1.cells
       have c_b3:=b3.cells
       clear hZ
       obtain⟨OB,hOB⟩:∃ OB:Array Value,OB=#[.int .i64 7,.int .i64 alg,.int .i64 mode,.int .i64 room,.int .i64 arg,.int .i64 wt,.int .i64 rt,.int .i64 top,.int .i64 0,.int .i64 0,.int .i64 0,.int .i64 0,.int .i64 0,.int .i64 0,.int .i64 arg,.int .i64 c,.int .i64 l,.int .i64 N,.int .i64 wt,.int .i64 rt,.int .i64 top,.int .i64 c,.int .i64 l]:=⟨_,rfl⟩
       have h23:OB.size=23:=by rw [hOB];rfl
       have h1c:OB.all (·.oneCell')=true:=by rw [hOB];kernel_rfl
       rw [<- hOB] at b3
       replace hOB:=Lib.hid hOB
       go_upto_region 27 with fail
       refine wp_region_lit ?_
       refine load_objS rfl _ rfl z rfl b3 h23 ?_
       try simp only [put_pack]
       go_wp2_with (refine store_ob (w.heap.size+1) OB h23 h1c rfl _ _ rfl rfl rfl b2 rfl ?_;intro W9 b9 hE9 hN9)
       have hX9:=hE9 _ hX (Nat.le_succ _)
       have hOO:=hOB.out
       exact obj2_post (p:=8) (q:=9) (x:=.bool true) rfl b9 h23 rfl rfl rfl (by rw [hOO];exact onePost_yes hX9 ⟨⟨7,alg,mode,room,arg,wt,rt,top⟩,0,0,0,0,0,0,⟨arg,c,l,N,wt,rt,top⟩,c,l⟩ C L hokh.out)
     · have d0:(arg==1)=false:=by rw [beq_eq_false_iff_ne];exact k1
       clear h1 k1
       go_upto_region 26 with fail
       refine wp_region_lit ?_
       refine load_objS rfl _ rfl z rfl b3 rfl ?_
       try simp only [put_pack]
       go_wp2_with fail
       refine (hZ _).mono ?_
       rintro e w4 ⟨rfl,hx⟩
       replace hX:=hX.trans hx
       replace b1:=b1.ext hx
       replace b2:=b2.ext hx
       replace b3:=b3.ext hx
       clear c_b1 c_b3 hx
       have c_b1:=b1.cells
       have c_b3:=b3.cells
       clear hZ
       obtain⟨OB,hOB⟩:∃ OB:Array Value,OB=#[.int .i64 7,.int .i64 alg,.int .i64 mode,.int .i64 room,.int .i64 arg,.int .i64 wt,.int .i64 rt,.int .i64 top,.int .i64 0,.int .i64 0,.int .i64 0,.int .i64 0,.int .i64 0,.int .i64 0,.int .i64 arg,.int .i64 c,.int .i64 l,.int .i64 N,.int .i64 wt,.int .i64 rt,.int .i64 top,.int .i64 c,.int .i64 l]:=⟨_,rfl⟩
       have h23:OB.size=23:=by rw [hOB];rfl
       have h1c:OB.all (·.oneCell')=true:=by rw [hOB];kernel_rfl
       rw [<- hOB] at b3
       replace hOB:=Lib.hid hOB
       go_upto_region 27 with fail
       refine wp_region_lit ?_
       refine load_objS rfl _ rfl z rfl b3 h23 ?_
       try simp only [put_pack]
       go_wp2_with (refine store_ob (w.heap.size+1) OB h23 h1c rfl _ _ rfl rfl rfl b2 rfl ?_;intro W9 b9 hE9 hN9)
       have hX9:=hE9 _ hX (Nat.le_succ _)
       have hOO:=hOB.out
       exact obj2_post (p:=8) (q:=9) (x:=.bool true) rfl b9 h23 rfl rfl rfl (by rw [hOO];exact onePost_yes hX9 ⟨⟨7,alg,mode,room,arg,wt,rt,top⟩,0,0,0,0,0,0,⟨arg,c,l,N,wt,rt,top⟩,c,l⟩ C L hokh.out)
set_option maxRecDepth 100000 in
set_option maxHeartbeats 2000000 in
theorem one40_name (alg mode room arg wt rt top:Int)(N:Nat)(c l:Int)(w:World)(hN:1<=N/\N<=8)(hc:0<=c/\c<=32768)(hl:0<=l/\l<=32768):Calls Tryz.prog 81 #[.agg #[.int .i64 8,.int .i64 alg,.int .i64 mode,.int .i64 room,.int .i64 arg,.int .i64 wt,.int .i64 rt,.int .i64 top],.int .i64 N,.int .i64 c,.int .i64 l] w (OnePost w N c l ⟨8,alg,mode,room,arg,wt,rt,top⟩):=by
 have hF:=fun w=>regs32_r N mode c l w hN.1 hN.2 (by omega)
 have hokh:=Lib.hid (fun rs (h:renLay N mode c l=some rs) q1 q2=>ObOk.name (N:=N) (b:=c) (l:=l) (t:=⟨8,alg,mode,room,arg,wt,rt,top⟩) rs rfl h q1 q2)
 have hZZ:=Lib.hid (fun (rs:List Reg) (ba lo:Int) (hok:∀ r∈rs,r.ok) (hlen:rs.length<=300) hR w=>size40_name alg mode room arg wt rt top 0 N mode c l 0 0 0 0 0 0 0 0 ba lo rs w hok hlen (by omega) hR)
 have hrs:∀ rs,renLay N mode c l=some rs->(∀ r∈rs,r.ok)/\rs.length<=300:=fun rs h=>⟨fun r hr=>(laid_all h r hr).1,by rw [layM_len h,renW_len];have:=(triN_le hN.1 hN.2).2;omega⟩
 generalize renLay N mode c l=o at *
 have hbld:∀ w,(Instr.build 61 #[(0,.agg #[.int .i64 8,.int .i64 alg,.int .i64 mode,.int .i64 room,.int .i64 arg,.int .i64 wt,.int .i64 rt,.int .i64 top]),(3,.int .i64 c),(4,.int .i64 l)]).run Tryz.prog w=.ok (.agg #[.int .i64 8,.int .i64 alg,.int .i64 mode,.int .i64 room,.int .i64 arg,.int .i64 wt,.int .i64 rt,.int .i64 top,.int .i64 0,.int .i64 0,.int .i64 0,.int .i64 0,.int .i64 0,.int .i64 0,.int .i64 0,.int .i64 0,.int .i64 0,.int .i64 0,.int .i64 0,.int .i64 0,.int .i64 0,.int .i64 c,.int .i64 l]) w:=fun w=>run_build w 61 _ _ (by kernel_rfl)
 have b1:=(Blk.new w (.cells #[.int .i64 8,.int .i64 alg,.int .i64 mode,.int .i64 room,.int .i64 arg,.int .i64 wt,.int .i64 rt,.int .i64 top] 57)).alloc (.cells #[.int .i64 0,.int .i64 0,.int .i64 0,.int .i64 0,.int .i64 0,.int .i64 0,.int .i64 0,.int .i64 0,.int .i64 0,.int .i64 0,.int .i64 0,.int .i64 0,.int .i64 0,.int .i64 0,.int .i64 0,.int .i64 0,.int .i64 0,.int .i64 0,.int .i64 0,.int .i64 0,.int .i64 0,.int .i64 0,.int .i64 0] 61)
 have b2:=Blk.new (w.alloc (.cells #[.int .i64 8,.int .i64 alg,.int .i64 mode,.int .i64 room,.int .i64 arg,.int .i64 wt,.int .i64 rt,.int .i64 top] 57)) (.cells #[.int .i64 0,.int .i64 0,.int .i64 0,.int .i64 0,.int .i64 0,.int .i64 0,.int .i64 0,.int .i64 0,.int .i64 0,.int .i64 0,.int .i64 0,.int .i64 0,.int .i64 0,.int .i64 0,.int .i64 0,.int .i64 0,.int .i64 0,.int .i64 0,.int .i64 0,.int .i64 0,.int .i64 0,.int .i64 0,.int .i64 0] 61)
 have hX:=((Ext.refl w).alloc (.cells #[.int .i64 8,.int .i64 alg,.int .i64 mode,.int .i64 room,.int .i64 arg,.int .i64 wt,.int .i64 rt,.int .i64 top] 57)).alloc (.cells #[.int .i64 0,.int .i64 0,.int .i64 0,.int .i64 0,.int .i64 0,.int .i64 0,.int .i64 0,.int .i64 0,.int .i64 0,.int .i64 0,.int .i64 0,.int .i64 0,.int .i64 0,.int .i64 0,.int .i64 0,.int .i64 0,.int .i64 0,.int .i64 0,.int .i64 0,.int .i64 0,.int .i64 0,.int .i64 0,.int .i64 0] 61)
 simp only [World.size_alloc] at b2
 have c_b1:=b1.cells
 go_enter Tryz.func81,Tryz.ntmps81
 go_upto_region 1 with fail
 have hy2:w.heap.size+1<(World.alloc (World.alloc w (.cells #[.int .i64 8,.int .i64 alg,.int .i64 mode,.int .i64 room,.int .i64 arg,.int .i64 wt,.int .i64 rt,.int .i64 top] 57)) (.cells #[.int .i64 0,.int .i64 0,.int .i64 0,.int .i64 0,.int .i64 0,.int .i64 0,.int .i64 0,.int .i64 0,.int .i64 0,.int .i64 0,.int .i64 0,.int .i64 0,.int .i64 0,.int .i64 0,.int .i64 0,.int .i64 0,.int .i64 0,.int .i64 0,.int .i64 0,.int .i64 0,.int .i64 0,.int .i64 0,.int .i64 0] 61)).heap.size:=b2.lt
 generalize World.alloc (World.alloc w _) _=W at *
 go_upto_region 2 with (refine new_obj rfl rfl rfl _ _ rfl _ rfl rfl rfl (by kernel_rfl) ?_)
 have b3:=Blk.new W (.cells #[.int .i64 8,.int .i64 alg,.int .i64 mode,.int .i64 room,.int .i64 arg,.int .i64 wt,.int .i64 rt,.int .i64 top,.int .i64 0,.int .i64 0,.int .i64 0,.int .i64 0,.int .i64 0,.int .i64 0,.int .i64 0,.int .i64 0,.int .i64 0,.int .i64 0,.int .i64 0,.int .i64 0,.int .i64 0,.int .i64 c,.int .i64 l] 61)
 replace b1:=b1.alloc (.cells #[.int .i64 8,.int .i64 alg,.int .i64 mode,.int .i64 room,.int .i64 arg,.int .i64 wt,.int .i64 rt,.int .i64 top,.int .i64 0,.int .i64 0,.int .i64 0,.int .i64 0,.int .i64 0,.int .i64 0,.int .i64 0,.int .i64 0,.int .i64 0,.int .i64 0,.int .i64 0,.int .i64 0,.int .i64 0,.int .i64 c,.int .i64 l] 61)
 replace b2:=b2.alloc (.cells #[.int .i64 8,.int .i64 alg,.int .i64 mode,.int .i64 room,.int .i64 arg,.int .i64 wt,.int .i64 rt,.int .i64 top,.int .i64 0,.int .i64 0,.int .i64 0,.int .i64 0,.int .i64 0,.int .i64 0,.int .i64 0,.int .i64 0,.int .i64 0,.int .i64 0,.int .i64 0,.int .i64 0,.int .i64 0,.int .i64 c,.int .i64 l] 61)
 replace hX:=hX.alloc (.cells #[.int .i64 8,.int .i64 alg,.int .i64 mode,.int .i64 room,.int .i64 arg,.int .i64 wt,.int .i64 rt,.int .i64 top,.int .i64 0,.int .i64 0,.int .i64 0,.int .i64 0,.int .i64 0,.int .i64 0,.int .i64 0,.int .i64 0,.int .i64 0,.int .i64 0,.int .i64 0,.int .i64 0,.int .i64 0,.int .i64 c,.int .i64 l] 61)
 clear c_b1 hbld
 generalize hzz:W.heap.size=z at *
 generalize World.alloc W _=W2 at *
 have c_b1:=b1.cells
 have hg:=Lib.hid (show w.heap.size≠z/\w.heap.size+1≠z/\w.heap.size<=z by omega)
 clear hy2 hzz
 go_upto_region 21 with fail
 go_upto_region 22 with (refine store_part 23 z 8 [.int .i64 0,.int .i64 N,.int .i64 mode,.int .i64 c,.int .i64 l,.int .i64 0] #[.int .i64 8,.int .i64 alg,.int .i64 mode,.int .i64 room,.int .i64 arg,.int .i64 wt,.int .i64 rt,.int .i64 top,.int .i64 0,.int .i64 N,.int .i64 mode,.int .i64 c,.int .i64 l,.int .i64 0,.int .i64 0,.int .i64 0,.int .i64 0,.int .i64 0,.int .i64 0,.int .i64 0,.int .i64 0,.int .i64 c,.int .i64 l] rfl _ _ rfl rfl rfl b3 (by simp) (by kernel_rfl) rfl rfl ?_;intro W3 b3' hE3 hN3)
 replace hX:=hE3 _ hX hg.out.2.2
 replace b1:=blk_apart b1 hg.out.1 hN3
 replace b2:=blk_apart b2 hg.out.2.1 hN3
 replace b3:=b3'
 clear c_b1 hE3 hN3 b3'
 have c_b3:=b3.cells
 have c_b1:=b1.cells
 have hF2:=Lib.hid hF
 go_wp2_with fail
 refine (hF _).mono ?_
 rintro e w4 ⟨hx,ho⟩
 replace hX:=hX.trans hx
 replace b1:=b1.ext hx
 replace b2:=b2.ext hx
 replace b3:=b3.ext hx
 clear c_b1 c_b3 hx hF
 have c_b1:=b1.cells
 have c_b3:=b3.cells
 cases o with
 | none =>
   obtain⟨x,hx0,rfl⟩:=ho
   have d1:(x != 0)=true:=by rw [bne_iff_ne];exact hx0
   clear hF2 hokh hZZ hrs hx0
   obtain⟨OB,hOB⟩:∃ OB:Array Value,OB=#[.int .i64 8,.int .i64 alg,.int .i64 mode,.int .i64 room,.int .i64 arg,.int .i64 wt,.int .i64 rt,.int .i64 top,.int .i64 0,.int .i64 N,.int .i64 mode,.int .i64 c,.int .i64 l,.int .i64 0,.int .i64 0,.int .i64 0,.int .i64 0,.int .i64 0,.int .i64 0,.int .i64 0,.int .i64 0,.int .i64 c,.int .i64 l]:=⟨_,rfl⟩
   have h23:OB.size=23:=by rw [hOB];rfl
   have h1c:OB.all (·.oneCell')=true:=by rw [hOB];kernel_rfl
   rw [<- hOB] at b3
   replace hOB:=Lib.hid hOB
   go_upto_region 24 with fail
   refine wp_region_lit ?_
   refine load_objS rfl _ rfl z rfl b3 h23 ?_
   try simp only [put_pack]
   go_wp2_with (refine store_ob (w.heap.size+1) OB h23 h1c rfl _ _ rfl rfl rfl b2 rfl ?_;intro W9 b9 hE9 hN9)
   have hX9:=hE9 _ hX (Nat.le_succ _)
   have hOO:=hOB.out
   exact obj2_post (p:=8) (q:=9) (x:=.bool false) rfl b9 h23 rfl rfl rfl (by exact onePost_no hX9 OB h23 h1c fun h=>absurd h (by show ¬ (8:Int)<=6;decide))
 | some rs =>
   obtain⟨v,rfl,hv⟩:=ho
   obtain⟨hok,hlen⟩:=hrs rs rfl
   have hbd:=sum_bd hok rs.length (Nat.le_refl _)
   rw [List.take_length] at hbd
   have hZ:=hZZ.out rs c (l+sumL rs) hok hlen (fun w=>hF2.out w)
   have hokr:=Lib.hid (hokh.out rs rfl)
   have f22:w4.frozen? ⟨z,22,none⟩=false:=frozen_of_heap b3 22
   clear hokh hZZ hrs hF2 hv
   generalize hsl:sumL rs=L at *
   generalize hsc:sumC rs=C at *
   clear hsl hsc hok
   have ws1:=IntWalk.i64_in (c+C) (by omega)
   have ws2:=IntWalk.i64_in (l+(L+1)) (by omega)
   clear hbd hlen
   go_upto_region 26 with fail
   have b3':Blk (w4.setCell ⟨z,22,none⟩ (.int .i64 (l+L))) z (.cells #[.int .i64 8,.int .i64 alg,.int .i64 mode,.int .i64 room,.int .i64 arg,.int .i64 wt,.int .i64 rt,.int .i64 top,.int .i64 0,.int .i64 N,.int .i64 mode,.int .i64 c,.int .i64 l,.int .i64 0,.int .i64 0,.int .i64 0,.int .i64 0,.int .i64 0,.int .i64 0,.int .i64 0,.int .i64 0,.int .i64 c,.int .i64 (l+L)] 61):=heap_setCell (i:=22) b3 (.int .i64 (l+L))
   replace hX:=hX.setCell (p:=⟨z,22,none⟩) hg.out.2.2 (.int .i64 (l+L))
   replace b1:=Blk.setZ (b:=z) (i:=22) b1 hg.out.1 (.int .i64 (l+L))
   replace b2:=Blk.setZ (b:=z) (i:=22) b2 hg.out.2.1 (.int .i64 (l+L))
   replace b3:=b3'
   clear b3' f22 c_b3 c_b1
   generalize World.setCell w4 _ _=W6 at *
   go_upto_region 26 with fail
   refine wp_region_lit ?_
   refine load_objS rfl _ rfl z rfl b3 rfl ?_
   try simp only [put_pack]
   go_wp2_with fail
   have c_b1:=b1.cells
   have c_b3:=b3.cells
   refine (hZ _).mono ?_
   rintro e w4 ⟨rfl,hx⟩
   replace hX:=hX.trans hx
   replace b1:=b1.ext hx
   replace b2:=b2.ext hx
   replace b3:=b3.ext hx
   clear c_b1 c_b3 hx
   have c_b1:=b1.cells
   have c_b3:=b3.cells
   clear hZ
   by_cases r1:c+C<=32768
   · have e1:decide (c+C<=32768)=true:=by rw [decide_eq_true_eq];exact r1
     by_cases r2:l+(L+1)<=32768
     · have e2:decide (l+(L+1)<=32768)=true:=by rw [decide_eq_true_eq];exact r2
       have hokh:=Lib.hid (hokr.out r1 r2)
       clear r1 r2 hokr
       obtain⟨OB,hOB⟩:∃ OB:Array Value,OB=#[.int .i64 8,.int .i64 alg,.int .i64 mode,.int .i64 room,.int .i64 arg,.int .i64 wt,.int .i64 rt,.int .i64 top,.int .i64 0,.int .i64 N,.int .i64 mode,.int .i64 c,.int .i64 l,.int .i64 0,.int .i64 0,.int .i64 0,.int .i64 0,.int .i64 0,.int .i64 0,.int .i64 0,.int .i64 0,.int .i64 c,.int .i64 (l+L)]:=⟨_,rfl⟩
       have h23:OB.size=23:=by rw [hOB];rfl
       have h1c:OB.all (·.oneCell')=true:=by rw [hOB];kernel_rfl
       rw [<- hOB] at b3
       replace hOB:=Lib.hid hOB
       go_upto_region 27 with fail
       refine wp_region_lit ?_
       refine load_objS rfl _ rfl z rfl b3 h23 ?_
       try simp only [put_pack]
       go_wp2_with (refine store_ob (w.heap.size+1) OB h23 h1c rfl _ _ rfl rfl rfl b2 rfl ?_;intro W9 b9 hE9 hN9)
       have hX9:=hE9 _ hX (Nat.le_succ _)
       have hOO:=hOB.out
       exact obj2_post (p:=8) (q:=9) (x:=.bool true) rfl b9 h23 rfl rfl rfl (by rw [hOO];exact onePost_yes hX9 ⟨⟨8,alg,mode,room,arg,wt,rt,top⟩,0,N,mode,c,l,0,reg0,c,l+L⟩ C (L+1) hokh.out)
     · have e2:decide (l+(L+1)<=32768)=false:=by rw [decide_eq_false_iff_not];exact r2
       clear r1 r2 hokr
       obtain⟨OB,hOB⟩:∃ OB:Array Value,OB=#[.int .i64 8,.int .i64 alg,.int .i64 mode,.int .i64 room,.int .i64 arg,.int .i64 wt,.int .i64 rt,.int .i64 top,.int .i64 0,.int .i64 N,.int .i64 mode,.int .i64 c,.int .i64 l,.int .i64 0,.int .i64 0,.int .i64 0,.int .i64 0,.int .i64 0,.int .i64 0,.int .i64 0,.int .i64 0,.int .i64 c,.int .i64 (l+L)]:=⟨_,rfl⟩
       have h23:OB.size=23:=by rw [hOB];rfl
       have h1c:OB.all (·.oneCell')=true:=by rw [hOB];kernel_rfl
       rw [<- hOB] at b3
       replace hOB:=Lib.hid hOB
       go_upto_region 27 with fail
       refine wp_region_lit ?_
       refine load_objS rfl _ rfl z rfl b3 h23 ?_
       try simp only [put_pack]
       go_wp2_with (refine store_ob (w.heap.size+1) OB h23 h1c rfl _ _ rfl rfl rfl b2 rfl ?_;intro W9 b9 hE9 hN9)
       have hX9:=hE9 _ hX (Nat.le_succ _)
       have hOO:=hOB.out
       exact obj2_post (p:=8) (q:=9) (x:=.bool false) rfl b9 h23 rfl rfl rfl (by exact onePost_no hX9 OB h23 h1c fun h=>absurd h (by show ¬ (8:Int)<=6;decide))
   · have e1:decide (c+C<=32768)=false:=by rw [decide_eq_false_iff_not];exact r1
     clear r1 hokr
     obtain⟨OB,hOB⟩:∃ OB:Array Value,OB=#[.int .i64 8,.int .i64 alg,.int .i64 mode,.int .i64 room,.int .i64 arg,.int .i64 wt,.int .i64 rt,.int .i64 top,.int .i64 0,.int .i64 N,.int .i64 mode,.int .i64 c,.int .i64 l,.int .i64 0,.int .i64 0,.int .i64 0,.int .i64 0,.int .i64 0,.int .i64 0,.int .i64 0,.int .i64 0,.int .i64 c,.int .i64 (l+L)]:=⟨_,rfl⟩
     have h23:OB.size=23:=by rw [hOB];rfl
     have h1c:OB.all (·.oneCell')=true:=by rw [hOB];kernel_rfl
     rw [<- hOB] at b3
     replace hOB:=Lib.hid hOB
     go_upto_region 27 with fail
     refine wp_region_lit ?_
     refine load_objS rfl _ rfl z rfl b3 h23 ?_
     try simp only [put_pack]
     go_wp2_with (refine store_ob (w.heap.size+1) OB h23 h1c rfl _ _ rfl rfl rfl b2 rfl ?_;intro W9 b9 hE9 hN9)
     have hX9:=hE9 _ hX (Nat.le_succ _)
     have hOO:=hOB.out
     exact obj2_post (p:=8) (q:=9) (x:=.bool false) rfl b9 h23 rfl rfl rfl (by exact onePost_no hX9 OB h23 h1c fun h=>absurd h (by show ¬ (8:Int)<=6;decide))
set_option maxRecDepth 100000 in
set_option maxHeartbeats 2000000 in
theorem one40_no (k alg mode room arg wt rt top:Int)(N:Nat)(c l:Int)(w:World)(hk:k<1∨8<k):Calls Tryz.prog 81 #[.agg #[.int .i64 k,.int .i64 alg,.int .i64 mode,.int .i64 room,.int .i64 arg,.int .i64 wt,.int .i64 rt,.int .i64 top],.int .i64 N,.int .i64 c,.int .i64 l] w (OnePost w N c l ⟨k,alg,mode,room,arg,wt,rt,top⟩):=by
 have hno:=Lib.hid (show ¬ ∃ ob cs ls,ObOk N c l ⟨k,alg,mode,room,arg,wt,rt,top⟩ ob cs ls from fun ⟨ob,cs,ls,ho⟩=>by
  cases ho with
  | lock rs hk1 _ _ _ _=>simp only at hk1;omega
  | reg hk7 _ _=>simp only at hk7;omega
  | name _ hk8 _ _ _=>simp only at hk8;omega)
 have d1:(k==1)=false:=by rw [beq_eq_false_iff_ne];omega
 have d2:(k==2)=false:=by rw [beq_eq_false_iff_ne];omega
 have d3:(k==3)=false:=by rw [beq_eq_false_iff_ne];omega
 have d4:(k==4)=false:=by rw [beq_eq_false_iff_ne];omega
 have d5:(k==5)=false:=by rw [beq_eq_false_iff_ne];omega
 have d6:(k==6)=false:=by rw [beq_eq_false_iff_ne];omega
 have d7:(k==7)=false:=by rw [beq_eq_false_iff_ne];omega
 have d8:(k==8)=false:=by rw [beq_eq_false_iff_ne];omega
 clear hk
 have hbld:∀ w,(Instr.build 61 #[(0,.agg #[.int .i64 k,.int .i64 alg,.int .i64 mode,.int .i64 room,.int .i64 arg,.int .i64 wt,.int .i64 rt,.int .i64 top]),(3,.int .i64 c),(4,.int .i64 l)]).run Tryz.prog w=.ok (.agg #[.int .i64 k,.int .i64 alg,.int .i64 mode,.int .i64 room,.int .i64 arg,.int .i64 wt,.int .i64 rt,.int .i64 top,.int .i64 0,.int .i64 0,.int .i64 0,.int .i64 0,.int .i64 0,.int .i64 0,.int .i64 0,.int .i64 0,.int .i64 0,.int .i64 0,.int .i64 0,.int .i64 0,.int .i64 0,.int .i64 c,.int .i64 l]) w:=fun w=>run_build w 61 _ _ (by kernel_rfl)
 have b1:=(Blk.new w (.cells #[.int .i64 k,.int .i64 alg,.int .i64 mode,.int .i64 room,.int .i64 arg,.int .i64 wt,.int .i64 rt,.int .i64 top] 57)).alloc (.cells #[.int .i64 0,.int .i64 0,.int .i64 0,.int .i64 0,.int .i64 0,.int .i64 0,.int .i64 0,.int .i64 0,.int .i64 0,.int .i64 0,.int .i64 0,.int .i64 0,.int .i64 0,.int .i64 0,.int .i64 0,.int .i64 0,.int .i64 0,.int .i64 0,.int .i64 0,.int .i64 0,.int .i64 0,.int .i64 0,.int .i64 0] 61)
 have b2:=Blk.new (w.alloc (.cells #[.int .i64 k,.int .i64 alg,.int .i64 mode,.int .i64 room,.int .i64 arg,.int .i64 wt,.int .i64 rt,.int .i64 top] 57)) (.cells #[.int .i64 0,.int .i64 0,.int .i64 0,.int .i64 0,.int .i64 0,.int .i64 0,.int .i64 0,.int .i64 0,.int .i64 0,.int .i64 0,.int .i64 0,.int .i64 0,.int .i64 0,.int .i64 0,.int .i64 0,.int .i64 0,.int .i64 0,.int .i64 0,.int .i64 0,.int .i64 0,.int .i64 0,.int .i64 0,.int .i64 0] 61)
 have hX:=((Ext.refl w).alloc (.cells #[.int .i64 k,.int .i64 alg,.int .i64 mode,.int .i64 room,.int .i64 arg,.int .i64 wt,.int .i64 rt,.int .i64 top] 57)).alloc (.cells #[.int .i64 0,.int .i64 0,.int .i64 0,.int .i64 0,.int .i64 0,.int .i64 0,.int .i64 0,.int .i64 0,.int .i64 0,.int .i64 0,.int .i64 0,.int .i64 0,.int .i64 0,.int .i64 0,.int .i64 0,.int .i64 0,.int .i64 0,.int .i64 0,.int .i64 0,.int .i64 0,.int .i64 0,.int .i64 0,.int .i64 0] 61)
 simp only [World.size_alloc] at b2
 have c_b1:=b1.cells
 go_enter Tryz.func81,Tryz.ntmps81
 go_upto_region 1 with fail
 have hy2:w.heap.size+1<(World.alloc (World.alloc w (.cells #[.int .i64 k,.int .i64 alg,.int .i64 mode,.int .i64 room,.int .i64 arg,.int .i64 wt,.int .i64 rt,.int .i64 top] 57)) (.cells #[.int .i64 0,.int .i64 0,.int .i64 0,.int .i64 0,.int .i64 0,.int .i64 0,.int .i64 0,.int .i64 0,.int .i64 0,.int .i64 0,.int .i64 0,.int .i64 0,.int .i64 0,.int .i64 0,.int .i64 0,.int .i64 0,.int .i64 0,.int .i64 0,.int .i64 0,.int .i64 0,.int .i64 0,.int .i64 0,.int .i64 0] 61)).heap.size:=b2.lt
 generalize World.alloc (World.alloc w _) _=W at *
 go_upto_region 2 with (refine new_obj rfl rfl rfl _ _ rfl _ rfl rfl rfl (by kernel_rfl) ?_)
 have b3:=Blk.new W (.cells #[.int .i64 k,.int .i64 alg,.int .i64 mode,.int .i64 room,.int .i64 arg,.int .i64 wt,.int .i64 rt,.int .i64 top,.int .i64 0,.int .i64 0,.int .i64 0,.int .i64 0,.int .i64 0,.int .i64 0,.int .i64 0,.int .i64 0,.int .i64 0,.int .i64 0,.int .i64 0,.int .i64 0,.int .i64 0,.int .i64 c,.int .i64 l] 61)
 replace b1:=b1.alloc (.cells #[.int .i64 k,.int .i64 alg,.int .i64 mode,.int .i64 room,.int .i64 arg,.int .i64 wt,.int .i64 rt,.int .i64 top,.int .i64 0,.int .i64 0,.int .i64 0,.int .i64 0,.int .i64 0,.int .i64 0,.int .i64 0,.int .i64 0,.int .i64 0,.int .i64 0,.int .i64 0,.int .i64 0,.int .i64 0,.int .i64 c,.int .i64 l] 61)
 replace b2:=b2.alloc (.cells #[.int .i64 k,.int .i64 alg,.int .i64 mode,.int .i64 room,.int .i64 arg,.int .i64 wt,.int .i64 rt,.int .i64 top,.int .i64 0,.int .i64 0,.int .i64 0,.int .i64 0,.int .i64 0,.int .i64 0,.int .i64 0,.int .i64 0,.int .i64 0,.int .i64 0,.int .i64 0,.int .i64 0,.int .i64 0,.int .i64 c,.int .i64 l] 61)
 replace hX:=hX.alloc (.cells #[.int .i64 k,.int .i64 alg,.int .i64 mode,.int .i64 room,.int .i64 arg,.int .i64 wt,.int .i64 rt,.int .i64 top,.int .i64 0,.int .i64 0,.int .i64 0,.int .i64 0,.int .i64 0,.int .i64 0,.int .i64 0,.int .i64 0,.int .i64 0,.int .i64 0,.int .i64 0,.int .i64 0,.int .i64 0,.int .i64 c,.int .i64 l] 61)
 clear c_b1 hbld
 generalize hzz:W.heap.size=z at *
 generalize World.alloc W _=W2 at *
 have c_b1:=b1.cells
 have hg:=Lib.hid (show w.heap.size≠z/\w.heap.size+1≠z/\w.heap.size<=z by omega)
 clear hy2 hzz
 have c_b3:=b3.cells
 obtain⟨OB,hOB⟩:∃ OB:Array Value,OB=#[.int .i64 k,.int .i64 alg,.int .i64 mode,.int .i64 room,.int .i64 arg,.int .i64 wt,.int .i64 rt,.int .i64 top,.int .i64 0,.int .i64 0,.int .i64 0,.int .i64 0,.int .i64 0,.int .i64 0,.int .i64 0,.int .i64 0,.int .i64 0,.int .i64 0,.int .i64 0,.int .i64 0,.int .i64 0,.int .i64 c,.int .i64 l]:=⟨_,rfl⟩
 have h23:OB.size=23:=by rw [hOB];rfl
 have h1c:OB.all (·.oneCell')=true:=by rw [hOB];kernel_rfl
 rw [<- hOB] at b3
 replace hOB:=Lib.hid hOB
 go_upto_region 3 with fail
 refine wp_region_lit ?_
 refine load_objS rfl _ rfl z rfl b3 h23 ?_
 try simp only [put_pack]
 go_wp2_with (refine store_ob (w.heap.size+1) OB h23 h1c rfl _ _ rfl rfl rfl b2 rfl ?_;intro W9 b9 hE9 hN9)
 have hX9:=hE9 _ hX (Nat.le_succ _)
 have hOO:=hOB.out
 exact obj2_post (p:=8) (q:=9) (x:=.bool false) rfl b9 h23 rfl rfl rfl (by exact onePost_no hX9 OB h23 h1c fun _=>hno.out)
theorem one40_r (t:Thg)(N:Nat)(c l:Int)(w:World)(hN:1<=N/\N<=8)(hc:0<=c/\c<=32768)(hl:0<=l/\l<=32768):Calls Tryz.prog 81 #[.agg (thgA t),.int .i64 N,.int .i64 c,.int .i64 l] w (OnePost w N c l t):=by
 obtain⟨k,alg,mode,room,arg,wt,rt,top⟩:=t
 by_cases h:k<1∨8<k
 · exact one40_no k alg mode room arg wt rt top N c l w h
 by_cases h6:k<=6
 · exact one40_lock k alg mode room arg wt rt top N c l w (by omega)
 by_cases h7:k=7
 · subst h7
   exact one40_reg alg mode room arg wt rt top N c l w
 · obtain rfl:k=8:=by omega
   exact one40_name alg mode room arg wt rt top N c l w hN hc hl
end Go.Proofs.YtponihangpiooaaGreat
