/-
  RegCosts holds: no write and no read of a register of any of the seven kinds costs more than Costs says, none asks for a cell or sets a local that is not the register's, without conditions.
-/
import Derived.Test.YtchahoiainbcaaaJRegCostsSaid3
import Derived.Laws.MakeOwn
import Derived.Deep.DeepCutAuto
namespace Go.Proofs.Ytchahoiainbcaaa
open Go.RowKit Kv
set_option maxRecDepth 100000 in
set_option maxHeartbeats 4000000 in
theorem fin4_r (base loc n wr rd top C D:Int)(w:World)(hb:0<=base/\base<=32768)(hl:0<=loc/\loc<=32768)(hn:1<=n/\n<=8)(hz:0<=C/\C<=6272/\0<=D/\D<=7072)
  (hC:∀ w,Calls Try.prog 16 #[.agg #[.int .i64 4,.int .i64 base,.int .i64 loc,.int .i64 n,.int .i64 wr,.int .i64 rd,.int .i64 top]] w fun e w'=>e=.returned (.int .i64 C)/\Ext w w')
  (hL:∀ w,Calls Try.prog 17 #[.agg #[.int .i64 4,.int .i64 base,.int .i64 loc,.int .i64 n,.int .i64 wr,.int .i64 rd,.int .i64 top]] w fun e w'=>e=.returned (.int .i64 D)/\Ext w w') :
  Calls Try.prog 4 #[.agg #[.int .i64 4,.int .i64 base,.int .i64 loc,.int .i64 n,.int .i64 wr,.int .i64 rd,.int .i64 top]] w (BoolPost w (thrB n wr true=true/\thrB n rd true=true/\wr≠rd/\1<=top/\top<=1/\base+C<=32768/\loc+D<=32768)):=by
 have d1:decide (base<0)=false:=by simpa using hb.1
 have d2:decide (loc<0)=false:=by simpa using hl.1
 have d3:decide (n<1)=false:=by simpa using hn.1
 have d4:decide (8<n)=false:=by simpa using hn.2
 have d5:decide (32768<base)=false:=by simpa using hb.2
 have d6:decide (32768<loc)=false:=by simpa using hl.2
 have hT:=fun w=>thread_b n wr true w
 have hT2:=fun w=>thread_b n rd true w
 have hX:=Ext.refl w
 have b1:=Blk.new w (.cells #[.int .i64 4,.int .i64 base,.int .i64 loc,.int .i64 n,.int .i64 wr,.int .i64 rd,.int .i64 top] 23)
 replace hX:=hX.alloc (.cells #[.int .i64 4,.int .i64 base,.int .i64 loc,.int .i64 n,.int .i64 wr,.int .i64 rd,.int .i64 top] 23)
 have c_b1:=b1.cells
 cases t1:thrB n wr true
 · rw [t1] at hT
   go_enter Try.func4,Try.ntmps4
   go_wp2_with fail
   refine (hT _).mono ?_
   rintro e w' ⟨rfl,rfl⟩
   go_wp2_with fail
   go_ret
   exact⟨false,rfl,hX,fun h=>nomatch h⟩
 rw [t1] at hT
 cases t2:thrB n rd true
 · rw [t2] at hT2
   go_enter Try.func4,Try.ntmps4
   go_wp2_with fail
   refine (hT _).mono ?_
   rintro e w' ⟨rfl,rfl⟩
   go_wp2_with fail
   refine (hT2 _).mono ?_
   rintro e w' ⟨rfl,rfl⟩
   go_wp2_with fail
   go_ret
   exact⟨false,rfl,hX,fun h=>nomatch h⟩
 rw [t2] at hT2
 by_cases t3:wr=rd
 · have t4:(wr==rd)=true:=by rw [beq_iff_eq];exact t3
   clear t3
   go_enter Try.func4,Try.ntmps4
   go_wp2_with fail
   refine (hT _).mono ?_
   rintro e w' ⟨rfl,rfl⟩
   go_wp2_with fail
   refine (hT2 _).mono ?_
   rintro e w' ⟨rfl,rfl⟩
   go_wp2_with fail
   go_ret
   exact⟨false,rfl,hX,fun h=>nomatch h⟩
 have t4:(wr==rd)=false:=by rw [beq_eq_false_iff_ne];exact t3
 have h1w:=IntWalk.i64_in (base+C) (by omega)
 have h2w:=IntWalk.i64_in (loc+D) (by omega)
 have hf:∀ b:Bool,(b=true->1<=top/\top<=1/\base+C<=32768/\loc+D<=32768)->(b=true->true=true/\true=true/\wr≠rd/\1<=top/\top<=1/\base+C<=32768/\loc+D<=32768):=fun b h hb=>⟨rfl,rfl,t3,h hb⟩
 have hfh:=Lib.hid hf
 clear hf t3
 go_enter Try.func4,Try.ntmps4
 go_wp2_with fail
 refine (hT _).mono ?_
 rintro e w' ⟨rfl,rfl⟩
 go_wp2_with fail
 refine (hT2 _).mono ?_
 rintro e w' ⟨rfl,rfl⟩
 clear hT hT2 t1 t2
 go_wp2_with fail
 have k1:=b1.alloc (.cells #[.int .i64 0,.int .i64 1099511627776,.int .i64 1,.int .i64 255,.int .i64 1,.int .i64 1099511627776,.int .i64 1048576,.int .i64 255] 3)
 have k2:=Blk.new (w.alloc (.cells #[.int .i64 4,.int .i64 base,.int .i64 loc,.int .i64 n,.int .i64 wr,.int .i64 rd,.int .i64 top] 23)) (.cells #[.int .i64 0,.int .i64 1099511627776,.int .i64 1,.int .i64 255,.int .i64 1,.int .i64 1099511627776,.int .i64 1048576,.int .i64 255] 3)
 have hXW:=hX.alloc (.cells #[.int .i64 0,.int .i64 1099511627776,.int .i64 1,.int .i64 255,.int .i64 1,.int .i64 1099511627776,.int .i64 1048576,.int .i64 255] 3)
 simp only [World.size_alloc] at k2
 clear b1 c_b1 hX
 generalize World.alloc (World.alloc _ _) _=W at *
 have hX:=(Ext.refl W).drew
 have hS:∀ w',Ext W w'->(∀ i,w'.cell? ⟨w.heap.size,i,none⟩=(#[.int .i64 4,.int .i64 base,.int .i64 loc,.int .i64 n,.int .i64 wr,.int .i64 rd,.int .i64 top]:Array Value)[i]?)/\(∀ i,w'.cell? ⟨w.heap.size+1,i,none⟩=(#[.int .i64 0,.int .i64 1099511627776,.int .i64 1,.int .i64 255,.int .i64 1,.int .i64 1099511627776,.int .i64 1048576,.int .i64 255]:Array Value)[i]?):=fun w' hx=>⟨(k1.ext hx).cells,(k2.ext hx).cells⟩
 by_cases e7:1<=top
 · have d7:decide (1<=top)=true:=by simpa using e7
   by_cases e8:top<=1
   · have d8:decide (top<=1)=true:=by simpa using e8
     by_cases hc:base+C<=32768
     · have d9:decide (base+C<=32768)=true:=by simpa using hc
       go_region_held2 (fun w'=>(∀ i,w'.cell? ⟨w.heap.size,i,none⟩=(#[.int .i64 4,.int .i64 base,.int .i64 loc,.int .i64 n,.int .i64 wr,.int .i64 rd,.int .i64 top]:Array Value)[i]?)/\(∀ i,w'.cell? ⟨w.heap.size+1,i,none⟩=(#[.int .i64 0,.int .i64 1099511627776,.int .i64 1,.int .i64 255,.int .i64 1,.int .i64 1099511627776,.int .i64 1048576,.int .i64 255]:Array Value)[i]?)) (exact hS _ hX)
       (first
          | (go_at_call 16
             refine (hC _).mono ?_
             rintro e w2 ⟨rfl,hx⟩
             replace hX:=hX.trans hx
             clear hx)
          | (go_at_call 17
             refine (hL _).mono ?_
             rintro e w2 ⟨rfl,hx⟩
             replace hX:=hX.trans hx
             clear hx))
       go_wp2_with fail
       go_ret
       exact⟨_,rfl,hXW.trans hX,hfh.out _ fun h=>⟨e7,e8,hc,by simpa using h⟩⟩
     · have d9:decide (base+C<=32768)=false:=by simpa using hc
       refine wp_region_held_drew (S:=fun w'=>(∀ i,w'.cell? ⟨w.heap.size,i,none⟩=(#[.int .i64 4,.int .i64 base,.int .i64 loc,.int .i64 n,.int .i64 wr,.int .i64 rd,.int .i64 top]:Array Value)[i]?)/\(∀ i,w'.cell? ⟨w.heap.size+1,i,none⟩=(#[.int .i64 0,.int .i64 1099511627776,.int .i64 1,.int .i64 255,.int .i64 1,.int .i64 1099511627776,.int .i64 1048576,.int .i64 255]:Array Value)[i]?)) rfl (hS _ hX) (fun hHeld=>?_)
       refine tkb 0 ?_
       iterate 17
        refine tkn (v:=?_) rfl (by kernel_rfl) (fun _ _ _ h=>h) (by assumption) ?_ ?_
        rotate_left
        · (intro w hSw;(try dsimp only at hSw);go_simp;try with_reducible rfl)
        try simp only [put_pack]
       refine tke ?_
       refine wpAnyH_ready (rs:=[17]) (by kernel_rfl) (by simp) ?_
       refine AllReadyH.cons rfl (fun K hKK=>?_) (AllReadyH.nil)
       go_simp
       refine (hC _).mono ?_
       rintro e w2 ⟨rfl,hx⟩
       replace hX:=hX.trans hx
       clear hx
       refine hKK.out _ _ (hS _ hX) (fun hHeld=>?_)
       clear hKK K
       try dsimp only
       refine tkb 18 ?_
       iterate 4
        refine tkn (v:=?_) rfl (by kernel_rfl) (fun _ _ _ h=>h) (by assumption) ?_ ?_
        rotate_left
        · (intro w hSw;(try dsimp only at hSw);go_simp;try with_reducible rfl)
        try simp only [put_pack]
       refine tke ?_
       refine sk 22 rfl (by kernel_rfl) (fun _ _ _ h=>h) (by assumption) ?_
       try simp only [put_pack]
       refine sk 23 rfl (by kernel_rfl) (fun _ _ _ h=>h) (by assumption) ?_
       try simp only [put_pack]
       refine sk 24 rfl (by kernel_rfl) (fun _ _ _ h=>h) (by assumption) ?_
       try simp only [put_pack]
       refine sk 25 rfl (by kernel_rfl) (fun _ _ _ h=>h) (by assumption) ?_
       try simp only [put_pack]
       refine sk 26 rfl (by kernel_rfl) (fun _ _ _ h=>h) (by assumption) ?_
       try simp only [put_pack]
       refine sk 27 rfl (by kernel_rfl) (fun _ _ _ h=>h) (by assumption) ?_
       try simp only [put_pack]
       refine tk 28 (v:=?_) rfl (by kernel_rfl) (fun _ _ _ h=>h) (by assumption) ?_ ?_
       rotate_left
       · (intro w hSw;(try dsimp only at hSw);go_simp;try with_reducible rfl)
       try simp only [put_pack]
       refine tk 29 (v:=?_) rfl (by kernel_rfl) (fun _ _ _ h=>h) (by assumption) ?_ ?_
       rotate_left
       · (intro w hSw;(try dsimp only at hSw);go_simp;try with_reducible rfl)
       try simp only [put_pack]
       refine wpAnyH_done (by kernel_rfl) ?_ _
       go_simp
       go_wp2_with fail
       go_ret
       exact⟨false,rfl,hXW.trans hX,fun h=>nomatch h⟩
   · have d8:decide (top<=1)=false:=by simpa using e8
     refine wp_region_held_drew (S:=fun w'=>(∀ i,w'.cell? ⟨w.heap.size,i,none⟩=(#[.int .i64 4,.int .i64 base,.int .i64 loc,.int .i64 n,.int .i64 wr,.int .i64 rd,.int .i64 top]:Array Value)[i]?)/\(∀ i,w'.cell? ⟨w.heap.size+1,i,none⟩=(#[.int .i64 0,.int .i64 1099511627776,.int .i64 1,.int .i64 255,.int .i64 1,.int .i64 1099511627776,.int .i64 1048576,.int .i64 255]:Array Value)[i]?)) rfl (hS _ hX) (fun hHeld=>?_)
     refine tkb 0 ?_
     iterate 14
      refine tkn (v:=?_) rfl (by kernel_rfl) (fun _ _ _ h=>h) (by assumption) ?_ ?_
      rotate_left
      · (intro w hSw;(try dsimp only at hSw);go_simp;try with_reducible rfl)
      try simp only [put_pack]
     refine tke ?_
     refine sk 14 rfl (by kernel_rfl) (fun _ _ _ h=>h) (by assumption) ?_
     try simp only [put_pack]
     refine sk 15 rfl (by kernel_rfl) (fun _ _ _ h=>h) (by assumption) ?_
     try simp only [put_pack]
     refine sk 16 rfl (by kernel_rfl) (fun _ _ _ h=>h) (by assumption) ?_
     try simp only [put_pack]
     refine sk 17 rfl (by kernel_rfl) (fun _ _ _ h=>h) (by assumption) ?_
     try simp only [put_pack]
     refine sk 18 rfl (by kernel_rfl) (fun _ _ _ h=>h) (by assumption) ?_
     try simp only [put_pack]
     refine sk 19 rfl (by kernel_rfl) (fun _ _ _ h=>h) (by assumption) ?_
     try simp only [put_pack]
     refine tk 20 (v:=?_) rfl (by kernel_rfl) (fun _ _ _ h=>h) (by assumption) ?_ ?_
     rotate_left
     · (intro w hSw;(try dsimp only at hSw);go_simp;try with_reducible rfl)
     try simp only [put_pack]
     refine tk 21 (v:=?_) rfl (by kernel_rfl) (fun _ _ _ h=>h) (by assumption) ?_ ?_
     rotate_left
     · (intro w hSw;(try dsimp only at hSw);go_simp;try with_reducible rfl)
     try simp only [put_pack]
     refine sk 22 rfl (by kernel_rfl) (fun _ _ _ h=>h) (by assumption) ?_
     try simp only [put_pack]
     refine sk 23 rfl (by kernel_rfl) (fun _ _ _ h=>h) (by assumption) ?_
     try simp only [put_pack]
     refine sk 24 rfl (by kernel_rfl) (fun _ _ _ h=>h) (by assumption) ?_
     try simp only [put_pack]
     refine sk 25 rfl (by kernel_rfl) (fun _ _ _ h=>h) (by assumption) ?_
     try simp only [put_pack]
     refine sk 26 rfl (by kernel_rfl) (fun _ _ _ h=>h) (by assumption) ?_
     try simp only [put_pack]
     refine sk 27 rfl (by kernel_rfl) (fun _ _ _ h=>h) (by assumption) ?_
     try simp only [put_pack]
     refine tk 28 (v:=?_) rfl (by kernel_rfl) (fun _ _ _ h=>h) (by assumption) ?_ ?_
     rotate_left
     · (intro w hSw;(try dsimp only at hSw);go_simp;try with_reducible rfl)
     try simp only [put_pack]
     refine tk 29 (v:=?_) rfl (by kernel_rfl) (fun _ _ _ h=>h) (by assumption) ?_ ?_
     rotate_left
     · (intro w hSw;(try dsimp only at hSw);go_simp;try with_reducible rfl)
     try simp only [put_pack]
     refine wpAnyH_done (by kernel_rfl) ?_ _
     go_simp
     go_wp2_with fail
     go_ret
     exact⟨false,rfl,hXW.trans hX,fun h=>nomatch h⟩
 · have d7:decide (1<=top)=false:=by simpa using e7
   refine wp_region_held_drew (S:=fun w'=>(∀ i,w'.cell? ⟨w.heap.size,i,none⟩=(#[.int .i64 4,.int .i64 base,.int .i64 loc,.int .i64 n,.int .i64 wr,.int .i64 rd,.int .i64 top]:Array Value)[i]?)/\(∀ i,w'.cell? ⟨w.heap.size+1,i,none⟩=(#[.int .i64 0,.int .i64 1099511627776,.int .i64 1,.int .i64 255,.int .i64 1,.int .i64 1099511627776,.int .i64 1048576,.int .i64 255]:Array Value)[i]?)) rfl (hS _ hX) (fun hHeld=>?_)
   refine tkb 0 ?_
   iterate 4
    refine tkn (v:=?_) rfl (by kernel_rfl) (fun _ _ _ h=>h) (by assumption) ?_ ?_
    rotate_left
    · (intro w hSw;(try dsimp only at hSw);go_simp;try with_reducible rfl)
    try simp only [put_pack]
   refine tke ?_
   refine sk 4 rfl (by kernel_rfl) (fun _ _ _ h=>h) (by assumption) ?_
   try simp only [put_pack]
   refine sk 5 rfl (by kernel_rfl) (fun _ _ _ h=>h) (by assumption) ?_
   try simp only [put_pack]
   refine sk 6 rfl (by kernel_rfl) (fun _ _ _ h=>h) (by assumption) ?_
   try simp only [put_pack]
   refine sk 7 rfl (by kernel_rfl) (fun _ _ _ h=>h) (by assumption) ?_
   try simp only [put_pack]
   refine sk 8 rfl (by kernel_rfl) (fun _ _ _ h=>h) (by assumption) ?_
   try simp only [put_pack]
   refine sk 9 rfl (by kernel_rfl) (fun _ _ _ h=>h) (by assumption) ?_
   try simp only [put_pack]
   refine sk 10 rfl (by kernel_rfl) (fun _ _ _ h=>h) (by assumption) ?_
   try simp only [put_pack]
   refine sk 11 rfl (by kernel_rfl) (fun _ _ _ h=>h) (by assumption) ?_
   try simp only [put_pack]
   refine tk 12 (v:=?_) rfl (by kernel_rfl) (fun _ _ _ h=>h) (by assumption) ?_ ?_
   rotate_left
   · (intro w hSw;(try dsimp only at hSw);go_simp;try with_reducible rfl)
   try simp only [put_pack]
   refine tk 13 (v:=?_) rfl (by kernel_rfl) (fun _ _ _ h=>h) (by assumption) ?_ ?_
   rotate_left
   · (intro w hSw;(try dsimp only at hSw);go_simp;try with_reducible rfl)
   try simp only [put_pack]
   refine sk 14 rfl (by kernel_rfl) (fun _ _ _ h=>h) (by assumption) ?_
   try simp only [put_pack]
   refine sk 15 rfl (by kernel_rfl) (fun _ _ _ h=>h) (by assumption) ?_
   try simp only [put_pack]
   refine sk 16 rfl (by kernel_rfl) (fun _ _ _ h=>h) (by assumption) ?_
   try simp only [put_pack]
   refine sk 17 rfl (by kernel_rfl) (fun _ _ _ h=>h) (by assumption) ?_
   try simp only [put_pack]
   refine sk 18 rfl (by kernel_rfl) (fun _ _ _ h=>h) (by assumption) ?_
   try simp only [put_pack]
   refine sk 19 rfl (by kernel_rfl) (fun _ _ _ h=>h) (by assumption) ?_
   try simp only [put_pack]
   refine tk 20 (v:=?_) rfl (by kernel_rfl) (fun _ _ _ h=>h) (by assumption) ?_ ?_
   rotate_left
   · (intro w hSw;(try dsimp only at hSw);go_simp;try with_reducible rfl)
   try simp only [put_pack]
   refine tk 21 (v:=?_) rfl (by kernel_rfl) (fun _ _ _ h=>h) (by assumption) ?_ ?_
   rotate_left
   · (intro w hSw;(try dsimp only at hSw);go_simp;try with_reducible rfl)
   try simp only [put_pack]
   refine sk 22 rfl (by kernel_rfl) (fun _ _ _ h=>h) (by assumption) ?_
   try simp only [put_pack]
   refine sk 23 rfl (by kernel_rfl) (fun _ _ _ h=>h) (by assumption) ?_
   try simp only [put_pack]
   refine sk 24 rfl (by kernel_rfl) (fun _ _ _ h=>h) (by assumption) ?_
   try simp only [put_pack]
   refine sk 25 rfl (by kernel_rfl) (fun _ _ _ h=>h) (by assumption) ?_
   try simp only [put_pack]
   refine sk 26 rfl (by kernel_rfl) (fun _ _ _ h=>h) (by assumption) ?_
   try simp only [put_pack]
   refine sk 27 rfl (by kernel_rfl) (fun _ _ _ h=>h) (by assumption) ?_
   try simp only [put_pack]
   refine tk 28 (v:=?_) rfl (by kernel_rfl) (fun _ _ _ h=>h) (by assumption) ?_ ?_
   rotate_left
   · (intro w hSw;(try dsimp only at hSw);go_simp;try with_reducible rfl)
   try simp only [put_pack]
   refine tk 29 (v:=?_) rfl (by kernel_rfl) (fun _ _ _ h=>h) (by assumption) ?_ ?_
   rotate_left
   · (intro w hSw;(try dsimp only at hSw);go_simp;try with_reducible rfl)
   try simp only [put_pack]
   refine wpAnyH_done (by kernel_rfl) ?_ _
   go_simp
   go_wp2_with fail
   go_ret
   exact⟨false,rfl,hXW.trans hX,fun h=>nomatch h⟩
set_option maxRecDepth 100000 in
set_option maxHeartbeats 4000000 in
theorem fin5_r (base loc n wr rd top C D:Int)(w:World)(hb:0<=base/\base<=32768)(hl:0<=loc/\loc<=32768)(hn:1<=n/\n<=8)(hz:0<=C/\C<=6272/\0<=D/\D<=7072)
  (hC:∀ w,Calls Try.prog 16 #[.agg #[.int .i64 5,.int .i64 base,.int .i64 loc,.int .i64 n,.int .i64 wr,.int .i64 rd,.int .i64 top]] w fun e w'=>e=.returned (.int .i64 C)/\Ext w w')
  (hL:∀ w,Calls Try.prog 17 #[.agg #[.int .i64 5,.int .i64 base,.int .i64 loc,.int .i64 n,.int .i64 wr,.int .i64 rd,.int .i64 top]] w fun e w'=>e=.returned (.int .i64 D)/\Ext w w') :
  Calls Try.prog 4 #[.agg #[.int .i64 5,.int .i64 base,.int .i64 loc,.int .i64 n,.int .i64 wr,.int .i64 rd,.int .i64 top]] w (BoolPost w (thrB n wr true=true/\thrB n rd true=true/\wr≠rd/\1<=top/\top<=1099511627776/\base+C<=32768/\loc+D<=32768)):=by
 have d1:decide (base<0)=false:=by simpa using hb.1
 have d2:decide (loc<0)=false:=by simpa using hl.1
 have d3:decide (n<1)=false:=by simpa using hn.1
 have d4:decide (8<n)=false:=by simpa using hn.2
 have d5:decide (32768<base)=false:=by simpa using hb.2
 have d6:decide (32768<loc)=false:=by simpa using hl.2
 have hT:=fun w=>thread_b n wr true w
 have hT2:=fun w=>thread_b n rd true w
 have hX:=Ext.refl w
 have b1:=Blk.new w (.cells #[.int .i64 5,.int .i64 base,.int .i64 loc,.int .i64 n,.int .i64 wr,.int .i64 rd,.int .i64 top] 23)
 replace hX:=hX.alloc (.cells #[.int .i64 5,.int .i64 base,.int .i64 loc,.int .i64 n,.int .i64 wr,.int .i64 rd,.int .i64 top] 23)
 have c_b1:=b1.cells
 cases t1:thrB n wr true
 · rw [t1] at hT
   go_enter Try.func4,Try.ntmps4
   go_wp2_with fail
   refine (hT _).mono ?_
   rintro e w' ⟨rfl,rfl⟩
   go_wp2_with fail
   go_ret
   exact⟨false,rfl,hX,fun h=>nomatch h⟩
 rw [t1] at hT
 cases t2:thrB n rd true
 · rw [t2] at hT2
   go_enter Try.func4,Try.ntmps4
   go_wp2_with fail
   refine (hT _).mono ?_
   rintro e w' ⟨rfl,rfl⟩
   go_wp2_with fail
   refine (hT2 _).mono ?_
   rintro e w' ⟨rfl,rfl⟩
   go_wp2_with fail
   go_ret
   exact⟨false,rfl,hX,fun h=>nomatch h⟩
 rw [t2] at hT2
 by_cases t3:wr=rd
 · have t4:(wr==rd)=true:=by rw [beq_iff_eq];exact t3
   clear t3
   go_enter Try.func4,Try.ntmps4
   go_wp2_with fail
   refine (hT _).mono ?_
   rintro e w' ⟨rfl,rfl⟩
   go_wp2_with fail
   refine (hT2 _).mono ?_
   rintro e w' ⟨rfl,rfl⟩
   go_wp2_with fail
   go_ret
   exact⟨false,rfl,hX,fun h=>nomatch h⟩
 have t4:(wr==rd)=false:=by rw [beq_eq_false_iff_ne];exact t3
 have h1w:=IntWalk.i64_in (base+C) (by omega)
 have h2w:=IntWalk.i64_in (loc+D) (by omega)
 have hf:∀ b:Bool,(b=true->1<=top/\top<=1099511627776/\base+C<=32768/\loc+D<=32768)->(b=true->true=true/\true=true/\wr≠rd/\1<=top/\top<=1099511627776/\base+C<=32768/\loc+D<=32768):=fun b h hb=>⟨rfl,rfl,t3,h hb⟩
 have hfh:=Lib.hid hf
 clear hf t3
 go_enter Try.func4,Try.ntmps4
 go_wp2_with fail
 refine (hT _).mono ?_
 rintro e w' ⟨rfl,rfl⟩
 go_wp2_with fail
 refine (hT2 _).mono ?_
 rintro e w' ⟨rfl,rfl⟩
 clear hT hT2 t1 t2
 go_wp2_with fail
 have k1:=b1.alloc (.cells #[.int .i64 0,.int .i64 1099511627776,.int .i64 1,.int .i64 255,.int .i64 1,.int .i64 1099511627776,.int .i64 1048576,.int .i64 255] 3)
 have k2:=Blk.new (w.alloc (.cells #[.int .i64 5,.int .i64 base,.int .i64 loc,.int .i64 n,.int .i64 wr,.int .i64 rd,.int .i64 top] 23)) (.cells #[.int .i64 0,.int .i64 1099511627776,.int .i64 1,.int .i64 255,.int .i64 1,.int .i64 1099511627776,.int .i64 1048576,.int .i64 255] 3)
 have hXW:=hX.alloc (.cells #[.int .i64 0,.int .i64 1099511627776,.int .i64 1,.int .i64 255,.int .i64 1,.int .i64 1099511627776,.int .i64 1048576,.int .i64 255] 3)
 simp only [World.size_alloc] at k2
 clear b1 c_b1 hX
 generalize World.alloc (World.alloc _ _) _=W at *
 have hX:=(Ext.refl W).drew
 have hS:∀ w',Ext W w'->(∀ i,w'.cell? ⟨w.heap.size,i,none⟩=(#[.int .i64 5,.int .i64 base,.int .i64 loc,.int .i64 n,.int .i64 wr,.int .i64 rd,.int .i64 top]:Array Value)[i]?)/\(∀ i,w'.cell? ⟨w.heap.size+1,i,none⟩=(#[.int .i64 0,.int .i64 1099511627776,.int .i64 1,.int .i64 255,.int .i64 1,.int .i64 1099511627776,.int .i64 1048576,.int .i64 255]:Array Value)[i]?):=fun w' hx=>⟨(k1.ext hx).cells,(k2.ext hx).cells⟩
 by_cases e7:1<=top
 · have d7:decide (1<=top)=true:=by simpa using e7
   by_cases e8:top<=1099511627776
   · have d8:decide (top<=1099511627776)=true:=by simpa using e8
     by_cases hc:base+C<=32768
     · have d9:decide (base+C<=32768)=true:=by simpa using hc
       go_region_held2 (fun w'=>(∀ i,w'.cell? ⟨w.heap.size,i,none⟩=(#[.int .i64 5,.int .i64 base,.int .i64 loc,.int .i64 n,.int .i64 wr,.int .i64 rd,.int .i64 top]:Array Value)[i]?)/\(∀ i,w'.cell? ⟨w.heap.size+1,i,none⟩=(#[.int .i64 0,.int .i64 1099511627776,.int .i64 1,.int .i64 255,.int .i64 1,.int .i64 1099511627776,.int .i64 1048576,.int .i64 255]:Array Value)[i]?)) (exact hS _ hX)
       (first
          | (go_at_call 16
             refine (hC _).mono ?_
             rintro e w2 ⟨rfl,hx⟩
             replace hX:=hX.trans hx
             clear hx)
          | (go_at_call 17
             refine (hL _).mono ?_
             rintro e w2 ⟨rfl,hx⟩
             replace hX:=hX.trans hx
             clear hx))
       go_wp2_with fail
       go_ret
       exact⟨_,rfl,hXW.trans hX,hfh.out _ fun h=>⟨e7,e8,hc,by simpa using h⟩⟩
     · have d9:decide (base+C<=32768)=false:=by simpa using hc
       refine wp_region_held_drew (S:=fun w'=>(∀ i,w'.cell? ⟨w.heap.size,i,none⟩=(#[.int .i64 5,.int .i64 base,.int .i64 loc,.int .i64 n,.int .i64 wr,.int .i64 rd,.int .i64 top]:Array Value)[i]?)/\(∀ i,w'.cell? ⟨w.heap.size+1,i,none⟩=(#[.int .i64 0,.int .i64 1099511627776,.int .i64 1,.int .i64 255,.int .i64 1,.int .i64 1099511627776,.int .i64 1048576,.int .i64 255]:Array Value)[i]?)) rfl (hS _ hX) (fun hHeld=>?_)
       refine tkb 0 ?_
       iterate 17
        refine tkn (v:=?_) rfl (by kernel_rfl) (fun _ _ _ h=>h) (by assumption) ?_ ?_
        rotate_left
        · (intro w hSw;(try dsimp only at hSw);go_simp;try with_reducible rfl)
        try simp only [put_pack]
       refine tke ?_
       refine wpAnyH_ready (rs:=[17]) (by kernel_rfl) (by simp) ?_
       refine AllReadyH.cons rfl (fun K hKK=>?_) (AllReadyH.nil)
       go_simp
       refine (hC _).mono ?_
       rintro e w2 ⟨rfl,hx⟩
       replace hX:=hX.trans hx
       clear hx
       refine hKK.out _ _ (hS _ hX) (fun hHeld=>?_)
       clear hKK K
       try dsimp only
       refine tkb 18 ?_
       iterate 4
        refine tkn (v:=?_) rfl (by kernel_rfl) (fun _ _ _ h=>h) (by assumption) ?_ ?_
        rotate_left
        · (intro w hSw;(try dsimp only at hSw);go_simp;try with_reducible rfl)
        try simp only [put_pack]
       refine tke ?_
       refine sk 22 rfl (by kernel_rfl) (fun _ _ _ h=>h) (by assumption) ?_
       try simp only [put_pack]
       refine sk 23 rfl (by kernel_rfl) (fun _ _ _ h=>h) (by assumption) ?_
       try simp only [put_pack]
       refine sk 24 rfl (by kernel_rfl) (fun _ _ _ h=>h) (by assumption) ?_
       try simp only [put_pack]
       refine sk 25 rfl (by kernel_rfl) (fun _ _ _ h=>h) (by assumption) ?_
       try simp only [put_pack]
       refine sk 26 rfl (by kernel_rfl) (fun _ _ _ h=>h) (by assumption) ?_
       try simp only [put_pack]
       refine sk 27 rfl (by kernel_rfl) (fun _ _ _ h=>h) (by assumption) ?_
       try simp only [put_pack]
       refine tk 28 (v:=?_) rfl (by kernel_rfl) (fun _ _ _ h=>h) (by assumption) ?_ ?_
       rotate_left
       · (intro w hSw;(try dsimp only at hSw);go_simp;try with_reducible rfl)
       try simp only [put_pack]
       refine tk 29 (v:=?_) rfl (by kernel_rfl) (fun _ _ _ h=>h) (by assumption) ?_ ?_
       rotate_left
       · (intro w hSw;(try dsimp only at hSw);go_simp;try with_reducible rfl)
       try simp only [put_pack]
       refine wpAnyH_done (by kernel_rfl) ?_ _
       go_simp
       go_wp2_with fail
       go_ret
       exact⟨false,rfl,hXW.trans hX,fun h=>nomatch h⟩
   · have d8:decide (top<=1099511627776)=false:=by simpa using e8
     refine wp_region_held_drew (S:=fun w'=>(∀ i,w'.cell? ⟨w.heap.size,i,none⟩=(#[.int .i64 5,.int .i64 base,.int .i64 loc,.int .i64 n,.int .i64 wr,.int .i64 rd,.int .i64 top]:Array Value)[i]?)/\(∀ i,w'.cell? ⟨w.heap.size+1,i,none⟩=(#[.int .i64 0,.int .i64 1099511627776,.int .i64 1,.int .i64 255,.int .i64 1,.int .i64 1099511627776,.int .i64 1048576,.int .i64 255]:Array Value)[i]?)) rfl (hS _ hX) (fun hHeld=>?_)
     refine tkb 0 ?_
     iterate 14
      refine tkn (v:=?_) rfl (by kernel_rfl) (fun _ _ _ h=>h) (by assumption) ?_ ?_
      rotate_left
      · (intro w hSw;(try dsimp only at hSw);go_simp;try with_reducible rfl)
      try simp only [put_pack]
     refine tke ?_
     refine sk 14 rfl (by kernel_rfl) (fun _ _ _ h=>h) (by assumption) ?_
     try simp only [put_pack]
     refine sk 15 rfl (by kernel_rfl) (fun _ _ _ h=>h) (by assumption) ?_
     try simp only [put_pack]
     refine sk 16 rfl (by kernel_rfl) (fun _ _ _ h=>h) (by assumption) ?_
     try simp only [put_pack]
     refine sk 17 rfl (by kernel_rfl) (fun _ _ _ h=>h) (by assumption) ?_
     try simp only [put_pack]
     refine sk 18 rfl (by kernel_rfl) (fun _ _ _ h=>h) (by assumption) ?_
     try simp only [put_pack]
     refine sk 19 rfl (by kernel_rfl) (fun _ _ _ h=>h) (by assumption) ?_
     try simp only [put_pack]
     refine tk 20 (v:=?_) rfl (by kernel_rfl) (fun _ _ _ h=>h) (by assumption) ?_ ?_
     rotate_left
     · (intro w hSw;(try dsimp only at hSw);go_simp;try with_reducible rfl)
     try simp only [put_pack]
     refine tk 21 (v:=?_) rfl (by kernel_rfl) (fun _ _ _ h=>h) (by assumption) ?_ ?_
     rotate_left
     · (intro w hSw;(try dsimp only at hSw);go_simp;try with_reducible rfl)
     try simp only [put_pack]
     refine sk 22 rfl (by kernel_rfl) (fun _ _ _ h=>h) (by assumption) ?_
     try simp only [put_pack]
     refine sk 23 rfl (by kernel_rfl) (fun _ _ _ h=>h) (by assumption) ?_
     try simp only [put_pack]
     refine sk 24 rfl (by kernel_rfl) (fun _ _ _ h=>h) (by assumption) ?_
     try simp only [put_pack]
     refine sk 25 rfl (by kernel_rfl) (fun _ _ _ h=>h) (by assumption) ?_
     try simp only [put_pack]
     refine sk 26 rfl (by kernel_rfl) (fun _ _ _ h=>h) (by assumption) ?_
     try simp only [put_pack]
     refine sk 27 rfl (by kernel_rfl) (fun _ _ _ h=>h) (by assumption) ?_
     try simp only [put_pack]
     refine tk 28 (v:=?_) rfl (by kernel_rfl) (fun _ _ _ h=>h) (by assumption) ?_ ?_
     rotate_left
     · (intro w hSw;(try dsimp only at hSw);go_simp;try with_reducible rfl)
     try simp only [put_pack]
     refine tk 29 (v:=?_) rfl (by kernel_rfl) (fun _ _ _ h=>h) (by assumption) ?_ ?_
     rotate_left
     · (intro w hSw;(try dsimp only at hSw);go_simp;try with_reducible rfl)
     try simp only [put_pack]
     refine wpAnyH_done (by kernel_rfl) ?_ _
     go_simp
     go_wp2_with fail
     go_ret
     exact⟨false,rfl,hXW.trans hX,fun h=>nomatch h⟩
 · have d7:decide (1<=top)=false:=by simpa using e7
   refine wp_region_held_drew (S:=fun w'=>(∀ i,w'.cell? ⟨w.heap.size,i,none⟩=(#[.int .i64 5,.int .i64 base,.int .i64 loc,.int .i64 n,.int .i64 wr,.int .i64 rd,.int .i64 top]:Array Value)[i]?)/\(∀ i,w'.cell? ⟨w.heap.size+1,i,none⟩=(#[.int .i64 0,.int .i64 1099511627776,.int .i64 1,.int .i64 255,.int .i64 1,.int .i64 1099511627776,.int .i64 1048576,.int .i64 255]:Array Value)[i]?)) rfl (hS _ hX) (fun hHeld=>?_)
   refine tkb 0 ?_
   iterate 4
    refine tkn (v:=?_) rfl (by kernel_rfl) (fun _ _ _ h=>h) (by assumption) ?_ ?_
    rotate_left
    · (intro w hSw;(try dsimp only at hSw);go_simp;try with_reducible rfl)
    try simp only [put_pack]
   refine tke ?_
   refine sk 4 rfl (by kernel_rfl) (fun _ _ _ h=>h) (by assumption) ?_
   try simp only [put_pack]
   refine sk 5 rfl (by kernel_rfl) (fun _ _ _ h=>h) (by assumption) ?_
   try simp only [put_pack]
   refine sk 6 rfl (by kernel_rfl) (fun _ _ _ h=>h) (by assumption) ?_
   try simp only [put_pack]
   refine sk 7 rfl (by kernel_rfl) (fun _ _ _ h=>h) (by assumption) ?_
   try simp only [put_pack]
   refine sk 8 rfl (by kernel_rfl) (fun _ _ _ h=>h) (by assumption) ?_
   try simp only [put_pack]
   refine sk 9 rfl (by kernel_rfl) (fun _ _ _ h=>h) (by assumption) ?_
   try simp only [put_pack]
   refine sk 10 rfl (by kernel_rfl) (fun _ _ _ h=>h) (by assumption) ?_
   try simp only [put_pack]
   refine sk 11 rfl (by kernel_rfl) (fun _ _ _ h=>h) (by assumption) ?_
   try simp only [put_pack]
   refine tk 12 (v:=?_) rfl (by kernel_rfl) (fun _ _ _ h=>h) (by assumption) ?_ ?_
   rotate_left
   · (intro w hSw;(try dsimp only at hSw);go_simp;try with_reducible rfl)
   try simp only [put_pack]
   refine tk 13 (v:=?_) rfl (by kernel_rfl) (fun _ _ _ h=>h) (by assumption) ?_ ?_
   rotate_left
   · (intro w hSw;(try dsimp only at hSw);go_simp;try with_reducible rfl)
   try simp only [put_pack]
   refine sk 14 rfl (by kernel_rfl) (fun _ _ _ h=>h) (by assumption) ?_
   try simp only [put_pack]
   refine sk 15 rfl (by kernel_rfl) (fun _ _ _ h=>h) (by assumption) ?_
   try simp only [put_pack]
   refine sk 16 rfl (by kernel_rfl) (fun _ _ _ h=>h) (by assumption) ?_
   try simp only [put_pack]
   refine sk 17 rfl (by kernel_rfl) (fun _ _ _ h=>h) (by assumption) ?_
   try simp only [put_pack]
   refine sk 18 rfl (by kernel_rfl) (fun _ _ _ h=>h) (by assumption) ?_
   try simp only [put_pack]
   refine sk 19 rfl (by kernel_rfl) (fun _ _ _ h=>h) (by assumption) ?_
   try simp only [put_pack]
   refine tk 20 (v:=?_) rfl (by kernel_rfl) (fun _ _ _ h=>h) (by assumption) ?_ ?_
   rotate_left
   · (intro w hSw;(try dsimp only at hSw);go_simp;try with_reducible rfl)
   try simp only [put_pack]
   refine tk 21 (v:=?_) rfl (by kernel_rfl) (fun _ _ _ h=>h) (by assumption) ?_ ?_
   rotate_left
   · (intro w hSw;(try dsimp only at hSw);go_simp;try with_reducible rfl)
   try simp only [put_pack]
   refine sk 22 rfl (by kernel_rfl) (fun _ _ _ h=>h) (by assumption) ?_
   try simp only [put_pack]
   refine sk 23 rfl (by kernel_rfl) (fun _ _ _ h=>h) (by assumption) ?_
   try simp only [put_pack]
   refine sk 24 rfl (by kernel_rfl) (fun _ _ _ h=>h) (by assumption) ?_
   try simp only [put_pack]
   refine sk 25 rfl (by kernel_rfl) (fun _ _ _ h=>h) (by assumption) ?_
   try simp only [put_pack]
   refine sk 26 rfl (by kernel_rfl) (fun _ _ _ h=>h) (by assumption) ?_
   try simp only [put_pack]
   refine sk 27 rfl (by kernel_rfl) (fun _ _ _ h=>h) (by assumption) ?_
   try simp only [put_pack]
   refine tk 28 (v:=?_) rfl (by kernel_rfl) (fun _ _ _ h=>h) (by assumption) ?_ ?_
   rotate_left
   · (intro w hSw;(try dsimp only at hSw);go_simp;try with_reducible rfl)
   try simp only [put_pack]
   refine tk 29 (v:=?_) rfl (by kernel_rfl) (fun _ _ _ h=>h) (by assumption) ?_ ?_
   rotate_left
   · (intro w hSw;(try dsimp only at hSw);go_simp;try with_reducible rfl)
   try simp only [put_pack]
   refine wpAnyH_done (by kernel_rfl) ?_ _
   go_simp
   go_wp2_with fail
   go_ret
   exact⟨false,rfl,hXW.trans hX,fun h=>nomatch h⟩
set_option maxRecDepth 100000 in
set_option maxHeartbeats 4000000 in
theorem fin6_r (base loc n wr rd top C D:Int)(w:World)(hb:0<=base/\base<=32768)(hl:0<=loc/\loc<=32768)(hn:1<=n/\n<=8)(hz:0<=C/\C<=6272/\0<=D/\D<=7072)
  (hC:∀ w,Calls Try.prog 16 #[.agg #[.int .i64 6,.int .i64 base,.int .i64 loc,.int .i64 n,.int .i64 wr,.int .i64 rd,.int .i64 top]] w fun e w'=>e=.returned (.int .i64 C)/\Ext w w')
  (hL:∀ w,Calls Try.prog 17 #[.agg #[.int .i64 6,.int .i64 base,.int .i64 loc,.int .i64 n,.int .i64 wr,.int .i64 rd,.int .i64 top]] w fun e w'=>e=.returned (.int .i64 D)/\Ext w w') :
  Calls Try.prog 4 #[.agg #[.int .i64 6,.int .i64 base,.int .i64 loc,.int .i64 n,.int .i64 wr,.int .i64 rd,.int .i64 top]] w (BoolPost w (thrB n wr true=true/\thrB n rd false=true/\True/\1<=top/\top<=1048576/\base+C<=32768/\loc+D<=32768)):=by
 have d1:decide (base<0)=false:=by simpa using hb.1
 have d2:decide (loc<0)=false:=by simpa using hl.1
 have d3:decide (n<1)=false:=by simpa using hn.1
 have d4:decide (8<n)=false:=by simpa using hn.2
 have d5:decide (32768<base)=false:=by simpa using hb.2
 have d6:decide (32768<loc)=false:=by simpa using hl.2
 have hT:=fun w=>thread_b n wr true w
 have hT2:=fun w=>thread_b n rd false w
 have hX:=Ext.refl w
 have b1:=Blk.new w (.cells #[.int .i64 6,.int .i64 base,.int .i64 loc,.int .i64 n,.int .i64 wr,.int .i64 rd,.int .i64 top] 23)
 replace hX:=hX.alloc (.cells #[.int .i64 6,.int .i64 base,.int .i64 loc,.int .i64 n,.int .i64 wr,.int .i64 rd,.int .i64 top] 23)
 have c_b1:=b1.cells
 cases t1:thrB n wr true
 · rw [t1] at hT
   go_enter Try.func4,Try.ntmps4
   go_wp2_with fail
   refine (hT _).mono ?_
   rintro e w' ⟨rfl,rfl⟩
   go_wp2_with fail
   go_ret
   exact⟨false,rfl,hX,fun h=>nomatch h⟩
 rw [t1] at hT
 cases t2:thrB n rd false
 · rw [t2] at hT2
   go_enter Try.func4,Try.ntmps4
   go_wp2_with fail
   refine (hT _).mono ?_
   rintro e w' ⟨rfl,rfl⟩
   go_wp2_with fail
   refine (hT2 _).mono ?_
   rintro e w' ⟨rfl,rfl⟩
   go_wp2_with fail
   go_ret
   exact⟨false,rfl,hX,fun h=>nomatch h⟩
 rw [t2] at hT2
 have h1w:=IntWalk.i64_in (base+C) (by omega)
 have h2w:=IntWalk.i64_in (loc+D) (by omega)
 have hf:∀ b:Bool,(b=true->1<=top/\top<=1048576/\base+C<=32768/\loc+D<=32768)->(b=true->true=true/\true=true/\True/\1<=top/\top<=1048576/\base+C<=32768/\loc+D<=32768):=fun b h hb=>⟨rfl,rfl,trivial,h hb⟩
 have hfh:=Lib.hid hf
 clear hf
 go_enter Try.func4,Try.ntmps4
 go_wp2_with fail
 refine (hT _).mono ?_
 rintro e w' ⟨rfl,rfl⟩
 go_wp2_with fail
 refine (hT2 _).mono ?_
 rintro e w' ⟨rfl,rfl⟩
 clear hT hT2 t1 t2
 go_wp2_with fail
 have k1:=b1.alloc (.cells #[.int .i64 0,.int .i64 1099511627776,.int .i64 1,.int .i64 255,.int .i64 1,.int .i64 1099511627776,.int .i64 1048576,.int .i64 255] 3)
 have k2:=Blk.new (w.alloc (.cells #[.int .i64 6,.int .i64 base,.int .i64 loc,.int .i64 n,.int .i64 wr,.int .i64 rd,.int .i64 top] 23)) (.cells #[.int .i64 0,.int .i64 1099511627776,.int .i64 1,.int .i64 255,.int .i64 1,.int .i64 1099511627776,.int .i64 1048576,.int .i64 255] 3)
 have hXW:=hX.alloc (.cells #[.int .i64 0,.int .i64 1099511627776,.int .i64 1,.int .i64 255,.int .i64 1,.int .i64 1099511627776,.int .i64 1048576,.int .i64 255] 3)
 simp only [World.size_alloc] at k2
 clear b1 c_b1 hX
 generalize World.alloc (World.alloc _ _) _=W at *
 have hX:=(Ext.refl W).drew
 have hS:∀ w',Ext W w'->(∀ i,w'.cell? ⟨w.heap.size,i,none⟩=(#[.int .i64 6,.int .i64 base,.int .i64 loc,.int .i64 n,.int .i64 wr,.int .i64 rd,.int .i64 top]:Array Value)[i]?)/\(∀ i,w'.cell? ⟨w.heap.size+1,i,none⟩=(#[.int .i64 0,.int .i64 1099511627776,.int .i64 1,.int .i64 255,.int .i64 1,.int .i64 1099511627776,.int .i64 1048576,.int .i64 255]:Array Value)[i]?):=fun w' hx=>⟨(k1.ext hx).cells,(k2.ext hx).cells⟩
 by_cases e7:1<=top
 · have d7:decide (1<=top)=true:=by simpa using e7
   by_cases e8:top<=1048576
   · have d8:decide (top<=1048576)=true:=by simpa using e8
     by_cases hc:base+C<=32768
     · have d9:decide (base+C<=32768)=true:=by simpa using hc
       go_region_held2 (fun w'=>(∀ i,w'.cell? ⟨w.heap.size,i,none⟩=(#[.int .i64 6,.int .i64 base,.int .i64 loc,.int .i64 n,.int .i64 wr,.int .i64 rd,.int .i64 top]:Array Value)[i]?)/\(∀ i,w'.cell? ⟨w.heap.size+1,i,none⟩=(#[.int .i64 0,.int .i64 1099511627776,.int .i64 1,.int .i64 255,.int .i64 1,.int .i64 1099511627776,.int .i64 1048576,.int .i64 255]:Array Value)[i]?)) (exact hS _ hX)
       (first
          | (go_at_call 16
             refine (hC _).mono ?_
             rintro e w2 ⟨rfl,hx⟩
             replace hX:=hX.trans hx
             clear hx)
          | (go_at_call 17
             refine (hL _).mono ?_
             rintro e w2 ⟨rfl,hx⟩
             replace hX:=hX.trans hx
             clear hx))
       go_wp2_with fail
       go_ret
       exact⟨_,rfl,hXW.trans hX,hfh.out _ fun h=>⟨e7,e8,hc,by simpa using h⟩⟩
     · have d9:decide (base+C<=32768)=false:=by simpa using hc
       refine wp_region_held_drew (S:=fun w'=>(∀ i,w'.cell? ⟨w.heap.size,i,none⟩=(#[.int .i64 6,.int .i64 base,.int .i64 loc,.int .i64 n,.int .i64 wr,.int .i64 rd,.int .i64 top]:Array Value)[i]?)/\(∀ i,w'.cell? ⟨w.heap.size+1,i,none⟩=(#[.int .i64 0,.int .i64 1099511627776,.int .i64 1,.int .i64 255,.int .i64 1,.int .i64 1099511627776,.int .i64 1048576,.int .i64 255]:Array Value)[i]?)) rfl (hS _ hX) (fun hHeld=>?_)
       refine tkb 0 ?_
       iterate 17
        refine tkn (v:=?_) rfl (by kernel_rfl) (fun _ _ _ h=>h) (by assumption) ?_ ?_
        rotate_left
        · (intro w hSw;(try dsimp only at hSw);go_simp;try with_reducible rfl)
        try simp only [put_pack]
       refine tke ?_
       refine wpAnyH_ready (rs:=[17]) (by kernel_rfl) (by simp) ?_
       refine AllReadyH.cons rfl (fun K hKK=>?_) (AllReadyH.nil)
       go_simp
       refine (hC _).mono ?_
       rintro e w2 ⟨rfl,hx⟩
       replace hX:=hX.trans hx
       clear hx
       refine hKK.out _ _ (hS _ hX) (fun hHeld=>?_)
       clear hKK K
       try dsimp only
       refine tkb 18 ?_
       iterate 4
        refine tkn (v:=?_) rfl (by kernel_rfl) (fun _ _ _ h=>h) (by assumption) ?_ ?_
        rotate_left
        · (intro w hSw;(try dsimp only at hSw);go_simp;try with_reducible rfl)
        try simp only [put_pack]
       refine tke ?_
       refine sk 22 rfl (by kernel_rfl) (fun _ _ _ h=>h) (by assumption) ?_
       try simp only [put_pack]
       refine sk 23 rfl (by kernel_rfl) (fun _ _ _ h=>h) (by assumption) ?_
       try simp only [put_pack]
       refine sk 24 rfl (by kernel_rfl) (fun _ _ _ h=>h) (by assumption) ?_
       try simp only [put_pack]
       refine sk 25 rfl (by kernel_rfl) (fun _ _ _ h=>h) (by assumption) ?_
       try simp only [put_pack]
       refine sk 26 rfl (by kernel_rfl) (fun _ _ _ h=>h) (by assumption) ?_
       try simp only [put_pack]
       refine sk 27 rfl (by kernel_rfl) (fun _ _ _ h=>h) (by assumption) ?_
       try simp only [put_pack]
       refine tk 28 (v:=?_) rfl (by kernel_rfl) (fun _ _ _ h=>h) (by assumption) ?_ ?_
       rotate_left
       · (intro w hSw;(try dsimp only at hSw);go_simp;try with_reducible rfl)
       try simp only [put_pack]
       refine tk 29 (v:=?_) rfl (by kernel_rfl) (fun _ _ _ h=>h) (by assumption) ?_ ?_
       rotate_left
       · (intro w hSw;(try dsimp only at hSw);go_simp;try with_reducible rfl)
       try simp only [put_pack]
       refine wpAnyH_done (by kernel_rfl) ?_ _
       go_simp
       go_wp2_with fail
       go_ret
       exact⟨false,rfl,hXW.trans hX,fun h=>nomatch h⟩
   · have d8:decide (top<=1048576)=false:=by simpa using e8
     refine wp_region_held_drew (S:=fun w'=>(∀ i,w'.cell? ⟨w.heap.size,i,none⟩=(#[.int .i64 6,.int .i64 base,.int .i64 loc,.int .i64 n,.int .i64 wr,.int .i64 rd,.int .i64 top]:Array Value)[i]?)/\(∀ i,w'.cell? ⟨w.heap.size+1,i,none⟩=(#[.int .i64 0,.int .i64 1099511627776,.int .i64 1,.int .i64 255,.int .i64 1,.int .i64 1099511627776,.int .i64 1048576,.int .i64 255]:Array Value)[i]?)) rfl (hS _ hX) (fun hHeld=>?_)
     refine tkb 0 ?_
     iterate 14
      refine tkn (v:=?_) rfl (by kernel_rfl) (fun _ _ _ h=>h) (by assumption) ?_ ?_
      rotate_left
      · (intro w hSw;(try dsimp only at hSw);go_simp;try with_reducible rfl)
      try simp only [put_pack]
     refine tke ?_
     refine sk 14 rfl (by kernel_rfl) (fun _ _ _ h=>h) (by assumption) ?_
     try simp only [put_pack]
     refine sk 15 rfl (by kernel_rfl) (fun _ _ _ h=>h) (by assumption) ?_
     try simp only [put_pack]
     refine sk 16 rfl (by kernel_rfl) (fun _ _ _ h=>h) (by assumption) ?_
     try simp only [put_pack]
     refine sk 17 rfl (by kernel_rfl) (fun _ _ _ h=>h) (by assumption) ?_
     try simp only [put_pack]
     refine sk 18 rfl (by kernel_rfl) (fun _ _ _ h=>h) (by assumption) ?_
     try simp only [put_pack]
     refine sk 19 rfl (by kernel_rfl) (fun _ _ _ h=>h) (by assumption) ?_
     try simp only [put_pack]
     refine tk 20 (v:=?_) rfl (by kernel_rfl) (fun _ _ _ h=>h) (by assumption) ?_ ?_
     rotate_left
     · (intro w hSw;(try dsimp only at hSw);go_simp;try with_reducible rfl)
     try simp only [put_pack]
     refine tk 21 (v:=?_) rfl (by kernel_rfl) (fun _ _ _ h=>h) (by assumption) ?_ ?_
     rotate_left
     · (intro w hSw;(try dsimp only at hSw);go_simp;try with_reducible rfl)
     try simp only [put_pack]
     refine sk 22 rfl (by kernel_rfl) (fun _ _ _ h=>h) (by assumption) ?_
     try simp only [put_pack]
     refine sk 23 rfl (by kernel_rfl) (fun _ _ _ h=>h) (by assumption) ?_
     try simp only [put_pack]
     refine sk 24 rfl (by kernel_rfl) (fun _ _ _ h=>h) (by assumption) ?_
     try simp only [put_pack]
     refine sk 25 rfl (by kernel_rfl) (fun _ _ _ h=>h) (by assumption) ?_
     try simp only [put_pack]
     refine sk 26 rfl (by kernel_rfl) (fun _ _ _ h=>h) (by assumption) ?_
     try simp only [put_pack]
     refine sk 27 rfl (by kernel_rfl) (fun _ _ _ h=>h) (by assumption) ?_
     try simp only [put_pack]
     refine tk 28 (v:=?_) rfl (by kernel_rfl) (fun _ _ _ h=>h) (by assumption) ?_ ?_
     rotate_left
     · (intro w hSw;(try dsimp only at hSw);go_simp;try with_reducible rfl)
     try simp only [put_pack]
     refine tk 29 (v:=?_) rfl (by kernel_rfl) (fun _ _ _ h=>h) (by assumption) ?_ ?_
     rotate_left
     · (intro w hSw;(try dsimp only at hSw);go_simp;try with_reducible rfl)
     try simp only [put_pack]
     refine wpAnyH_done (by kernel_rfl) ?_ _
     go_simp
     go_wp2_with fail
     go_ret
     exact⟨false,rfl,hXW.trans hX,fun h=>nomatch h⟩
 · have d7:decide (1<=top)=false:=by simpa using e7
   refine wp_region_held_drew (S:=fun w'=>(∀ i,w'.cell? ⟨w.heap.size,i,none⟩=(#[.int .i64 6,.int .i64 base,.int .i64 loc,.int .i64 n,.int .i64 wr,.int .i64 rd,.int .i64 top]:Array Value)[i]?)/\(∀ i,w'.cell? ⟨w.heap.size+1,i,none⟩=(#[.int .i64 0,.int .i64 1099511627776,.int .i64 1,.int .i64 255,.int .i64 1,.int .i64 1099511627776,.int .i64 1048576,.int .i64 255]:Array Value)[i]?)) rfl (hS _ hX) (fun hHeld=>?_)
   refine tkb 0 ?_
   iterate 4
    refine tkn (v:=?_) rfl (by kernel_rfl) (fun _ _ _ h=>h) (by assumption) ?_ ?_
    rotate_left
    · (intro w hSw;(try dsimp only at hSw);go_simp;try with_reducible rfl)
    try simp only [put_pack]
   refine tke ?_
   refine sk 4 rfl (by kernel_rfl) (fun _ _ _ h=>h) (by assumption) ?_
   try simp only [put_pack]
   refine sk 5 rfl (by kernel_rfl) (fun _ _ _ h=>h) (by assumption) ?_
   try simp only [put_pack]
   refine sk 6 rfl (by kernel_rfl) (fun _ _ _ h=>h) (by assumption) ?_
   try simp only [put_pack]
   refine sk 7 rfl (by kernel_rfl) (fun _ _ _ h=>h) (by assumption) ?_
   try simp only [put_pack]
   refine sk 8 rfl (by kernel_rfl) (fun _ _ _ h=>h) (by assumption) ?_
   try simp only [put_pack]
   refine sk 9 rfl (by kernel_rfl) (fun _ _ _ h=>h) (by assumption) ?_
   try simp only [put_pack]
   refine sk 10 rfl (by kernel_rfl) (fun _ _ _ h=>h) (by assumption) ?_
   try simp only [put_pack]
   refine sk 11 rfl (by kernel_rfl) (fun _ _ _ h=>h) (by assumption) ?_
   try simp only [put_pack]
   refine tk 12 (v:=?_) rfl (by kernel_rfl) (fun _ _ _ h=>h) (by assumption) ?_ ?_
   rotate_left
   · (intro w hSw;(try dsimp only at hSw);go_simp;try with_reducible rfl)
   try simp only [put_pack]
   refine tk 13 (v:=?_) rfl (by kernel_rfl) (fun _ _ _ h=>h) (by assumption) ?_ ?_
   rotate_left
   · (intro w hSw;(try dsimp only at hSw);go_simp;try with_reducible rfl)
   try simp only [put_pack]
   refine sk 14 rfl (by kernel_rfl) (fun _ _ _ h=>h) (by assumption) ?_
   try simp only [put_pack]
   refine sk 15 rfl (by kernel_rfl) (fun _ _ _ h=>h) (by assumption) ?_
   try simp only [put_pack]
   refine sk 16 rfl (by kernel_rfl) (fun _ _ _ h=>h) (by assumption) ?_
   try simp only [put_pack]
   refine sk 17 rfl (by kernel_rfl) (fun _ _ _ h=>h) (by assumption) ?_
   try simp only [put_pack]
   refine sk 18 rfl (by kernel_rfl) (fun _ _ _ h=>h) (by assumption) ?_
   try simp only [put_pack]
   refine sk 19 rfl (by kernel_rfl) (fun _ _ _ h=>h) (by assumption) ?_
   try simp only [put_pack]
   refine tk 20 (v:=?_) rfl (by kernel_rfl) (fun _ _ _ h=>h) (by assumption) ?_ ?_
   rotate_left
   · (intro w hSw;(try dsimp only at hSw);go_simp;try with_reducible rfl)
   try simp only [put_pack]
   refine tk 21 (v:=?_) rfl (by kernel_rfl) (fun _ _ _ h=>h) (by assumption) ?_ ?_
   rotate_left
   · (intro w hSw;(try dsimp only at hSw);go_simp;try with_reducible rfl)
   try simp only [put_pack]
   refine sk 22 rfl (by kernel_rfl) (fun _ _ _ h=>h) (by assumption) ?_
   try simp only [put_pack]
   refine sk 23 rfl (by kernel_rfl) (fun _ _ _ h=>h) (by assumption) ?_
   try simp only [put_pack]
   refine sk 24 rfl (by kernel_rfl) (fun _ _ _ h=>h) (by assumption) ?_
   try simp only [put_pack]
   refine sk 25 rfl (by kernel_rfl) (fun _ _ _ h=>h) (by assumption) ?_
   try simp only [put_pack]
   refine sk 26 rfl (by kernel_rfl) (fun _ _ _ h=>h) (by assumption) ?_
   try simp only [put_pack]
   refine sk 27 rfl (by kernel_rfl) (fun _ _ _ h=>h) (by assumption) ?_
   try simp only [put_pack]
   refine tk 28 (v:=?_) rfl (by kernel_rfl) (fun _ _ _ h=>h) (by assumption) ?_ ?_
   rotate_left
   · (intro w hSw;(try dsimp only at hSw);go_simp;try with_reducible rfl)
   try simp only [put_pack]
   refine tk 29 (v:=?_) rfl (by kernel_rfl) (fun _ _ _ h=>h) (by assumption) ?_ ?_
   rotate_left
   · (intro w hSw;(try dsimp only at hSw);go_simp;try with_reducible rfl)
   try simp only [put_pack]
   refine wpAnyH_done (by kernel_rfl) ?_ _
   go_simp
   go_wp2_with fail
   go_ret
   exact⟨false,rfl,hXW.trans hX,fun h=>nomatch h⟩
set_option maxRecDepth 100000 in
set_option maxHeartbeats 4000000 in
theorem fin7_r (base loc n wr rd top C D:Int)(w:World)(hb:0<=base/\base<=32768)(hl:0<=loc/\loc<=32768)(hn:1<=n/\n<=8)(hz:0<=C/\C<=6272/\0<=D/\D<=7072)
  (hC:∀ w,Calls Try.prog 16 #[.agg #[.int .i64 7,.int .i64 base,.int .i64 loc,.int .i64 n,.int .i64 wr,.int .i64 rd,.int .i64 top]] w fun e w'=>e=.returned (.int .i64 C)/\Ext w w')
  (hL:∀ w,Calls Try.prog 17 #[.agg #[.int .i64 7,.int .i64 base,.int .i64 loc,.int .i64 n,.int .i64 wr,.int .i64 rd,.int .i64 top]] w fun e w'=>e=.returned (.int .i64 D)/\Ext w w') :
  Calls Try.prog 4 #[.agg #[.int .i64 7,.int .i64 base,.int .i64 loc,.int .i64 n,.int .i64 wr,.int .i64 rd,.int .i64 top]] w (BoolPost w (thrB n wr false=true/\thrB n rd false=true/\True/\1<=top/\top<=255/\base+C<=32768/\loc+D<=32768)):=by
 have d1:decide (base<0)=false:=by simpa using hb.1
 have d2:decide (loc<0)=false:=by simpa using hl.1
 have d3:decide (n<1)=false:=by simpa using hn.1
 have d4:decide (8<n)=false:=by simpa using hn.2
 have d5:decide (32768<base)=false:=by simpa using hb.2
 have d6:decide (32768<loc)=false:=by simpa using hl.2
 have hT:=fun w=>thread_b n wr false w
 have hT2:=fun w=>thread_b n rd false w
 have hX:=Ext.refl w
 have b1:=Blk.new w (.cells #[.int .i64 7,.int .i64 base,.int .i64 loc,.int .i64 n,.int .i64 wr,.int .i64 rd,.int .i64 top] 23)
 replace hX:=hX.alloc (.cells #[.int .i64 7,.int .i64 base,.int .i64 loc,.int .i64 n,.int .i64 wr,.int .i64 rd,.int .i64 top] 23)
 have c_b1:=b1.cells
 cases t1:thrB n wr false
 · rw [t1] at hT
   go_enter Try.func4,Try.ntmps4
   go_wp2_with fail
   refine (hT _).mono ?_
   rintro e w' ⟨rfl,rfl⟩
   go_wp2_with fail
   go_ret
   exact⟨false,rfl,hX,fun h=>nomatch h⟩
 rw [t1] at hT
 cases t2:thrB n rd false
 · rw [t2] at hT2
   go_enter Try.func4,Try.ntmps4
   go_wp2_with fail
   refine (hT _).mono ?_
   rintro e w' ⟨rfl,rfl⟩
   go_wp2_with fail
   refine (hT2 _).mono ?_
   rintro e w' ⟨rfl,rfl⟩
   go_wp2_with fail
   go_ret
   exact⟨false,rfl,hX,fun h=>nomatch h⟩
 rw [t2] at hT2
 have h1w:=IntWalk.i64_in (base+C) (by omega)
 have h2w:=IntWalk.i64_in (loc+D) (by omega)
 have hf:∀ b:Bool,(b=true->1<=top/\top<=255/\base+C<=32768/\loc+D<=32768)->(b=true->true=true/\true=true/\True/\1<=top/\top<=255/\base+C<=32768/\loc+D<=32768):=fun b h hb=>⟨rfl,rfl,trivial,h hb⟩
 have hfh:=Lib.hid hf
 clear hf
 go_enter Try.func4,Try.ntmps4
 go_wp2_with fail
 refine (hT _).mono ?_
 rintro e w' ⟨rfl,rfl⟩
 go_wp2_with fail
 refine (hT2 _).mono ?_
 rintro e w' ⟨rfl,rfl⟩
 clear hT hT2 t1 t2
 go_wp2_with fail
 have k1:=b1.alloc (.cells #[.int .i64 0,.int .i64 1099511627776,.int .i64 1,.int .i64 255,.int .i64 1,.int .i64 1099511627776,.int .i64 1048576,.int .i64 255] 3)
 have k2:=Blk.new (w.alloc (.cells #[.int .i64 7,.int .i64 base,.int .i64 loc,.int .i64 n,.int .i64 wr,.int .i64 rd,.int .i64 top] 23)) (.cells #[.int .i64 0,.int .i64 1099511627776,.int .i64 1,.int .i64 255,.int .i64 1,.int .i64 1099511627776,.int .i64 1048576,.int .i64 255] 3)
 have hXW:=hX.alloc (.cells #[.int .i64 0,.int .i64 1099511627776,.int .i64 1,.int .i64 255,.int .i64 1,.int .i64 1099511627776,.int .i64 1048576,.int .i64 255] 3)
 simp only [World.size_alloc] at k2
 clear b1 c_b1 hX
 generalize World.alloc (World.alloc _ _) _=W at *
 have hX:=(Ext.refl W).drew
 have hS:∀ w',Ext W w'->(∀ i,w'.cell? ⟨w.heap.size,i,none⟩=(#[.int .i64 7,.int .i64 base,.int .i64 loc,.int .i64 n,.int .i64 wr,.int .i64 rd,.int .i64 top]:Array Value)[i]?)/\(∀ i,w'.cell? ⟨w.heap.size+1,i,none⟩=(#[.int .i64 0,.int .i64 1099511627776,.int .i64 1,.int .i64 255,.int .i64 1,.int .i64 1099511627776,.int .i64 1048576,.int .i64 255]:Array Value)[i]?):=fun w' hx=>⟨(k1.ext hx).cells,(k2.ext hx).cells⟩
 by_cases e7:1<=top
 · have d7:decide (1<=top)=true:=by simpa using e7
   by_cases e8:top<=255
   · have d8:decide (top<=255)=true:=by simpa using e8
     by_cases hc:base+C<=32768
     · have d9:decide (base+C<=32768)=true:=by simpa using hc
       go_region_held2 (fun w'=>(∀ i,w'.cell? ⟨w.heap.size,i,none⟩=(#[.int .i64 7,.int .i64 base,.int .i64 loc,.int .i64 n,.int .i64 wr,.int .i64 rd,.int .i64 top]:Array Value)[i]?)/\(∀ i,w'.cell? ⟨w.heap.size+1,i,none⟩=(#[.int .i64 0,.int .i64 1099511627776,.int .i64 1,.int .i64 255,.int .i64 1,.int .i64 1099511627776,.int .i64 1048576,.int .i64 255]:Array Value)[i]?)) (exact hS _ hX)
       (first
          | (go_at_call 16
             refine (hC _).mono ?_
             rintro e w2 ⟨rfl,hx⟩
             replace hX:=hX.trans hx
             clear hx)
          | (go_at_call 17
             refine (hL _).mono ?_
             rintro e w2 ⟨rfl,hx⟩
             replace hX:=hX.trans hx
             clear hx))
       go_wp2_with fail
       go_ret
       exact⟨_,rfl,hXW.trans hX,hfh.out _ fun h=>⟨e7,e8,hc,by simpa using h⟩⟩
     · have d9:decide (base+C<=32768)=false:=by simpa using hc
       refine wp_region_held_drew (S:=fun w'=>(∀ i,w'.cell? ⟨w.heap.size,i,none⟩=(#[.int .i64 7,.int .i64 base,.int .i64 loc,.int .i64 n,.int .i64 wr,.int .i64 rd,.int .i64 top]:Array Value)[i]?)/\(∀ i,w'.cell? ⟨w.heap.size+1,i,none⟩=(#[.int .i64 0,.int .i64 1099511627776,.int .i64 1,.int .i64 255,.int .i64 1,.int .i64 1099511627776,.int .i64 1048576,.int .i64 255]:Array Value)[i]?)) rfl (hS _ hX) (fun hHeld=>?_)
       refine tkb 0 ?_
       iterate 17
        refine tkn (v:=?_) rfl (by kernel_rfl) (fun _ _ _ h=>h) (by assumption) ?_ ?_
        rotate_left
        · (intro w hSw;(try dsimp only at hSw);go_simp;try with_reducible rfl)
        try simp only [put_pack]
       refine tke ?_
       refine wpAnyH_ready (rs:=[17]) (by kernel_rfl) (by simp) ?_
       refine AllReadyH.cons rfl (fun K hKK=>?_) (AllReadyH.nil)
       go_simp
       refine (hC _).mono ?_
       rintro e w2 ⟨rfl,hx⟩
       replace hX:=hX.trans hx
       clear hx
       refine hKK.out _ _ (hS _ hX) (fun hHeld=>?_)
       clear hKK K
       try dsimp only
       refine tkb 18 ?_
       iterate 4
        refine tkn (v:=?_) rfl (by kernel_rfl) (fun _ _ _ h=>h) (by assumption) ?_ ?_
        rotate_left
        · (intro w hSw;(try dsimp only at hSw);go_simp;try with_reducible rfl)
        try simp only [put_pack]
       refine tke ?_
       refine sk 22 rfl (by kernel_rfl) (fun _ _ _ h=>h) (by assumption) ?_
       try simp only [put_pack]
       refine sk 23 rfl (by kernel_rfl) (fun _ _ _ h=>h) (by assumption) ?_
       try simp only [put_pack]
       refine sk 24 rfl (by kernel_rfl) (fun _ _ _ h=>h) (by assumption) ?_
       try simp only [put_pack]
       refine sk 25 rfl (by kernel_rfl) (fun _ _ _ h=>h) (by assumption) ?_
       try simp only [put_pack]
       refine sk 26 rfl (by kernel_rfl) (fun _ _ _ h=>h) (by assumption) ?_
       try simp only [put_pack]
       refine sk 27 rfl (by kernel_rfl) (fun _ _ _ h=>h) (by assumption) ?_
       try simp only [put_pack]
       refine tk 28 (v:=?_) rfl (by kernel_rfl) (fun _ _ _ h=>h) (by assumption) ?_ ?_
       rotate_left
       · (intro w hSw;(try dsimp only at hSw);go_simp;try with_reducible rfl)
       try simp only [put_pack]
       refine tk 29 (v:=?_) rfl (by kernel_rfl) (fun _ _ _ h=>h) (by assumption) ?_ ?_
       rotate_left
       · (intro w hSw;(try dsimp only at hSw);go_simp;try with_reducible rfl)
       try simp only [put_pack]
       refine wpAnyH_done (by kernel_rfl) ?_ _
       go_simp
       go_wp2_with fail
       go_ret
       exact⟨false,rfl,hXW.trans hX,fun h=>nomatch h⟩
   · have d8:decide (top<=255)=false:=by simpa using e8
     refine wp_region_held_drew (S:=fun w'=>(∀ i,w'.cell? ⟨w.heap.size,i,none⟩=(#[.int .i64 7,.int .i64 base,.int .i64 loc,.int .i64 n,.int .i64 wr,.int .i64 rd,.int .i64 top]:Array Value)[i]?)/\(∀ i,w'.cell? ⟨w.heap.size+1,i,none⟩=(#[.int .i64 0,.int .i64 1099511627776,.int .i64 1,.int .i64 255,.int .i64 1,.int .i64 1099511627776,.int .i64 1048576,.int .i64 255]:Array Value)[i]?)) rfl (hS _ hX) (fun hHeld=>?_)
     refine tkb 0 ?_
     iterate 14
      refine tkn (v:=?_) rfl (by kernel_rfl) (fun _ _ _ h=>h) (by assumption) ?_ ?_
      rotate_left
      · (intro w hSw;(try dsimp only at hSw);go_simp;try with_reducible rfl)
      try simp only [put_pack]
     refine tke ?_
     refine sk 14 rfl (by kernel_rfl) (fun _ _ _ h=>h) (by assumption) ?_
     try simp only [put_pack]
     refine sk 15 rfl (by kernel_rfl) (fun _ _ _ h=>h) (by assumption) ?_
     try simp only [put_pack]
     refine sk 16 rfl (by kernel_rfl) (fun _ _ _ h=>h) (by assumption) ?_
     try simp only [put_pack]
     refine sk 17 rfl (by kernel_rfl) (fun _ _ _ h=>h) (by assumption) ?_
     try simp only [put_pack]
     refine sk 18 rfl (by kernel_rfl) (fun _ _ _ h=>h) (by assumption) ?_
     try simp only [put_pack]
     refine sk 19 rfl (by kernel_rfl) (fun _ _ _ h=>h) (by assumption) ?_
     try simp only [put_pack]
     refine tk 20 (v:=?_) rfl (by kernel_rfl) (fun _ _ _ h=>h) (by assumption) ?_ ?_
     rotate_left
     · (intro w hSw;(try dsimp only at hSw);go_simp;try with_reducible rfl)
     try simp only [put_pack]
     refine tk 21 (v:=?_) rfl (by kernel_rfl) (fun _ _ _ h=>h) (by assumption) ?_ ?_
     rotate_left
     · (intro w hSw;(try dsimp only at hSw);go_simp;try with_reducible rfl)
     try simp only [put_pack]
     refine sk 22 rfl (by kernel_rfl) (fun _ _ _ h=>h) (by assumption) ?_
     try simp only [put_pack]
     refine sk 23 rfl (by kernel_rfl) (fun _ _ _ h=>h) (by assumption) ?_
     try simp only [put_pack]
     refine sk 24 rfl (by kernel_rfl) (fun _ _ _ h=>h) (by assumption) ?_
     try simp only [put_pack]
     refine sk 25 rfl (by kernel_rfl) (fun _ _ _ h=>h) (by assumption) ?_
     try simp only [put_pack]
     refine sk 26 rfl (by kernel_rfl) (fun _ _ _ h=>h) (by assumption) ?_
     try simp only [put_pack]
     refine sk 27 rfl (by kernel_rfl) (fun _ _ _ h=>h) (by assumption) ?_
     try simp only [put_pack]
     refine tk 28 (v:=?_) rfl (by kernel_rfl) (fun _ _ _ h=>h) (by assumption) ?_ ?_
     rotate_left
     · (intro w hSw;(try dsimp only at hSw);go_simp;try with_reducible rfl)
     try simp only [put_pack]
     refine tk 29 (v:=?_) rfl (by kernel_rfl) (fun _ _ _ h=>h) (by assumption) ?_ ?_
     rotate_left
     · (intro w hSw;(try dsimp only at hSw);go_simp;try with_reducible rfl)
     try simp only [put_pack]
     refine wpAnyH_done (by kernel_rfl) ?_ _
     go_simp
     go_wp2_with fail
     go_ret
     exact⟨false,rfl,hXW.trans hX,fun h=>nomatch h⟩
 · have d7:decide (1<=top)=false:=by simpa using e7
   refine wp_region_held_drew (S:=fun w'=>(∀ i,w'.cell? ⟨w.heap.size,i,none⟩=(#[.int .i64 7,.int .i64 base,.int .i64 loc,.int .i64 n,.int .i64 wr,.int .i64 rd,.int .i64 top]:Array Value)[i]?)/\(∀ i,w'.cell? ⟨w.heap.size+1,i,none⟩=(#[.int .i64 0,.int .i64 1099511627776,.int .i64 1,.int .i64 255,.int .i64 1,.int .i64 1099511627776,.int .i64 1048576,.int .i64 255]:Array Value)[i]?)) rfl (hS _ hX) (fun hHeld=>?_)
   refine tkb 0 ?_
   iterate 4
    refine tkn (v:=?_) rfl (by kernel_rfl) (fun _ _ _ h=>h) (by assumption) ?_ ?_
    rotate_left
    · (intro w hSw;(try dsimp only at hSw);go_simp;try with_reducible rfl)
    try simp only [put_pack]
   refine tke ?_
   refine sk 4 rfl (by kernel_rfl) (fun _ _ _ h=>h) (by assumption) ?_
   try simp only [put_pack]
   refine sk 5 rfl (by kernel_rfl) (fun _ _ _ h=>h) (by assumption) ?_
   try simp only [put_pack]
   refine sk 6 rfl (by kernel_rfl) (fun _ _ _ h=>h) (by assumption) ?_
   try simp only [put_pack]
   refine sk 7 rfl (by kernel_rfl) (fun _ _ _ h=>h) (by assumption) ?_
   try simp only [put_pack]
   refine sk 8 rfl (by kernel_rfl) (fun _ _ _ h=>h) (by assumption) ?_
   try simp only [put_pack]
   refine sk 9 rfl (by kernel_rfl) (fun _ _ _ h=>h) (by assumption) ?_
   try simp only [put_pack]
   refine sk 10 rfl (by kernel_rfl) (fun _ _ _ h=>h) (by assumption) ?_
   try simp only [put_pack]
   refine sk 11 rfl (by kernel_rfl) (fun _ _ _ h=>h) (by assumption) ?_
   try simp only [put_pack]
   refine tk 12 (v:=?_) rfl (by kernel_rfl) (fun _ _ _ h=>h) (by assumption) ?_ ?_
   rotate_left
   · (intro w hSw;(try dsimp only at hSw);go_simp;try with_reducible rfl)
   try simp only [put_pack]
   refine tk 13 (v:=?_) rfl (by kernel_rfl) (fun _ _ _ h=>h) (by assumption) ?_ ?_
   rotate_left
   · (intro w hSw;(try dsimp only at hSw);go_simp;try with_reducible rfl)
   try simp only [put_pack]
   refine sk 14 rfl (by kernel_rfl) (fun _ _ _ h=>h) (by assumption) ?_
   try simp only [put_pack]
   refine sk 15 rfl (by kernel_rfl) (fun _ _ _ h=>h) (by assumption) ?_
   try simp only [put_pack]
   refine sk 16 rfl (by kernel_rfl) (fun _ _ _ h=>h) (by assumption) ?_
   try simp only [put_pack]
   refine sk 17 rfl (by kernel_rfl) (fun _ _ _ h=>h) (by assumption) ?_
   try simp only [put_pack]
   refine sk 18 rfl (by kernel_rfl) (fun _ _ _ h=>h) (by assumption) ?_
   try simp only [put_pack]
   refine sk 19 rfl (by kernel_rfl) (fun _ _ _ h=>h) (by assumption) ?_
   try simp only [put_pack]
   refine tk 20 (v:=?_) rfl (by kernel_rfl) (fun _ _ _ h=>h) (by assumption) ?_ ?_
   rotate_left
   · (intro w hSw;(try dsimp only at hSw);go_simp;try with_reducible rfl)
   try simp only [put_pack]
   refine tk 21 (v:=?_) rfl (by kernel_rfl) (fun _ _ _ h=>h) (by assumption) ?_ ?_
   rotate_left
   · (intro w hSw;(try dsimp only at hSw);go_simp;try with_reducible rfl)
   try simp only [put_pack]
   refine sk 22 rfl (by kernel_rfl) (fun _ _ _ h=>h) (by assumption) ?_
   try simp only [put_pack]
   refine sk 23 rfl (by kernel_rfl) (fun _ _ _ h=>h) (by assumption) ?_
   try simp only [put_pack]
   refine sk 24 rfl (by kernel_rfl) (fun _ _ _ h=>h) (by assumption) ?_
   try simp only [put_pack]
   refine sk 25 rfl (by kernel_rfl) (fun _ _ _ h=>h) (by assumption) ?_
   try simp only [put_pack]
   refine sk 26 rfl (by kernel_rfl) (fun _ _ _ h=>h) (by assumption) ?_
   try simp only [put_pack]
   refine sk 27 rfl (by kernel_rfl) (fun _ _ _ h=>h) (by assumption) ?_
   try simp only [put_pack]
   refine tk 28 (v:=?_) rfl (by kernel_rfl) (fun _ _ _ h=>h) (by assumption) ?_ ?_
   rotate_left
   · (intro w hSw;(try dsimp only at hSw);go_simp;try with_reducible rfl)
   try simp only [put_pack]
   refine tk 29 (v:=?_) rfl (by kernel_rfl) (fun _ _ _ h=>h) (by assumption) ?_ ?_
   rotate_left
   · (intro w hSw;(try dsimp only at hSw);go_simp;try with_reducible rfl)
   try simp only [put_pack]
   refine wpAnyH_done (by kernel_rfl) ?_ _
   go_simp
   go_wp2_with fail
   go_ret
   exact⟨false,rfl,hXW.trans hX,fun h=>nomatch h⟩
set_option maxRecDepth 100000 in
set_option maxHeartbeats 4000000 in
theorem fine17_r (r:Reg)(w:World):Calls Try.prog 4 #[encR r] w (BoolPost w (Fine7 r/\r.base+cells7 r<=32768/\r.loc+locals7 r<=32768)):=by
 by_cases h:(1<=r.kind/\r.kind<=7)/\(0<=r.base/\r.base<=32768)/\(0<=r.loc/\r.loc<=32768)/\(1<=r.n/\r.n<=8)
 · obtain⟨hk,hb,hl,hn⟩:=h
   have hC:=fun w=>cells17_r r w hk hn
   have hL:=fun w=>locals17_r r w hk hn
   have hz:=cells7_bd hn
   have hF:∀ b:Bool,(b=true->(r.kind=6->0<=r.wr/\r.wr<r.n)/\r.base+cells7 r<=32768/\r.loc+locals7 r<=32768)->(b=true->Fine7 r/\r.base+cells7 r<=32768/\r.loc+locals7 r<=32768) :=
    fun b h hb2=>⟨⟨by omega,hb,hl,hn,(h hb2).1⟩,(h hb2).2⟩
   have hthr:∀ t,thrB r.n t true=true->0<=t/\t<r.n:=fun t h=>by
    unfold thrB at h
    simpa using h
   obtain⟨kind,base,loc,n,wr,rd,top⟩:=r
   simp only at hk hb hl hn hF hthr
   have hk2:kind=1∨kind=2∨kind=3∨kind=4∨kind=5∨kind=6∨kind=7:=by omega
   unfold encR at hC hL ⊢
   simp only at hC hL
   rcases hk2 with rfl | rfl | rfl | rfl | rfl | rfl | rfl
   · exact (fin1_r base loc n wr rd top _ _ w hb hl hn hz hC hL).mono fun _ _ ⟨b,he,hx,hf⟩=>⟨b,he,hx,hF b fun e=>⟨fun h=>by omega,(hf e).2.2.2.2.2⟩⟩
   · exact (fin2_r base loc n wr rd top _ _ w hb hl hn hz hC hL).mono fun _ _ ⟨b,he,hx,hf⟩=>⟨b,he,hx,hF b fun e=>⟨fun h=>by omega,(hf e).2.2.2.2.2⟩⟩
   · exact (fin3_r base loc n wr rd top _ _ w hb hl hn hz hC hL).mono fun _ _ ⟨b,he,hx,hf⟩=>⟨b,he,hx,hF b fun e=>⟨fun h=>by omega,(hf e).2.2.2.2.2⟩⟩
   · exact (fin4_r base loc n wr rd top _ _ w hb hl hn hz hC hL).mono fun _ _ ⟨b,he,hx,hf⟩=>⟨b,he,hx,hF b fun e=>⟨fun h=>by omega,(hf e).2.2.2.2.2⟩⟩
   · exact (fin5_r base loc n wr rd top _ _ w hb hl hn hz hC hL).mono fun _ _ ⟨b,he,hx,hf⟩=>⟨b,he,hx,hF b fun e=>⟨fun h=>by omega,(hf e).2.2.2.2.2⟩⟩
   · exact (fin6_r base loc n wr rd top _ _ w hb hl hn hz hC hL).mono fun _ _ ⟨b,he,hx,hf⟩=>⟨b,he,hx,hF b fun e=>⟨fun _=>hthr _ (hf e).1,(hf e).2.2.2.2.2⟩⟩
   · exact (fin7_r base loc n wr rd top _ _ w hb hl hn hz hC hL).mono fun _ _ ⟨b,he,hx,hf⟩=>⟨b,he,hx,hF b fun e=>⟨fun h=>by omega,(hf e).2.2.2.2.2⟩⟩
 · obtain⟨kind,base,loc,n,wr,rd,top⟩:=r
   simp only at h
   unfold encR
   have hX:=Ext.refl w
   have b1:=Blk.new w (.cells #[.int .i64 kind,.int .i64 base,.int .i64 loc,.int .i64 n,.int .i64 wr,.int .i64 rd,.int .i64 top] 23)
   replace hX:=hX.alloc (.cells #[.int .i64 kind,.int .i64 base,.int .i64 loc,.int .i64 n,.int .i64 wr,.int .i64 rd,.int .i64 top] 23)
   have c_b1:=b1.cells
   go_enter Try.func4,Try.ntmps4
   by_cases a1:kind<1
   · have d1:decide (kind<1)=true:=by simpa using a1
     go_wp2_with fail
     go_ret
     exact⟨false,rfl,hX,fun h=>nomatch h⟩
   have c1:decide (kind<1)=false:=by simpa using a1
   by_cases a2:7<kind
   · have d1:decide (7<kind)=true:=by simpa using a2
     go_wp2_with fail
     go_ret
     exact⟨false,rfl,hX,fun h=>nomatch h⟩
   have c2:decide (7<kind)=false:=by simpa using a2
   by_cases a3:base<0
   · have d1:decide (base<0)=true:=by simpa using a3
     go_wp2_with fail
     go_ret
     exact⟨false,rfl,hX,fun h=>nomatch h⟩
   have c3:decide (base<0)=false:=by simpa using a3
   by_cases a4:loc<0
   · have d1:decide (loc<0)=true:=by simpa using a4
     go_wp2_with fail
     go_ret
     exact⟨false,rfl,hX,fun h=>nomatch h⟩
   have c4:decide (loc<0)=false:=by simpa using a4
   by_cases a5:n<1
   · have d1:decide (n<1)=true:=by simpa using a5
     go_wp2_with fail
     go_ret
     exact⟨false,rfl,hX,fun h=>nomatch h⟩
   have c5:decide (n<1)=false:=by simpa using a5
   by_cases a6:8<n
   · have d1:decide (8<n)=true:=by simpa using a6
     go_wp2_with fail
     go_ret
     exact⟨false,rfl,hX,fun h=>nomatch h⟩
   have c6:decide (8<n)=false:=by simpa using a6
   by_cases a7:32768<base
   · have d1:decide (32768<base)=true:=by simpa using a7
     go_wp2_with fail
     go_ret
     exact⟨false,rfl,hX,fun h=>nomatch h⟩
   have c7:decide (32768<base)=false:=by simpa using a7
   by_cases a8:32768<loc
   · have d1:decide (32768<loc)=true:=by simpa using a8
     go_wp2_with fail
     go_ret
     exact⟨false,rfl,hX,fun h=>nomatch h⟩
   exact absurd ⟨⟨by omega,by omega⟩,⟨by omega,by omega⟩,⟨by omega,by omega⟩,⟨by omega,by omega⟩⟩ h
end Go.Proofs.Ytchahoiainbcaaa
namespace Kv
theorem shortN_bd (L:List Int)(m:Nat)(h:∀ j:Nat,m<=j->L.getD j 0=0):∀ n,shortN L n<=m
 | 0=>Nat.zero_le _
 | n+1=>by
   unfold shortN
   split
   · exact shortN_bd L m h n
   · rename_i hne
     have:¬ m<=n:=fun hm=>hne (h n hm)
     omega
theorem shortL_bd (L:List Int)(m:Nat)(h:∀ j:Nat,m<=j->L.getD j 0=0):(shortL L).length<=m:=by
 unfold shortL
 rw [List.length_take]
 have:=shortN_bd L m h L.length
 omega
end Kv
namespace Go.Proofs.Ytchahoiainbcaaa
open Go.RowKit Kv
theorem step_append_any {ops:Array Oper}{o:Oper}{a:Act}{K:Act->World->Prop}{Q:Exit->Act->World->Prop}{E:Prop}{w0 w:World}{e t:TypeId}{z:Value}{size bytes:Nat}
  (hinfo:(Try.prog.info? e).map (fun i=>(i.zero,i.size,i.bytes))=some (some z,size,bytes))(hund:Try.prog.underlying t=some (.slice e))(hzs:z.cells.size=size)(hsz:0<size)(hby:bytes<=100)
  (hgd:o.guard=none)(s x:Operand)(ho:o.op=.call { callee:=.builtin .append,args:=#[s,x],argTypes:=#[t,t] })
  (v:Value)(n:Nat)(xs news:List Value)(A:Option Addr)(m c:Nat)(hX:Ext w0 w)(hown:w.ownsRow w0.heap.size e size v n xs)(hs:a.eval s=v)(hx:a.eval x=.slice A m c)
  (hA:A=none->c=0)(hv:Vals w A news)(hnl:news.length=m*size)(h1:∀ u∈news,u.oneCell'=true)(hlen:n<1000000000)(hm:m<1000000000)
  (h:∀ v' w',w'.ownsRow w0.heap.size e size v' (n+m) (xs++news)->Ext w0 w'->K (a.put o.dst v') w') :
  if Region.wanted o (yielded ops a.tmps)=true then Oper.wp Try.prog o a w K Q else E:=by
 have hw:Region.wanted o (yielded ops a.tmps)=true:=by simp [Region.wanted,hgd]
 rw [if_pos hw]
 obtain⟨i0,hi,hz0,hz1,hz2⟩:=info_parts hinfo
 cases A with
 | none =>
   obtain rfl:=hA rfl
   have hn:news=[]:=by
    apply Decidable.byContradiction
    intro hne
    obtain⟨b,e,_⟩:=hv hne
    cases e
   subst hn
   obtain rfl:m=0:=by
    rw [List.length_nil] at hnl
    rcases Nat.mul_eq_zero.1 hnl.symm with h | h
    · exact h
    · omega
   have hrun:=run_append_owned_none (P:=Try.prog) (w:=w) w0.heap.size t o.type e i0 size hund hi v n xs hown
   unfold Oper.wp
   simp [execOp,ho,resolve,invoke,builtin,hs,hx,hrun,Result.andThen]
   have:=h v w (by simpa using hown) hX
   exact this
 | some ad =>
   have hnews:∀ j u,news[j]?=some u->w.cell? (ad.add j)=some u:=by
    intro j u hu
    obtain⟨b,e,hb,hc⟩:=hv (fun e=>by rw [e] at hu;simp at hu)
    obtain rfl:=Option.some.inj e
    rw [Addr.add_lit,Nat.zero_add]
    exact hc j u hu
   have hby2:(n+m)*bytes<=140737488355328:=by
    have:(n+m)*bytes<=(n+m)*100:=Nat.mul_le_mul_left _ hby
    omega
   obtain⟨v',w',hr,h2,h3,h4,h5⟩:=run_append_own_at (P:=Try.prog) (w:=w) w0.heap.size t o.type e i0 z size bytes hund hi hz0 hz1 hz2 hzs hsz v n xs hown ad m c news hnl hnews h1 (by unfold maxLen;omega) hby2 hX.size
   unfold Oper.wp execOp
   simp only [ho,resolve,invoke,builtin,Sem.run_bind,Sem.run_pure,Result.andThen_ok,List.map_toArray,List.map_cons,List.map_nil,hs,hx,hr]
   refine h v' w' h2 (Below.grown hX h3 hX.size fun k hk=>?_)
   rcases hown.2 with⟨rfl,_⟩ | ⟨g,cap,cur,rfl,hgb,_⟩
   · simp [Value.ownBlock] at hk
   · simp [Value.ownBlock] at hk
     omega
theorem accVals_one (l:List Acc):∀ u∈accVals l,u.oneCell'=true:=by
 induction l with
 | nil=>intro u hu;cases hu
 | cons a l ih =>
   intro u hu
   rw [show accVals (a :: l)=[.int .i64 a.kind,.int .i64 a.cell,.int .i64 a.val]++accVals l from rfl] at hu
   rcases List.mem_append.1 hu with h | h
   · simp only [List.mem_cons,List.not_mem_nil,or_false] at h
     rcases h with rfl | rfl | rfl <;> rfl
   · exact ih u h
theorem accVals_app (l k:List Acc):accVals (l++k)=accVals l++accVals k:=by
 induction l with
 | nil=>rfl
 | cons a l ih=>rw [List.cons_append,show accVals (a :: (l++k))=[.int .i64 a.kind,.int .i64 a.cell,.int .i64 a.val]++accVals (l++k) from rfl,ih,show accVals (a :: l)=[.int .i64 a.kind,.int .i64 a.cell,.int .i64 a.val]++accVals l from rfl,List.append_assoc]
theorem Outs.few {w:World}{v:Value}{d:Bool}{S:TS}{m:Nat}(h:Outs w v d S)(hm:∀ j:Nat,m<=j->S.loc j=0) :
  ∃ A c A' c' As k n,v=.agg #[.bool d,.slice A S.acc.length c,.slice A' S.nts.length c',.slice As n k]/\n<=m/\AccAt w A S.acc/\(A=none->c=0):=by
 obtain⟨A,c,A',c',vs,L,rfl,hO⟩:=h
 obtain⟨As,k,rfl,_,_⟩:=hO.locs.slice
 exact⟨A,c,A',c',As,k,_,rfl,shortL_bd L m (fun j hj=>by rw [<- hO.is j];exact hm j hj),hO.accs,hO.accn⟩
end Go.Proofs.Ytchahoiainbcaaa
namespace Go.Proofs.Ytchahoiainbcaaa
open Go.ChangeShapes Go.WideShapes Go.ChangeAt Go.RowKit Kv
def U8s (w:World) (v:Value) (l:List Int):Prop :=
 ∃ A c,v=.slice A l.length c/\l.length<=c/\c<=9223372036854775807/\(l≠[]->∃ b off,A=some ⟨b,off,none⟩/\b<w.heap.size/\∀ i x,l[i]?=some x->w.cell? ⟨b,off+i,none⟩=some (.int .u8 x))
theorem U8s.ext {w w':World}{v:Value}{l:List Int}(h:U8s w v l)(hx:Ext w w'):U8s w' v l:=by
 obtain⟨A,c,rfl,h1,h2,h3⟩:=h
 refine⟨A,c,rfl,h1,h2,fun hl=>?_⟩
 obtain⟨b,off,rfl,hb,hc⟩:=h3 hl
 exact⟨b,off,rfl,Nat.lt_of_lt_of_le hb (Ext.size hx),fun i x hi=>(Ext.cell hx (p:=⟨b,off+i,none⟩) hb).trans (hc i x hi)⟩
theorem U8s.at_ {w:World}{A:Option Addr}{n c:Nat}{l:List Int}(h:U8s w (.slice A n c) l){i:Nat}{x:Int}(hi:l[i]?=some x) :
  ∃ b off,A=some ⟨b,off,none⟩/\b<w.heap.size/\w.cell? ⟨b,off+i,none⟩=some (.int .u8 x):=by
 obtain⟨A',c',he,h1,h2,h3⟩:=h
 injection he with e1 e2 e3
 subst e1 e2 e3
 have hl:l≠[]:=by rintro rfl;simp at hi
 obtain⟨b,off,rfl,hb,hc⟩:=h3 hl
 exact⟨b,off,rfl,hb,hc i x hi⟩
end Go.Proofs.Ytchahoiainbcaaa
namespace Kv
def zeros (n:Nat):List Int:=List.replicate n 0
end Kv
namespace Go.Proofs.Ytchahoiainbcaaa
open Go.RowKit Kv
theorem append_zq {ops:Array Oper}{rest:List Oper}{o:Oper}{a:Act}{Q:Exit->Act->World->Prop}{w:World}(hgd:o.guard=none)(s x:Operand)
  (ho:o.op=.call { callee:=.builtin .append,args:=#[s,x],argTypes:=#[24,3] })(v v':Value)(k:Int)(w':World)(hs:a.eval s=v)(hx:a.eval x=.int .i64 k)
  (hr:(Builtin.append_ #[24,3] o.type #[v,.int .i64 k]).run Try.prog w=.ok v' w')(h:wpList Try.prog ops Q rest (a.put o.dst v') w'):wpList Try.prog ops Q (o :: rest) a w :=
 wpList_plain hgd fun _ hK=>by
  unfold Oper.wp execOp
  simp only [ho,resolve,invoke,builtin,Sem.run_bind,Sem.run_pure,Result.andThen_ok,List.map_toArray,List.map_cons,List.map_nil,hs,hx,hr]
  exact hK _ _ h
theorem tame_zeros7 (vA:Value)(La:List Int)(V0:World)(hA:Ints V0 vA La)(hlen:La.length<=2500) :
  Calls Try.prog 7 #[vA,.int .i64 1048576] V0 fun e w1=>∃ v1 g cap w2 F,e=.returned v1/\(Builtin.append_ #[24,3] 24 #[v1,.int .i64 700]).run Try.prog w1=.ok (.slice (some ⟨g,0,none⟩) (F:List Int).length cap) w2/\Ext V0 w2/\V0.heap.size<=g/\IntRow w2 V0.heap.size (.slice (some ⟨g,0,none⟩) F.length cap) F/\700<=F.length/\F.length<=3200:=by
 refine (tame_r _ La 1048576 _ hA).mono ?_
 rintro e w1 ⟨v1,rfl,hrow,hx1⟩
 obtain⟨A1,c1,rfl,q1,q2⟩:=hrow.ints.slice
 obtain⟨i0,hi0,hz0,hz1,hz2⟩:=info_parts info_int
 have hTl:(tameL La 1048576).length<=2500:=by unfold tameL;simp;omega
 obtain⟨Tl,hTe⟩:∃ Tl,Tl=tameL La 1048576:=⟨_,rfl⟩
 rw [<- hTe] at hrow hTl q1 ⊢
 clear hTe
 obtain⟨g,cap,w2,hrun,hown,hgr,hat⟩:=run_append_zeros (P:=Try.prog) (w:=w1) 24 3 24 V0.heap.size 3 i0 (.int .i64 0) 8 .i64 Try.underlying24 Try.underlying3 hi0 hz0 hz1 hz2 rfl rfl (.slice A1 Tl.length c1) Tl.length (Tl.map (Value.int .i64)) hrow 700 (by decide) (by unfold maxLen;omega) (by omega) hx1.size
 have hX1:Ext V0 w2:=by
  refine Below.grown hx1 hgr hx1.size fun k hk=>?_
  obtain⟨_,h2⟩:=hrow
  rcases h2 with⟨e,_⟩ | ⟨g,cap,cur,e,hgb,_⟩
  · rw [e] at hk;simp [Value.ownBlock] at hk
  · rw [e] at hk
    simp [Value.ownBlock] at hk
    omega
 have hGl:(Tl++zeros 700).length=Tl.length+700:=by rw [List.length_append];unfold zeros;rw [List.length_replicate]
 have hG:IntRow w2 V0.heap.size (.slice (some ⟨g,0,none⟩) (Tl++zeros 700).length cap) (Tl++zeros 700):=by
  unfold IntRow
  rw [hGl,List.map_append,show (zeros 700).map (Value.int .i64)=List.replicate 700 (Value.int .i64 0) from by unfold zeros;rw [List.map_replicate]]
  exact hown
 exact⟨_,g,cap,w2,Tl++zeros 700,rfl,by rw [hGl];exact hrun,hX1,(World.ownsRow.lt hG g rfl).1,hG,by omega,by omega⟩
set_option maxRecDepth 100000 in
set_option maxHeartbeats 4000000 in
theorem regcosts_walk (r:Reg)(me:Nat)(vA:Value)(La:List Int)(v:Int)(w:World)(hme:me<256)(hA:Ints w vA La) :
  Calls Try.prog 3 #[encR r,.int .u8 me,vA,.int .i64 v] w fun e w'=>e=.returned (.bool true)/\Ext w w':=by
 have hmf:∀ (fn:Fn) (first cap:Array Value) (w:World),(Instr.makeFunc fn first cap).run Try.prog w=.ok (.func fn first cap) w:=fun _ _ _ _=>rfl
 have hfin:=fun w=>fine17_r r w
 obtain⟨Aa,ca,rfl,p3,p4⟩:=hA.slice
 have hN0:=fun w h=>cells7_p r w h
 have hL0:=fun w h=>slocals7_p r w h
 have hC0:=fun w h=>costs_p r w h
 have bR:=(Blk.new w (.cells #[.int .i64 r.kind,.int .i64 r.base,.int .i64 r.loc,.int .i64 r.n,.int .i64 r.wr,.int .i64 r.rd,.int .i64 r.top] 23)).alloc (.cells #[.int .i64 v] 3)
 have bV:=Blk.new (w.alloc (.cells #[.int .i64 r.kind,.int .i64 r.base,.int .i64 r.loc,.int .i64 r.n,.int .i64 r.wr,.int .i64 r.rd,.int .i64 r.top] 23)) (.cells #[.int .i64 v] 3)
 have hX:=((Ext.refl w).alloc (.cells #[.int .i64 r.kind,.int .i64 r.base,.int .i64 r.loc,.int .i64 r.n,.int .i64 r.wr,.int .i64 r.rd,.int .i64 r.top] 23)).alloc (.cells #[.int .i64 v] 3)
 simp only [World.size_alloc] at bV
 have hA1:=hA.ext hX
 have c_bR:=bR.cells
 unfold encR at hfin hN0 hL0 hC0 ⊢
 have hn4:=r.n
 go_enter Try.func3,Try.ntmps3
 go_wp2_with fail
 refine (hfin _).mono ?_
 rintro e w2 ⟨b,rfl,hx,hb⟩
 clear c_bR hfin
 replace bR:=bR.ext hx
 replace bV:=bV.ext hx
 replace hA1:=hA1.ext hx
 replace hX:=hX.trans hx
 have c_bR:=bR.cells
 clear hx
 have alive:∀ W,Ext w W->∀ (R:Ending->World->Prop),(∀ W',Ext w W'->R (.returned (.bool true)) W')->Calls Try.prog 5 #[] W R:=fun W hW R hR=>(alive17 W).mono fun e w' ⟨he,hx⟩=>by subst he;exact hR _ (hW.trans hx)
 cases b
 · clear hb
   go_wp2_with fail
   refine alive _ hX _ fun W hW=>?_
   have hf:=Lib.hid hW
   clear hW
   go_wp2_with fail
   go_ret
   exact⟨rfl,hf.out⟩
 obtain⟨hr,hcb,hlb⟩:=hb rfl
 clear hb
 by_cases h4:4<r.n
 · have d4:decide (4<r.n)=true:=by simpa using h4
   go_wp2_with fail
   refine alive _ hX _ fun W hW=>?_
   have hf:=Lib.hid hW
   clear hW
   go_wp2_with fail
   go_ret
   exact⟨rfl,hf.out⟩
 have d4:decide (4<r.n)=false:=by simpa using h4
 by_cases hl:2500<La.length
 · have d5:decide ((2500:Int)<(La.length:Int))=true:=by rw [decide_eq_true_eq];omega
   go_wp2_with fail
   refine alive _ hX _ fun W hW=>?_
   have hf:=Lib.hid hW
   clear hW
   go_wp2_with fail
   go_ret
   exact⟨rfl,hf.out⟩
 have d5:decide ((2500:Int)<(La.length:Int))=false:=by rw [decide_eq_false_iff_not];omega
 have hrn:=hr.n
 obtain⟨t,htt⟩:∃ t:Nat,((me:Int)).tmod (r.n)=t:=⟨(((me:Int)).tmod r.n).toNat,by
  have:=Int.tmod_nonneg r.n (show (0:Int)<=me by omega)
  omega⟩
 have htm:(t:Int)<r.n:=by
  have:=Int.tmod_lt_of_pos (me:Int) (show (0:Int)<r.n by omega)
  omega
 have hm0:¬ r.n=0:=by omega
 have hwy:=IntWalk.i64_in (me:Int) (by omega)
 go_upto_region 4 with fail
 have gT:=Blk.new w2 (.cells #[.int .i64 t] 3)
 have x1:=(Ext.refl w2).alloc (.cells #[.int .i64 t] 3)
 replace bV:=bV.ext x1
 replace bR:=bR.ext x1
 replace hA1:=hA1.ext x1
 replace hX:=hX.trans x1
 clear htt hwy c_bR
 generalize hz2:w2.heap.size=z2 at *
 generalize World.alloc w2 _=V1 at *
 have c_bR:=bR.cells
 have hC:=fun w=>hC0 w hr
 clear hC0
 go_wp2_with fail
 refine (hC _).mono ?_
 rintro e w3 ⟨rfl,hx⟩
 clear c_bR hC
 replace bV:=bV.ext hx
 replace bR:=bR.ext hx
 replace gT:=gT.ext hx
 replace hA1:=hA1.ext hx
 replace hX:=hX.trans hx
 clear hx x1
 have hcw:costW7 r<=700:=(costs_small h4).1
 have hcr:costR7 r<=700:=(costs_small h4).2
 have hWc:=cst_regW7 hr (me:=t) ⟨by omega,htm⟩ v
 have hRc:=cst_regR7 hr (me:=t) ⟨by omega,htm⟩
 generalize hcwe:costW7 r=cw at *
 generalize hcre:costR7 r=cr at *
 clear hcwe hcre
 have hD:=tame_zeros7 _ La w3 hA1 (by omega)
 go_wp2_with fail
 refine hD.mono ?_
 rintro e w3' ⟨v1,g,cap,w4,F,rfl,hrun,hx4,hgB,hG,hF1,hF2⟩
 have hrunh:=Lib.hid hrun
 clear hrun hD
 go_wp2_with (at_builtin;refine append_zq rfl _ _ rfl _ _ _ _ rfl rfl hrunh.out ?_)
 replace bV:=bV.ext hx4
 replace bR:=bR.ext hx4
 replace gT:=gT.ext hx4
 replace hX:=hX.trans hx4
 have hFlt:∀ k,(Value.slice (some ⟨g,0,none⟩) F.length cap).ownBlock=some k->k<w4.heap.size:=fun k hk=>(World.ownsRow.lt hG k hk).2
 have hleft:(TS0 [] F).left=F.length:=by unfold TS.left TS0;simp
 obtain⟨u1,S1,hr1,⟨l1,ha1,hl1,hc1⟩,hloc1⟩:=Cst.run (TS0 [] F) hWc (by omega)
 obtain⟨u2,S2,hr2,⟨l2,ha2,hl2,hc2⟩,hloc2⟩:=Cst.run (TS0 [] F) hRc (by omega)
 have hr1':((regW7 r t v).bind fun _=>Prog.ret (0:Int)).run (TS0 [] F)=(some 0,S1):=Prog.run_bind_some hr1
 have hz0:∀ j:Nat,(TS0 [] F).loc j=0:=fun j=>by unfold TS0;simp [locOf]
 have hacc0:(TS0 [] F).acc=[]:=rfl
 rw [hacc0,List.nil_append] at ha1 ha2
 have hbd7:=cells7_bd hrn
 have hbase:=hr.base
 have hlocb:=hr.loc
 obtain⟨Lm,hLm⟩:∃ Lm:Nat,r.loc+locals7 r=Lm:=⟨(r.loc+locals7 r).toNat,by omega⟩
 have hzz1:∀ j:Nat,Lm<=j->S1.loc j=0:=fun j hj=>by rw [hloc1 j (by omega),hz0]
 have hzz2:∀ j:Nat,Lm<=j->S2.loc j=0:=fun j hj=>by rw [hloc2 j (by omega),hz0]
 have hP1:=fun W (hx:Ext w4 W)=>play_int 9 #[.pointer (some ⟨w.heap.size,0,none⟩),.pointer (some ⟨z2,0,none⟩),.pointer (some ⟨w.heap.size+1,0,none⟩)] ((regW7 r t v).bind fun _=>Prog.ret (0:Int)) none 0 [] (some ⟨g,0,none⟩) cap F W (Ints.nil _) (by simp) (hG.ints.ext hx) (by unfold maxAns;omega) (fun k hk=>Nat.lt_of_lt_of_le (hFlt k hk) hx.size) (fun _ _=>rfl)
  (fun W' p hxW hP=>rcl1 _ p _ w.heap.size z2 (w.heap.size+1) r t v W' hP hr ⟨by omega,htm⟩ ((bR.ext hx).ext hxW).cells (((gT.ext hx).ext hxW).cells 0) (((bV.ext hx).ext hxW).cells 0))
 have hP2:=fun W (hx:Ext w4 W)=>play_int 11 #[.pointer (some ⟨w.heap.size,0,none⟩),.pointer (some ⟨z2,0,none⟩)] (regR7 r t) none 0 [] (some ⟨g,0,none⟩) cap F W (Ints.nil _) (by simp) (hG.ints.ext hx) (by unfold maxAns;omega) (fun k hk=>Nat.lt_of_lt_of_le (hFlt k hk) hx.size) (fun _ _=>rfl)
  (fun W' p hxW hP=>rcl2 _ p _ w.heap.size z2 r t W' hP hr ⟨by omega,htm⟩ ((bR.ext hx).ext hxW).cells (((gT.ext hx).ext hxW).cells 0))
 rw [hr1'] at hP1
 rw [hr2] at hP2
 simp only [Option.getD_some,Option.isSome_some] at hP1 hP2
 have hP2h:=Lib.hid hP2
 have hP1h:=Lib.hid hP1
 have hXh:=Lib.hid hX
 have hLmh:=Lib.hid hLm
 clear hP1 hP2 hX bV gT hA hA1 hG hrunh hx4 hr1 hr2 hr1' hFlt hleft hgB hWc hRc hloc1 hloc2 hz0 hacc0 hLm
 go_wp2_with fail
 refine (hP1h.out _ (Ext.refl w4)).mono ?_
 rintro e y1 ⟨x1,rfl,hO,hx1⟩
 obtain⟨A1,c1,D1,d1,E1,k1,n1,rfl,hn1,hac1,hAn1⟩:=hO.few hzz1
 rw [ha1] at *
 clear hO hP1h hzz1 ha1
 replace bR:=bR.ext hx1
 have o1:=Blk.new y1 (.cells #[.bool true,.slice A1 l1.length c1,.slice D1 S1.nts.length d1,.slice E1 n1 k1] 33)
 have x2:=hx1.alloc (.cells #[.bool true,.slice A1 l1.length c1,.slice D1 S1.nts.length d1,.slice E1 n1 k1] 33)
 replace bR:=bR.alloc (.cells #[.bool true,.slice A1 l1.length c1,.slice D1 S1.nts.length d1,.slice E1 n1 k1] 33)
 replace hac1:=Vals.ext hac1 ((Ext.refl y1).alloc (.cells #[.bool true,.slice A1 l1.length c1,.slice D1 S1.nts.length d1,.slice E1 n1 k1] 33))
 clear hx1
 go_wp2_with fail
 refine (hP2h.out _ x2).mono ?_
 rintro e y2 ⟨x3,rfl,hO,hx2⟩
 obtain⟨A2,c2,D2,d2,E2,k2,n2,rfl,hn2,hac2,hAn2⟩:=hO.few hzz2
 rw [ha2] at *
 clear hO hP2h hzz2 ha2
 have x4:=hx2.alloc (.cells #[.bool true,.slice A2 l2.length c2,.slice D2 S2.nts.length d2,.slice E2 n2 k2] 33)
 have o2:=Blk.new y2 (.cells #[.bool true,.slice A2 l2.length c2,.slice D2 S2.nts.length d2,.slice E2 n2 k2] 33)
 replace o1:=o1.ext x4
 replace bR:=bR.ext x4
 replace hac1:=Vals.ext hac1 x4
 replace hac2:=Vals.ext hac2 ((Ext.refl y2).alloc (.cells #[.bool true,.slice A2 l2.length c2,.slice D2 S2.nts.length d2,.slice E2 n2 k2] 33))
 have hXX:=Lib.hid ((hXh.out.trans x2).trans x4)
 clear hx2 hXh x2 x4 hmf
 have c_o1:=o1.cells
 have c_o2:=o2.cells
 have e1:decide ((cw:Int)<(l1.length:Int))=false:=by rw [decide_eq_false_iff_not];omega
 have e2:decide ((cr:Int)<(l2.length:Int))=false:=by rw [decide_eq_false_iff_not];omega
 go_wp2_with fail
 have hlen1:l1.length<1000:=by omega
 have hlen2:l2.length<1000:=by omega
 clear c_o1 c_o2 e1 e2
 generalize y1.heap.size=p1 at *
 generalize y2.heap.size=p2 at *
 generalize World.alloc y2 _=V0 at *
 have hSx:∀ w',Ext V0 w'->(∀ i:Nat,w'.cell? ⟨p1,i,none⟩=(#[.bool true,.slice A1 l1.length c1,.slice D1 S1.nts.length d1,.slice E1 n1 k1]:Array Value)[i]?)/\(∀ i:Nat,w'.cell? ⟨p2,i,none⟩=(#[.bool true,.slice A2 l2.length c2,.slice D2 S2.nts.length d2,.slice E2 n2 k2]:Array Value)[i]?):=fun w' hx=>⟨(o1.ext hx).cells,(o2.ext hx).cells⟩
 go_cut [17] (fun s17 wx=>∃ A c,s17=.slice A (l1.length+l2.length) c/\l1.length+l2.length<=c/\c<=9223372036854775807/\Vals wx A (accVals (l1++l2))/\Ext V0 wx)
 case first =>
  refine wp_region_held_drew (S:=fun w'=>(∀ i:Nat,w'.cell? ⟨p1,i,none⟩=(#[.bool true,.slice A1 l1.length c1,.slice D1 S1.nts.length d1,.slice E1 n1 k1]:Array Value)[i]?)/\(∀ i:Nat,w'.cell? ⟨p2,i,none⟩=(#[.bool true,.slice A2 l2.length c2,.slice D2 S2.nts.length d2,.slice E2 n2 k2]:Array Value)[i]?)) rfl (hSx _ (Ext.refl V0).drew) (fun hHeld=>?_)
  refine tk 1 (v:=?_) rfl (by kernel_rfl) (fun _ _ _ h=>h) (by assumption) ?_ ?_
  rotate_left
  · (intro w hSw;(try dsimp only at hSw);go_simp;try with_reducible rfl)
  try simp only [put_pack]
  refine tk 2 (v:=?_) rfl (by kernel_rfl) (fun _ _ _ h=>h) (by assumption) ?_ ?_
  rotate_left
  · (intro w hSw;(try dsimp only at hSw);go_simp;try with_reducible rfl)
  try simp only [put_pack]
  refine tk 4 (v:=?_) rfl (by kernel_rfl) (fun _ _ _ h=>h) (by assumption) ?_ ?_
  rotate_left
  · (intro w hSw;(try dsimp only at hSw);go_simp;try with_reducible rfl)
  try simp only [put_pack]
  refine tk 5 (v:=?_) rfl (by kernel_rfl) (fun _ _ _ h=>h) (by assumption) ?_ ?_
  rotate_left
  · (intro w hSw;(try dsimp only at hSw);go_simp;try with_reducible rfl)
  try simp only [put_pack]
  refine wpAnyH_ready (rs:=[0]) (by kernel_rfl) (by simp) ?_
  refine AllReadyH.cons rfl (fun K hKK=>?_) (AllReadyH.nil)
  go_simp
  have hr0:=row_new V0.drew [] 41 3 0 rfl (by omega)
  have hx0:=(Ext.refl V0.drew).alloc (.cells #[] 41)
  have hxa:Ext V0 (V0.drew.alloc (.cells #[] 41)):=(Ext.refl V0).drew.alloc _
  refine hKK.out _ _ (hSx _ hxa) (fun hHeld=>?_)
  clear hKK K
  try dsimp only
  refine wpAnyH_ready (rs:=[3]) (by kernel_rfl) (by simp) ?_
  refine AllReadyH.cons rfl (fun K hKK=>?_) (AllReadyH.nil)
  refine step_append_any (w0:=V0.drew) info_acc Try.underlying30 (by decide) (by decide) (by decide) rfl _ _ rfl _ 0 [] (accVals l1) A1 l1.length c1 hx0 hr0 (by rfl) (by rfl) hAn1 (Vals.ext hac1 hxa) (by rw [accVals_len];omega) (accVals_one l1) (by omega) (by omega) ?_
  intro v' w' hown hx'
  have hxb:Ext V0 w':=(Ext.refl V0).drew.trans hx'
  refine hKK.out _ _ (hSx _ hxb) (fun hHeld=>?_)
  clear hKK K
  try dsimp only
  refine wpAnyH_ready (rs:=[6]) (by kernel_rfl) (by simp) ?_
  refine AllReadyH.cons rfl (fun K hKK=>?_) (AllReadyH.nil)
  refine step_append_any (w0:=V0.drew) info_acc Try.underlying30 (by decide) (by decide) (by decide) rfl _ _ rfl _ (0+l1.length) ([]++accVals l1) (accVals l2) A2 l2.length c2 hx' hown (by rfl) (by rfl) hAn2 (Vals.ext hac2 hxb) (by rw [accVals_len];omega) (accVals_one l2) (by omega) (by omega) ?_
  intro v2 w2' hown2 hx2'
  have hxc:Ext V0 w2':=(Ext.refl V0).drew.trans hx2'
  rw [List.nil_append,Nat.zero_add,<- accVals_app] at hown2
  obtain⟨A,c,rfl,q1,q2,q3⟩:=Recs.of_row hown2
  have hq3:=Lib.hid q3
  clear hown hown2 q3 hr0 hx0
  refine hKK.out _ _ (hSx _ hxc) (fun hHeld=>?_)
  clear hKK K
  try dsimp only
  refine tk 7 (v:=?_) rfl (by kernel_rfl) (fun _ _ _ h=>h) (by assumption) ?_ ?_
  rotate_left
  · (intro w hSw;(try dsimp only at hSw);go_simp;try with_reducible rfl)
  try simp only [put_pack]
  refine wpAnyH_done (by kernel_rfl) ?_ _
  go_simp
  go_wp2_with fail
  go_meet
  exact⟨A,c,rfl,q1,q2,hq3.out,hxc⟩
 case rest =>
  obtain⟨A,c,rfl,q1,q2,q3,hxw⟩:=hcut
  clear hac1 hac2 hAn1 hAn2 hSx
  have hcl:∀ x∈l1++l2,r.base<=x.cell/\x.cell<r.base+cells7 r:=fun x hx=>by
   rcases List.mem_append.1 hx with h | h
   · exact hc1 x h
   · exact hc2 x h
  rw [<- List.length_append] at *
  have hlen:(l1++l2).length<2000:=by rw [List.length_append];omega
  clear hc1 hc2 hl1 hl2 hF1 hF2 hlen1 hlen2
  generalize l1++l2=L at *
  have hN:=fun w=>hN0 w hr
  have hL:=fun w=>hL0 w hr
  clear hN0 hL0
  rw [hLmh.out] at hlb
  have hwC:=IntWalk.i64_in (r.base+cells7 r) (by omega)
  have hclh:=Lib.hid hcl
  clear hcl
  go_wp2_with fail
  go_loopw [18] (fun z wr=>∃ j:Nat,z=.int .i64 j/\j<=L.length/\Ext wc wr) (fun z _=>L.length-(intOf z).toNat)
  case atStart=>exact⟨0,rfl,by omega,Ext.refl _⟩
  case round =>
   obtain⟨j,rfl,hj,hx⟩:=hrel
   have hxr:=hxw.trans hx
   by_cases hlt:j<L.length
   · have hat:L[j]?=some L[j]:=List.getElem?_eq_getElem hlt
     obtain⟨h1,h2⟩:=hclh.out L[j] (List.getElem_mem hlt)
     generalize L[j]=ac at *
     obtain⟨bg,rfl,hbg,g0,g1,g2⟩:=AccAt.at_ (show AccAt wc A L from q3) hat
     have hg1:∀ W,Ext wc W->W.cell? ⟨bg,j*3+1,none⟩=some (.int .i64 ac.cell):=fun W hW=>(hW.cell (p:=⟨bg,j*3+1,none⟩) hbg).trans g1
     have hRc:∀ W,Ext wc W->∀ i:Nat,W.cell? ⟨w.heap.size,i,none⟩=(#[.int .i64 r.kind,.int .i64 r.base,.int .i64 r.loc,.int .i64 r.n,.int .i64 r.wr,.int .i64 r.rd,.int .i64 r.top]:Array Value)[i]?:=fun W hW=>(bR.ext (hxw.trans hW)).cells
     clear g0 g1 g2 hat
     have d1':decide (ac.cell<r.base)=false:=by rw [decide_eq_false_iff_not];omega
     have d2':decide (r.base+cells7 r<=ac.cell)=false:=by rw [decide_eq_false_iff_not];omega
     clear h1 h2
     go_wp2_with fail
     replace hx:=hx.drew
     go_region_held2 (fun w'=>w'.cell? ⟨bg,j*3+1,none⟩=some (.int .i64 ac.cell)/\∀ i:Nat,w'.cell? ⟨w.heap.size,i,none⟩=(#[.int .i64 r.kind,.int .i64 r.base,.int .i64 r.loc,.int .i64 r.n,.int .i64 r.wr,.int .i64 r.rd,.int .i64 r.top]:Array Value)[i]?) (exact⟨hg1 _ hx,hRc _ hx⟩)
      (first
        | (go_at_call 13
           refine (hN _).mono ?_
           rintro e w5 ⟨rfl,hx5⟩
           replace hx:=hx.trans hx5
           clear hx5))
     go_wp2_with fail
     refine⟨⟨j+1,by go_num,by omega,hx⟩,?_⟩
     simp [intOf];omega
   · obtain rfl:j=L.length:=by omega
     clear q3 hclh hN
     have hLm2:=hLmh.out
     have hwL:=IntWalk.i64_in (r.loc+locals7 r) (by omega)
     have d1':decide ((n1:Int)<=r.loc+locals7 r)=true:=by rw [decide_eq_true_eq];omega
     have d2':decide ((n2:Int)<=r.loc+locals7 r)=true:=by rw [decide_eq_true_eq];omega
     have hS1:∀ W,Ext V0 W->(∀ i:Nat,W.cell? ⟨p1,i,none⟩=(#[.bool true,.slice A1 l1.length c1,.slice D1 S1.nts.length d1,.slice E1 n1 k1]:Array Value)[i]?)/\(∀ i:Nat,W.cell? ⟨p2,i,none⟩=(#[.bool true,.slice A2 l2.length c2,.slice D2 S2.nts.length d2,.slice E2 n2 k2]:Array Value)[i]?)/\(∀ i:Nat,W.cell? ⟨w.heap.size,i,none⟩=(#[.int .i64 r.kind,.int .i64 r.base,.int .i64 r.loc,.int .i64 r.n,.int .i64 r.wr,.int .i64 r.rd,.int .i64 r.top]:Array Value)[i]?):=fun W hW=>⟨(o1.ext hW).cells,(o2.ext hW).cells,(bR.ext hW).cells⟩
     have hal:∀ W,Ext V0 W->Calls Try.prog 5 #[] W fun e w'=>e=.returned (.bool true)/\Ext V0 w':=fun W hW=>(alive17 W).mono fun e w' ⟨he,hx⟩=>⟨he,hW.trans hx⟩
     have hfin:∀ W,Ext V0 W->Ext w W:=fun W hW=>hXX.out.trans hW
     clear alive bR o1 o2 hXX hLm2 hLmh
     go_wp2_with fail
     replace hxr:=hxr.drew
     go_region_held2 (fun w'=>(∀ i:Nat,w'.cell? ⟨p1,i,none⟩=(#[.bool true,.slice A1 l1.length c1,.slice D1 S1.nts.length d1,.slice E1 n1 k1]:Array Value)[i]?)/\(∀ i:Nat,w'.cell? ⟨p2,i,none⟩=(#[.bool true,.slice A2 l2.length c2,.slice D2 S2.nts.length d2,.slice E2 n2 k2]:Array Value)[i]?)/\(∀ i:Nat,w'.cell? ⟨w.heap.size,i,none⟩=(#[.int .i64 r.kind,.int .i64 r.base,.int .i64 r.loc,.int .i64 r.n,.int .i64 r.wr,.int .i64 r.rd,.int .i64 r.top]:Array Value)[i]?)) (exact hS1 _ hxr)
      (first
        | (go_at_call 14
           refine (hL _).mono ?_
           rintro e w5 ⟨rfl,hx5⟩
           replace hxr:=hxr.trans hx5
           clear hx5)
        | (go_at_call 5
           refine (hal _ hxr).mono ?_
           rintro e w5 ⟨rfl,hx5⟩
           clear hxr
           have hxr:=hx5
           clear hx5))
     go_wp2_with fail
     go_ret
     exact⟨rfl,hfin _ hxr⟩
end Go.Proofs.Ytchahoiainbcaaa
namespace Go.Proofs.Ytchahoiainbcaaa
open Go.Joins Go.ChangeShapes Go.WideShapes Go.RowKit Go.Deep
section
variable {H:Type} {enc:TypeId × Value->H} {P:Program} {w:World} {base:Nat} {spare:Nat->Bool} {held:Bool}
theorem open_agg7 {r:Reach}{b0:Nat}{t:TypeId}{f0 f1 f2 f3 f4 f5 f6:Field}{v:Value}{d:DataW H}{p:List MemPlace}(hs:P.underlying t=some (.struct #[f0,f1,f2,f3,f4,f5,f6]))(hone:oneCellFields P #[f0,f1,f2,f3,f4,f5,f6]=true)(hC:P.cellsOf t=7)
  (hv:Value.okWide P w r b0 t v)(h:DataW.Trod enc P w base spare held t v d p) :
  ∃ (v0 v1 v2 v3 v4 v5 v6:Value) (y0 y1 y2 y3 y4 y5 y6:DataW H × List MemPlace) (n:Nat),v=.agg #[v0,v1,v2,v3,v4,v5,v6] /\
   DataW.trod enc P w base spare held n f0.type [v0]=some y0/\DataW.trod enc P w base spare held n f1.type [v1]=some y1/\DataW.trod enc P w base spare held n f2.type [v2]=some y2/\DataW.trod enc P w base spare held n f3.type [v3]=some y3/\DataW.trod enc P w base spare held n f4.type [v4]=some y4/\DataW.trod enc P w base spare held n f5.type [v5]=some y5/\DataW.trod enc P w base spare held n f6.type [v6]=some y6:=by
 obtain⟨cs,rfl,hsz⟩:=okWide_struct hs hv
 obtain⟨l⟩:=cs
 match l,hsz.trans hC with
 | [c0,c1,c2,c3,c4,c5,c6],_ =>
   obtain⟨fuel,hf⟩:=h
   obtain⟨xs,n,_,hx,_,hlen,hg⟩:=DataW.trod_struct hs hf
   obtain⟨o0,k0⟩:=hone_of hone 0 f0 rfl
   obtain⟨o1,k1⟩:=hone_of hone 1 f1 rfl
   obtain⟨o2,k2⟩:=hone_of hone 2 f2 rfl
   obtain⟨o3,k3⟩:=hone_of hone 3 f3 rfl
   obtain⟨o4,k4⟩:=hone_of hone 4 f4 rfl
   obtain⟨o5,k5⟩:=hone_of hone 5 f5 rfl
   obtain⟨o6,k6⟩:=hone_of hone 6 f6 rfl
   match xs,hlen with
   | [y0,y1,y2,y3,y4,y5,y6],_ =>
     exact⟨c0,c1,c2,c3,c4,c5,c6,y0,y1,y2,y3,y4,y5,y6,n,rfl,by simpa [Value.cells,o0,k0] using hg 0 f0 rfl,by simpa [Value.cells,o1,k1] using hg 1 f1 rfl,by simpa [Value.cells,o2,k2] using hg 2 f2 rfl,by simpa [Value.cells,o3,k3] using hg 3 f3 rfl,by simpa [Value.cells,o4,k4] using hg 4 f4 rfl,by simpa [Value.cells,o5,k5] using hg 5 f5 rfl,by simpa [Value.cells,o6,k6] using hg 6 f6 rfl⟩
end
end Go.Proofs.Ytchahoiainbcaaa
namespace Go.Proofs.Ytchahoiainbcaaa.regCosts
open Go.ChangeShapes Go.WideShapes Go.ChangeAt Go.RowKit Kv
set_option maxRecDepth 100000 in
theorem main (H:Type)(enc:TypeId × Value->H)(W:World)(base:Nat)(args:Array Value)(ds:List (DataW H))(p:List MemPlace)
  (hval:∀ (j:Nat) t v,Try.f3.params[j]?=some t->args[j]?=some v->Value.okWide Try.prog W .any base t v)
  (hA:DataW.TrodAll enc Try.prog W 0 (fun _=>true) true Try.f3.params.toList args.toList ds p)(_hL:laidMetH Try.prog Rows.regCostsRow.laid W) :
  Calls Try.prog 3 args W fun e w'=>e=.returned (.bool true)/\Ext W w':=by
 rw [Try.params3] at hA hval
 obtain⟨v0,vs0,d0,ds0,p0,q0,hargs,rfl,rfl,h0,r0⟩:=trodAll_cons hA
 obtain⟨v1,vs1,d1,ds1,p1,q1,rfl,rfl,rfl,h1,r1⟩:=trodAll_cons r0
 obtain⟨v2,vs2,d2,ds2,p2,q2,rfl,rfl,rfl,h2,r2⟩:=trodAll_cons r1
 obtain⟨v3,vs3,d3,ds3,p3,q3,rfl,rfl,rfl,h3,r3⟩:=trodAll_cons r2
 obtain⟨rfl,rfl,rfl⟩:=trodAll_nil r3
 obtain rfl:args=#[v0,v1,v2,v3]:=by cases args;simp_all
 obtain⟨c0,c1,c2,c3,c4,c5,c6,y0,y1,y2,y3,y4,y5,y6,m,rfl,g0,g1,g2,g3,g4,g5,g6⟩:=open_agg7 Try.underlying23 (by kernel_rfl) (by kernel_rfl) (hval 0 23 v0 rfl rfl) h0
 obtain⟨x0,e0,-,-⟩:=DataW.trod_int Try.underlying3 g0
 obtain⟨x1,e1,-,-⟩:=DataW.trod_int Try.underlying3 g1
 obtain⟨x2,e2,-,-⟩:=DataW.trod_int Try.underlying3 g2
 obtain⟨x3,e3,-,-⟩:=DataW.trod_int Try.underlying3 g3
 obtain⟨x4,e4,-,-⟩:=DataW.trod_int Try.underlying3 g4
 obtain⟨x5,e5,-,-⟩:=DataW.trod_int Try.underlying3 g5
 obtain⟨x6,e6,-,-⟩:=DataW.trod_int Try.underlying3 g6
 obtain⟨s1,rfl,rfl,rfl,ws1⟩:=open_int Try.underlying5 (hval 1 5 v1 rfl rfl) h1
 have hs1:=bounds_u8 ws1
 obtain⟨me,rfl⟩:∃ n:Nat,s1=(n:Int):=⟨s1.toNat,by omega⟩
 obtain⟨La,hLa⟩:=ints_arg (hval 2 24 v2 rfl rfl) h2
 obtain⟨x7,rfl,rfl,rfl,-⟩:=open_int Try.underlying3 (hval 3 3 v3 rfl rfl) h3
 simp at e0 e1 e2 e3 e4 e5 e6
 subst e0 e1 e2 e3 e4 e5 e6
 exact regcosts_walk ⟨x0,x1,x2,x3,x4,x5,x6⟩ me v2 La x7 W (by omega) hLa.1
end Go.Proofs.Ytchahoiainbcaaa.regCosts
namespace Go.Proofs.Ytchahoiainbcaaa.regCosts
open Go.ChangeShapes Go.WideShapes Go.ChangeAt Go.RowKit
theorem laidOut:laidOutB Try.prog=true:=by kernel_rfl
set_option maxRecDepth 100000 in
theorem contract (H:Type)(enc:TypeId × Value->H)(W:World)(base:Nat)(args:Array Value)(ds gs:List (DataW H))(before:List MemPlace)
  (hval:∀ (j:Nat) t v,Try.f3.params[j]?=some t->args[j]?=some v->Value.okWide Try.prog W .any base t v)
  (hW:DataW.Whole enc Try.prog Try.f3.params.toList Rows.regCostsSpec.vars false W args.toList ds gs before)(hL:laidMetH Try.prog Rows.regCostsRow.laid W) :
  Calls Try.prog 3 args W fun e W'=>∃ v,e=.returned v/\Rows.regCostsSpec.post enc Try.prog Try.f3 false true false false W args v W':=by
 refine (main H enc W base args ds before hval (by obtain⟨p,q,hA,hV,hpq,_,_⟩:=hW;obtain⟨_,rfl⟩:=trodVars_none hV;rw [List.append_nil] at hpq;subst hpq;exact hA) hL).mono fun e W' ⟨he,hg⟩=>⟨_,he,?_⟩
 refine law_post (tb:=4) laidOut ?_ (by kernel_rfl) Try.underlying4 rfl ?_ hW hg
 · rw [Try.params3]
   intro t ht
   simp only [List.mem_cons,List.not_mem_nil,or_false] at ht
   rcases ht with rfl | rfl | rfl | rfl <;> exact⟨by kernel_rfl,of_decide_eq_true (by kernel_rfl)⟩
 · intro ds hl
   rw [Try.params3] at hl
   match ds,hl with
   | [d0,d1,d2,d3],_=>rfl
set_option maxRecDepth 100000 in
theorem laid_met (os:Os):laidMet Try.prog Rows.regCostsRow.laid (((World.holding Try.prog os ⟨#[],#[],[]⟩)).forCall (fun _ _=>0) ⟨#[],#[.agg #[.int .i64 0,.int .i64 0,.int .i64 0,.int .i64 0,.int .i64 0,.int .i64 0,.int .i64 0],.int .u8 0,.slice none 0 0,.int .i64 0],[]⟩).memory :=
 laidMet_of_run' 8 (by kernel_rfl) (by kernel_rfl)
set_option maxRecDepth 100000 in
theorem reads (os:Os){H:Type}(enc:TypeId × Value->H):∃ places,DataW.whole enc Try.prog (((World.holding Try.prog os ⟨#[],#[],[]⟩)).forCall (fun _ _=>0) ⟨#[],#[.agg #[.int .i64 0,.int .i64 0,.int .i64 0,.int .i64 0,.int .i64 0,.int .i64 0,.int .i64 0],.int .u8 0,.slice none 0 0,.int .i64 0],[]⟩).memory Try.f3.params.toList Rows.regCostsSpec.vars false (#[.agg #[.int .i64 0,.int .i64 0,.int .i64 0,.int .i64 0,.int .i64 0,.int .i64 0,.int .i64 0],.int .u8 0,.slice none 0 0,.int .i64 0]:Array Value).toList 8=some ([.agg [.lit (.int .i64 0),.lit (.int .i64 0),.lit (.int .i64 0),.lit (.int .i64 0),.lit (.int .i64 0),.lit (.int .i64 0),.lit (.int .i64 0)],.lit (.int .u8 0),.nil,.lit (.int .i64 0)],[],places) :=
 ⟨[],by kernel_rfl⟩
set_option maxRecDepth 100000 in
theorem lifted (os:Os)(started:os.Started)(H:Type)(enc:TypeId × Value->H)(F:Stop.Interp) :
  ReturnsInHanded {} Try.checked os 3 .any ((OpenSpec.ofChange Rows.regCostsSpec).preRow enc Try.prog Try.f3 Rows.regCostsRow.domain false Rows.regCostsRow.laid) (((OpenSpec.ofChange Rows.regCostsSpec).at F).post enc Try.prog Try.f3 false true false false):=by
 obtain⟨places,hx⟩:=reads os enc
 refine returnsInHanded_of_row (C:=Try.checked) (s:=(OpenSpec.ofChange Rows.regCostsSpec)) own started (by kernel_rfl) Try.func3
  (witness_row_at (enc:=enc) (C:=Try.checked) false (World.holding Try.prog os ⟨#[],#[],[]⟩) #[.agg #[.int .i64 0,.int .i64 0,.int .i64 0,.int .i64 0,.int .i64 0,.int .i64 0,.int .i64 0],.int .u8 0,.slice none 0 0,.int .i64 0] rfl (by kernel_rfl) (by kernel_rfl) (by kernel_rfl)
    (OpenSpec.preRow_of_cond 8 hx (by kernel_rfl) (fun k hk=>by cases hk) (by kernel_rfl) (laid_met os))) ?_
 intro W base args ds gs before hval hW _ _ _ hL _ _
 exact contract H enc W base args ds gs before hval hW hL
theorem c1:(Rows.regCostsRow.inPlace==Try.pinned.checked.prog.inPlace 3)=true:=by kernel_rfl
theorem c2:(Rows.regCostsRow.unfollowed==Try.pinned.checked.prog.unfollowed 3)=true:=by kernel_rfl
theorem c3:(Rows.regCostsRow.recurses==Try.pinned.checked.prog.recurses 3)=true:=by kernel_rfl
theorem c4:(Rows.regCostsRow.named==Try.pinned.checked.prog.varsNamed 3)=true:=by kernel_rfl
theorem closed:joinedFacts Try.pinned.checked.prog 3 Try.f3 (OpenSpec.ofChange Rows.regCostsSpec).bare Rows.regCostsRow=true:=by
 unfold joinedFacts
 simp only [Bool.and_eq_true]
 repeat' refine And.intro ?_ ?_
 all_goals first | with_reducible exact c1 | with_reducible exact c2 | with_reducible exact c3 | with_reducible exact c4 | kernel_rfl
theorem said:Rows.RegCostsSaid :=
 OpenClaim.holds_of_cond 3 Try.f3 rfl rfl rfl rfl rfl rfl rfl ⟨rfl,rfl,rfl,rfl,rfl⟩ rfl rfl rfl rfl rfl (by kernel_rfl) Try.func3 closed
  (of_decide_eq_true (by kernel_rfl)) (by unfold Func.isWrapper;first | (rw [if_pos (by decide +kernel)];kernel_rfl) | (rw [if_neg (by decide +kernel)];exact⟨rfl,rfl⟩))
  (fun os started H enc _ F=>by rw [OpenClaim.pre_eq_preRow];exact lifted os started H enc F)
end Go.Proofs.Ytchahoiainbcaaa.regCosts
