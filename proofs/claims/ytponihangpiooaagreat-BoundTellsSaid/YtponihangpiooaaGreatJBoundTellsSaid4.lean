/-
  BoundTellsSaid: part 4 of its proof.
-/
import Derived.Test.YtponihangpiooaaGreatJBoundTellsSaid3
import Derived.BigQuiet
import Derived.Deep.QuietTactic
import Derived.Deep.CutBlock
import Derived.Deep.DeepCutAuto
import Derived.Deep.Upon
namespace Go.Proofs.YtponihangpiooaaGreat
open Go.RowKit Kv
set_option maxRecDepth 100000 in
set_option maxHeartbeats 1000000 in
theorem ralone1_r (a1 a2 a3 a4 a5 a6 a7 alg N mode lb ll room kd rb rl rn rw rr rt ba lo:Int)(a r:Int)(ha:0<=a/\a<=1000000000)(hr:0<=r/\r<=1000000000)(hA:∀ w,Calls Tryz.prog 87 #[.agg #[.int .i64 alg,.int .i64 N,.int .i64 mode,.int .i64 lb,.int .i64 ll,.int .i64 room]] w fun e w'=>e=.returned (.tuple #[.int .i64 a,.int .i64 r])/\Ext w w')(w:World) :
  Calls Tryz.prog 27 #[.agg #[.int .i64 1,.int .i64 a1,.int .i64 a2,.int .i64 a3,.int .i64 a4,.int .i64 a5,.int .i64 a6,.int .i64 a7,.int .i64 alg,.int .i64 N,.int .i64 mode,.int .i64 lb,.int .i64 ll,.int .i64 room,.int .i64 kd,.int .i64 rb,.int .i64 rl,.int .i64 rn,.int .i64 rw,.int .i64 rr,.int .i64 rt,.int .i64 ba,.int .i64 lo],.int .i64 1] w fun e w'=>e=.returned (.int .i64 (a))/\Ext w w':=by
 have hX:=Ext.refl w
 have b1:=Blk.new w (.cells #[.int .i64 1,.int .i64 a1,.int .i64 a2,.int .i64 a3,.int .i64 a4,.int .i64 a5,.int .i64 a6,.int .i64 a7,.int .i64 alg,.int .i64 N,.int .i64 mode,.int .i64 lb,.int .i64 ll,.int .i64 room,.int .i64 kd,.int .i64 rb,.int .i64 rl,.int .i64 rn,.int .i64 rw,.int .i64 rr,.int .i64 rt,.int .i64 ba,.int .i64 lo] 61)
 replace hX:=hX.alloc (.cells #[.int .i64 1,.int .i64 a1,.int .i64 a2,.int .i64 a3,.int .i64 a4,.int .i64 a5,.int .i64 a6,.int .i64 a7,.int .i64 alg,.int .i64 N,.int .i64 mode,.int .i64 lb,.int .i64 ll,.int .i64 room,.int .i64 kd,.int .i64 rb,.int .i64 rl,.int .i64 rn,.int .i64 rw,.int .i64 rr,.int .i64 rt,.int .i64 ba,.int .i64 lo] 61)
 have c_b1:=b1.cells
 clear c_b1
 go_enter Tryz.func27,Tryz.ntmps27
 go_wp2_with fail
 generalize hWW:w.alloc _=W at *
 have hS:∀ w',Ext W w'->w'.cell? ⟨w.heap.size,0,none⟩=some (.int .i64 1):=fun w' hx=>(b1.ext hx).cells 0
 have hx2:=(Ext.refl W).drew
 clear hWW
 refine wp_region_held_drew (S:=fun w'=>w'.cell? ⟨w.heap.size,0,none⟩=some (.int .i64 1)) rfl (hS _ hx2) (fun hHeld=>?_)
 refine tk 0 (v:=?_) rfl (by kernel_rfl) (fun _ _ _ h=>h) (by assumption) ?_ ?_
 rotate_left
 · (intro w hSw;(try dsimp only at hSw);go_simp;try with_reducible rfl)
 try simp only [put_pack]
 refine wpAnyH_ready (rs:=[1]) (by kernel_rfl) (by simp) ?_
 refine AllReadyH.cons rfl (fun K hKK=>?_) (AllReadyH.nil)
 go_simp
 refine (rkind_r _ _).mono ?_
 rintro e wk ⟨rfl,hx⟩
 replace hx2:=hx2.trans hx
 clear hx
 rw [show kindO 1=1 from rfl]
 refine hKK.out _ _ (hS _ hx2) (fun hHeld=>?_)
 clear hKK K
 try dsimp only
 refine tkb 2 ?_
 iterate 3
  refine tkn (v:=?_) rfl (by kernel_rfl) (fun _ _ _ h=>h) (by assumption) ?_ ?_
  rotate_left
  · (intro w hSw;(try dsimp only at hSw);go_simp;try with_reducible rfl)
  try simp only [put_pack]
 refine tke ?_
 refine tkb 6 ?_
 iterate 3
  refine tkn (v:=?_) rfl (by kernel_rfl) (fun _ _ _ h=>h) (by assumption) ?_ ?_
  rotate_left
  · (intro w hSw;(try dsimp only at hSw);go_simp;try with_reducible rfl)
  try simp only [put_pack]
 refine tke ?_
 refine wpAnyH_ready (rs:=[5]) (by kernel_rfl) (by simp) ?_
 refine AllReadyH.cons rfl (fun K hKK=>?_) (AllReadyH.nil)
 go_simp
 refine (rkind_r _ _).mono ?_
 rintro e wk ⟨rfl,hx⟩
 replace hx2:=hx2.trans hx
 clear hx
 rw [show kindO 1=1 from rfl]
 refine hKK.out _ _ (hS _ hx2) (fun hHeld=>?_)
 clear hKK K
 try dsimp only
 refine tkb 9 ?_
 iterate 6
  refine tkn (v:=?_) rfl (by kernel_rfl) (fun _ _ _ h=>h) (by assumption) ?_ ?_
  rotate_left
  · (intro w hSw;(try dsimp only at hSw);go_simp;try with_reducible rfl)
  try simp only [put_pack]
 refine tke ?_
 refine wpAnyH_done (by kernel_rfl) ?_ _
 go_simp
 replace b1:=b1.ext hx2
 replace hX:=hX.trans hx2
 clear hS hx2 hHeld
 have c_b1:=b1.cells
 go_wp2_with fail
 refine (hA _).mono ?_
 rintro e w2 ⟨rfl,hx⟩
 replace hX:=hX.trans hx
 clear hx hA c_b1 b1
 have hX9:=Lib.hid (hX.alloc (.cells #[.int .i64 0,.int .i64 a,.int .i64 r,.int .i64 (a+2+r),.int .i64 (a+2+r),.int .i64 (a+1+r),.int .i64 (2*a+6+2*r),.int .i64 (a+2+r),.int .i64 0,.int .i64 (2*a+7+2*r),.int .i64 (a+2+r),.int .i64 (2*a+7+2*r),.int .i64 (a+2+r),.int .i64 (a+2+r),.int .i64 (a+1+r)] 3))
 go_wp2_with fail
 go_ret
 exact⟨rfl,hX9.out⟩
set_option maxRecDepth 100000 in
set_option maxHeartbeats 1000000 in
theorem ralone2_r (a1 a2 a3 a4 a5 a6 a7 alg N mode lb ll room kd rb rl rn rw rr rt ba lo:Int)(a r:Int)(ha:0<=a/\a<=1000000000)(hr:0<=r/\r<=1000000000)(hA:∀ w,Calls Tryz.prog 87 #[.agg #[.int .i64 alg,.int .i64 N,.int .i64 mode,.int .i64 lb,.int .i64 ll,.int .i64 room]] w fun e w'=>e=.returned (.tuple #[.int .i64 a,.int .i64 r])/\Ext w w')(w:World) :
  Calls Tryz.prog 27 #[.agg #[.int .i64 1,.int .i64 a1,.int .i64 a2,.int .i64 a3,.int .i64 a4,.int .i64 a5,.int .i64 a6,.int .i64 a7,.int .i64 alg,.int .i64 N,.int .i64 mode,.int .i64 lb,.int .i64 ll,.int .i64 room,.int .i64 kd,.int .i64 rb,.int .i64 rl,.int .i64 rn,.int .i64 rw,.int .i64 rr,.int .i64 rt,.int .i64 ba,.int .i64 lo],.int .i64 2] w fun e w'=>e=.returned (.int .i64 (r))/\Ext w w':=by
 have hX:=Ext.refl w
 have b1:=Blk.new w (.cells #[.int .i64 1,.int .i64 a1,.int .i64 a2,.int .i64 a3,.int .i64 a4,.int .i64 a5,.int .i64 a6,.int .i64 a7,.int .i64 alg,.int .i64 N,.int .i64 mode,.int .i64 lb,.int .i64 ll,.int .i64 room,.int .i64 kd,.int .i64 rb,.int .i64 rl,.int .i64 rn,.int .i64 rw,.int .i64 rr,.int .i64 rt,.int .i64 ba,.int .i64 lo] 61)
 replace hX:=hX.alloc (.cells #[.int .i64 1,.int .i64 a1,.int .i64 a2,.int .i64 a3,.int .i64 a4,.int .i64 a5,.int .i64 a6,.int .i64 a7,.int .i64 alg,.int .i64 N,.int .i64 mode,.int .i64 lb,.int .i64 ll,.int .i64 room,.int .i64 kd,.int .i64 rb,.int .i64 rl,.int .i64 rn,.int .i64 rw,.int .i64 rr,.int .i64 rt,.int .i64 ba,.int .i64 lo] 61)
 have c_b1:=b1.cells
 clear c_b1
 go_enter Tryz.func27,Tryz.ntmps27
 go_wp2_with fail
 generalize hWW:w.alloc _=W at *
 have hS:∀ w',Ext W w'->w'.cell? ⟨w.heap.size,0,none⟩=some (.int .i64 1):=fun w' hx=>(b1.ext hx).cells 0
 have hx2:=(Ext.refl W).drew
 clear hWW
 refine wp_region_held_drew (S:=fun w'=>w'.cell? ⟨w.heap.size,0,none⟩=some (.int .i64 1)) rfl (hS _ hx2) (fun hHeld=>?_)
 refine tk 0 (v:=?_) rfl (by kernel_rfl) (fun _ _ _ h=>h) (by assumption) ?_ ?_
 rotate_left
 · (intro w hSw;(try dsimp only at hSw);go_simp;try with_reducible rfl)
 try simp only [put_pack]
 refine wpAnyH_ready (rs:=[1]) (by kernel_rfl) (by simp) ?_
 refine AllReadyH.cons rfl (fun K hKK=>?_) (AllReadyH.nil)
 go_simp
 refine (rkind_r _ _).mono ?_
 rintro e wk ⟨rfl,hx⟩
 replace hx2:=hx2.trans hx
 clear hx
 rw [show kindO 2=1 from rfl]
 refine hKK.out _ _ (hS _ hx2) (fun hHeld=>?_)
 clear hKK K
 try dsimp only
 refine tkb 2 ?_
 iterate 3
  refine tkn (v:=?_) rfl (by kernel_rfl) (fun _ _ _ h=>h) (by assumption) ?_ ?_
  rotate_left
  · (intro w hSw;(try dsimp only at hSw);go_simp;try with_reducible rfl)
  try simp only [put_pack]
 refine tke ?_
 refine tkb 6 ?_
 iterate 3
  refine tkn (v:=?_) rfl (by kernel_rfl) (fun _ _ _ h=>h) (by assumption) ?_ ?_
  rotate_left
  · (intro w hSw;(try dsimp only at hSw);go_simp;try with_reducible rfl)
  try simp only [put_pack]
 refine tke ?_
 refine wpAnyH_ready (rs:=[5]) (by kernel_rfl) (by simp) ?_
 refine AllReadyH.cons rfl (fun K hKK=>?_) (AllReadyH.nil)
 go_simp
 refine (rkind_r _ _).mono ?_
 rintro e wk ⟨rfl,hx⟩
 replace hx2:=hx2.trans hx
 clear hx
 rw [show kindO 2=1 from rfl]
 refine hKK.out _ _ (hS _ hx2) (fun hHeld=>?_)
 clear hKK K
 try dsimp only
 refine tkb 9 ?_
 iterate 6
  refine tkn (v:=?_) rfl (by kernel_rfl) (fun _ _ _ h=>h) (by assumption) ?_ ?_
  rotate_left
  · (intro w hSw;(try dsimp only at hSw);go_simp;try with_reducible rfl)
  try simp only [put_pack]
 refine tke ?_
 refine wpAnyH_done (by kernel_rfl) ?_ _
 go_simp
 replace b1:=b1.ext hx2
 replace hX:=hX.trans hx2
 clear hS hx2 hHeld
 have c_b1:=b1.cells
 go_wp2_with fail
 refine (hA _).mono ?_
 rintro e w2 ⟨rfl,hx⟩
 replace hX:=hX.trans hx
 clear hx hA c_b1 b1
 have hX9:=Lib.hid (hX.alloc (.cells #[.int .i64 0,.int .i64 a,.int .i64 r,.int .i64 (a+2+r),.int .i64 (a+2+r),.int .i64 (a+1+r),.int .i64 (2*a+6+2*r),.int .i64 (a+2+r),.int .i64 0,.int .i64 (2*a+7+2*r),.int .i64 (a+2+r),.int .i64 (2*a+7+2*r),.int .i64 (a+2+r),.int .i64 (a+2+r),.int .i64 (a+1+r)] 3))
 go_wp2_with fail
 go_ret
 exact⟨rfl,hX9.out⟩
set_option maxRecDepth 100000 in
set_option maxHeartbeats 1000000 in
theorem ralone3_r (a1 a2 a3 a4 a5 a6 a7 alg N mode lb ll room kd rb rl rn rw rr rt ba lo:Int)(a r:Int)(ha:0<=a/\a<=1000000000)(hr:0<=r/\r<=1000000000)(hA:∀ w,Calls Tryz.prog 87 #[.agg #[.int .i64 alg,.int .i64 N,.int .i64 mode,.int .i64 lb,.int .i64 ll,.int .i64 room]] w fun e w'=>e=.returned (.tuple #[.int .i64 a,.int .i64 r])/\Ext w w')(w:World) :
  Calls Tryz.prog 27 #[.agg #[.int .i64 2,.int .i64 a1,.int .i64 a2,.int .i64 a3,.int .i64 a4,.int .i64 a5,.int .i64 a6,.int .i64 a7,.int .i64 alg,.int .i64 N,.int .i64 mode,.int .i64 lb,.int .i64 ll,.int .i64 room,.int .i64 kd,.int .i64 rb,.int .i64 rl,.int .i64 rn,.int .i64 rw,.int .i64 rr,.int .i64 rt,.int .i64 ba,.int .i64 lo],.int .i64 3] w fun e w'=>e=.returned (.int .i64 (a+2+r))/\Ext w w':=by
 have hX:=Ext.refl w
 have b1:=Blk.new w (.cells #[.int .i64 2,.int .i64 a1,.int .i64 a2,.int .i64 a3,.int .i64 a4,.int .i64 a5,.int .i64 a6,.int .i64 a7,.int .i64 alg,.int .i64 N,.int .i64 mode,.int .i64 lb,.int .i64 ll,.int .i64 room,.int .i64 kd,.int .i64 rb,.int .i64 rl,.int .i64 rn,.int .i64 rw,.int .i64 rr,.int .i64 rt,.int .i64 ba,.int .i64 lo] 61)
 replace hX:=hX.alloc (.cells #[.int .i64 2,.int .i64 a1,.int .i64 a2,.int .i64 a3,.int .i64 a4,.int .i64 a5,.int .i64 a6,.int .i64 a7,.int .i64 alg,.int .i64 N,.int .i64 mode,.int .i64 lb,.int .i64 ll,.int .i64 room,.int .i64 kd,.int .i64 rb,.int .i64 rl,.int .i64 rn,.int .i64 rw,.int .i64 rr,.int .i64 rt,.int .i64 ba,.int .i64 lo] 61)
 have c_b1:=b1.cells
 clear c_b1
 go_enter Tryz.func27,Tryz.ntmps27
 go_wp2_with fail
 generalize hWW:w.alloc _=W at *
 have hS:∀ w',Ext W w'->w'.cell? ⟨w.heap.size,0,none⟩=some (.int .i64 2):=fun w' hx=>(b1.ext hx).cells 0
 have hx2:=(Ext.refl W).drew
 clear hWW
 refine wp_region_held_drew (S:=fun w'=>w'.cell? ⟨w.heap.size,0,none⟩=some (.int .i64 2)) rfl (hS _ hx2) (fun hHeld=>?_)
 refine tk 0 (v:=?_) rfl (by kernel_rfl) (fun _ _ _ h=>h) (by assumption) ?_ ?_
 rotate_left
 · (intro w hSw;(try dsimp only at hSw);go_simp;try with_reducible rfl)
 try simp only [put_pack]
 refine wpAnyH_ready (rs:=[1]) (by kernel_rfl) (by simp) ?_
 refine AllReadyH.cons rfl (fun K hKK=>?_) (AllReadyH.nil)
 go_simp
 refine (rkind_r _ _).mono ?_
 rintro e wk ⟨rfl,hx⟩
 replace hx2:=hx2.trans hx
 clear hx
 rw [show kindO 3=2 from rfl]
 refine hKK.out _ _ (hS _ hx2) (fun hHeld=>?_)
 clear hKK K
 try dsimp only
 refine tkb 2 ?_
 iterate 3
  refine tkn (v:=?_) rfl (by kernel_rfl) (fun _ _ _ h=>h) (by assumption) ?_ ?_
  rotate_left
  · (intro w hSw;(try dsimp only at hSw);go_simp;try with_reducible rfl)
  try simp only [put_pack]
 refine tke ?_
 refine tkb 6 ?_
 iterate 3
  refine tkn (v:=?_) rfl (by kernel_rfl) (fun _ _ _ h=>h) (by assumption) ?_ ?_
  rotate_left
  · (intro w hSw;(try dsimp only at hSw);go_simp;try with_reducible rfl)
  try simp only [put_pack]
 refine tke ?_
 refine wpAnyH_ready (rs:=[5]) (by kernel_rfl) (by simp) ?_
 refine AllReadyH.cons rfl (fun K hKK=>?_) (AllReadyH.nil)
 go_simp
 refine (rkind_r _ _).mono ?_
 rintro e wk ⟨rfl,hx⟩
 replace hx2:=hx2.trans hx
 clear hx
 rw [show kindO 3=2 from rfl]
 refine hKK.out _ _ (hS _ hx2) (fun hHeld=>?_)
 clear hKK K
 try dsimp only
 refine tkb 9 ?_
 iterate 6
  refine tkn (v:=?_) rfl (by kernel_rfl) (fun _ _ _ h=>h) (by assumption) ?_ ?_
  rotate_left
  · (intro w hSw;(try dsimp only at hSw);go_simp;try with_reducible rfl)
  try simp only [put_pack]
 refine tke ?_
 refine wpAnyH_done (by kernel_rfl) ?_ _
 go_simp
 replace b1:=b1.ext hx2
 replace hX:=hX.trans hx2
 clear hS hx2 hHeld
 have c_b1:=b1.cells
 go_wp2_with fail
 refine (hA _).mono ?_
 rintro e w2 ⟨rfl,hx⟩
 replace hX:=hX.trans hx
 clear hx hA c_b1 b1
 have hX9:=Lib.hid (hX.alloc (.cells #[.int .i64 0,.int .i64 a,.int .i64 r,.int .i64 (a+2+r),.int .i64 (a+2+r),.int .i64 (a+1+r),.int .i64 (2*a+6+2*r),.int .i64 (a+2+r),.int .i64 0,.int .i64 (2*a+7+2*r),.int .i64 (a+2+r),.int .i64 (2*a+7+2*r),.int .i64 (a+2+r),.int .i64 (a+2+r),.int .i64 (a+1+r)] 3))
 go_wp2_with fail
 go_ret
 exact⟨rfl,hX9.out⟩
set_option maxRecDepth 100000 in
set_option maxHeartbeats 1000000 in
theorem ralone4_r (a1 a2 a3 a4 a5 a6 a7 alg N mode lb ll room kd rb rl rn rw rr rt ba lo:Int)(a r:Int)(ha:0<=a/\a<=1000000000)(hr:0<=r/\r<=1000000000)(hA:∀ w,Calls Tryz.prog 87 #[.agg #[.int .i64 alg,.int .i64 N,.int .i64 mode,.int .i64 lb,.int .i64 ll,.int .i64 room]] w fun e w'=>e=.returned (.tuple #[.int .i64 a,.int .i64 r])/\Ext w w')(w:World) :
  Calls Tryz.prog 27 #[.agg #[.int .i64 2,.int .i64 a1,.int .i64 a2,.int .i64 a3,.int .i64 a4,.int .i64 a5,.int .i64 a6,.int .i64 a7,.int .i64 alg,.int .i64 N,.int .i64 mode,.int .i64 lb,.int .i64 ll,.int .i64 room,.int .i64 kd,.int .i64 rb,.int .i64 rl,.int .i64 rn,.int .i64 rw,.int .i64 rr,.int .i64 rt,.int .i64 ba,.int .i64 lo],.int .i64 4] w fun e w'=>e=.returned (.int .i64 (a+2+r))/\Ext w w':=by
 have hX:=Ext.refl w
 have b1:=Blk.new w (.cells #[.int .i64 2,.int .i64 a1,.int .i64 a2,.int .i64 a3,.int .i64 a4,.int .i64 a5,.int .i64 a6,.int .i64 a7,.int .i64 alg,.int .i64 N,.int .i64 mode,.int .i64 lb,.int .i64 ll,.int .i64 room,.int .i64 kd,.int .i64 rb,.int .i64 rl,.int .i64 rn,.int .i64 rw,.int .i64 rr,.int .i64 rt,.int .i64 ba,.int .i64 lo] 61)
 replace hX:=hX.alloc (.cells #[.int .i64 2,.int .i64 a1,.int .i64 a2,.int .i64 a3,.int .i64 a4,.int .i64 a5,.int .i64 a6,.int .i64 a7,.int .i64 alg,.int .i64 N,.int .i64 mode,.int .i64 lb,.int .i64 ll,.int .i64 room,.int .i64 kd,.int .i64 rb,.int .i64 rl,.int .i64 rn,.int .i64 rw,.int .i64 rr,.int .i64 rt,.int .i64 ba,.int .i64 lo] 61)
 have c_b1:=b1.cells
 clear c_b1
 go_enter Tryz.func27,Tryz.ntmps27
 go_wp2_with fail
 generalize hWW:w.alloc _=W at *
 have hS:∀ w',Ext W w'->w'.cell? ⟨w.heap.size,0,none⟩=some (.int .i64 2):=fun w' hx=>(b1.ext hx).cells 0
 have hx2:=(Ext.refl W).drew
 clear hWW
 refine wp_region_held_drew (S:=fun w'=>w'.cell? ⟨w.heap.size,0,none⟩=some (.int .i64 2)) rfl (hS _ hx2) (fun hHeld=>?_)
 refine tk 0 (v:=?_) rfl (by kernel_rfl) (fun _ _ _ h=>h) (by assumption) ?_ ?_
 rotate_left
 · (intro w hSw;(try dsimp only at hSw);go_simp;try with_reducible rfl)
 try simp only [put_pack]
 refine wpAnyH_ready (rs:=[1]) (by kernel_rfl) (by simp) ?_
 refine AllReadyH.cons rfl (fun K hKK=>?_) (AllReadyH.nil)
 go_simp
 refine (rkind_r _ _).mono ?_
 rintro e wk ⟨rfl,hx⟩
 replace hx2:=hx2.trans hx
 clear hx
 rw [show kindO 4=2 from rfl]
 refine hKK.out _ _ (hS _ hx2) (fun hHeld=>?_)
 clear hKK K
 try dsimp only
 refine tkb 2 ?_
 iterate 3
  refine tkn (v:=?_) rfl (by kernel_rfl) (fun _ _ _ h=>h) (by assumption) ?_ ?_
  rotate_left
  · (intro w hSw;(try dsimp only at hSw);go_simp;try with_reducible rfl)
  try simp only [put_pack]
 refine tke ?_
 refine tkb 6 ?_
 iterate 3
  refine tkn (v:=?_) rfl (by kernel_rfl) (fun _ _ _ h=>h) (by assumption) ?_ ?_
  rotate_left
  · (intro w hSw;(try dsimp only at hSw);go_simp;try with_reducible rfl)
  try simp only [put_pack]
 refine tke ?_
 refine wpAnyH_ready (rs:=[5]) (by kernel_rfl) (by simp) ?_
 refine AllReadyH.cons rfl (fun K hKK=>?_) (AllReadyH.nil)
 go_simp
 refine (rkind_r _ _).mono ?_
 rintro e wk ⟨rfl,hx⟩
 replace hx2:=hx2.trans hx
 clear hx
 rw [show kindO 4=2 from rfl]
 refine hKK.out _ _ (hS _ hx2) (fun hHeld=>?_)
 clear hKK K
 try dsimp only
 refine tkb 9 ?_
 iterate 6
  refine tkn (v:=?_) rfl (by kernel_rfl) (fun _ _ _ h=>h) (by assumption) ?_ ?_
  rotate_left
  · (intro w hSw;(try dsimp only at hSw);go_simp;try with_reducible rfl)
  try simp only [put_pack]
 refine tke ?_
 refine wpAnyH_done (by kernel_rfl) ?_ _
 go_simp
 replace b1:=b1.ext hx2
 replace hX:=hX.trans hx2
 clear hS hx2 hHeld
 have c_b1:=b1.cells
 go_wp2_with fail
 refine (hA _).mono ?_
 rintro e w2 ⟨rfl,hx⟩
 replace hX:=hX.trans hx
 clear hx hA c_b1 b1
 have hX9:=Lib.hid (hX.alloc (.cells #[.int .i64 0,.int .i64 a,.int .i64 r,.int .i64 (a+2+r),.int .i64 (a+2+r),.int .i64 (a+1+r),.int .i64 (2*a+6+2*r),.int .i64 (a+2+r),.int .i64 0,.int .i64 (2*a+7+2*r),.int .i64 (a+2+r),.int .i64 (2*a+7+2*r),.int .i64 (a+2+r),.int .i64 (a+2+r),.int .i64 (a+1+r)] 3))
 go_wp2_with fail
 go_ret
 exact⟨rfl,hX9.out⟩
set_option maxRecDepth 100000 in
set_option maxHeartbeats 1000000 in
theorem ralone5_r (a1 a2 a3 a4 a5 a6 a7 alg N mode lb ll room kd rb rl rn rw rr rt ba lo:Int)(a r:Int)(ha:0<=a/\a<=1000000000)(hr:0<=r/\r<=1000000000)(hA:∀ w,Calls Tryz.prog 87 #[.agg #[.int .i64 alg,.int .i64 N,.int .i64 mode,.int .i64 lb,.int .i64 ll,.int .i64 room]] w fun e w'=>e=.returned (.tuple #[.int .i64 a,.int .i64 r])/\Ext w w')(w:World) :
  Calls Tryz.prog 27 #[.agg #[.int .i64 2,.int .i64 a1,.int .i64 a2,.int .i64 a3,.int .i64 a4,.int .i64 a5,.int .i64 a6,.int .i64 a7,.int .i64 alg,.int .i64 N,.int .i64 mode,.int .i64 lb,.int .i64 ll,.int .i64 room,.int .i64 kd,.int .i64 rb,.int .i64 rl,.int .i64 rn,.int .i64 rw,.int .i64 rr,.int .i64 rt,.int .i64 ba,.int .i64 lo],.int .i64 5] w fun e w'=>e=.returned (.int .i64 (a+1+r))/\Ext w w':=by
 have hX:=Ext.refl w
 have b1:=Blk.new w (.cells #[.int .i64 2,.int .i64 a1,.int .i64 a2,.int .i64 a3,.int .i64 a4,.int .i64 a5,.int .i64 a6,.int .i64 a7,.int .i64 alg,.int .i64 N,.int .i64 mode,.int .i64 lb,.int .i64 ll,.int .i64 room,.int .i64 kd,.int .i64 rb,.int .i64 rl,.int .i64 rn,.int .i64 rw,.int .i64 rr,.int .i64 rt,.int .i64 ba,.int .i64 lo] 61)
 replace hX:=hX.alloc (.cells #[.int .i64 2,.int .i64 a1,.int .i64 a2,.int .i64 a3,.int .i64 a4,.int .i64 a5,.int .i64 a6,.int .i64 a7,.int .i64 alg,.int .i64 N,.int .i64 mode,.int .i64 lb,.int .i64 ll,.int .i64 room,.int .i64 kd,.int .i64 rb,.int .i64 rl,.int .i64 rn,.int .i64 rw,.int .i64 rr,.int .i64 rt,.int .i64 ba,.int .i64 lo] 61)
 have c_b1:=b1.cells
 clear c_b1
 go_enter Tryz.func27,Tryz.ntmps27
 go_wp2_with fail
 generalize hWW:w.alloc _=W at *
 have hS:∀ w',Ext W w'->w'.cell? ⟨w.heap.size,0,none⟩=some (.int .i64 2):=fun w' hx=>(b1.ext hx).cells 0
 have hx2:=(Ext.refl W).drew
 clear hWW
 refine wp_region_held_drew (S:=fun w'=>w'.cell? ⟨w.heap.size,0,none⟩=some (.int .i64 2)) rfl (hS _ hx2) (fun hHeld=>?_)
 refine tk 0 (v:=?_) rfl (by kernel_rfl) (fun _ _ _ h=>h) (by assumption) ?_ ?_
 rotate_left
 · (intro w hSw;(try dsimp only at hSw);go_simp;try with_reducible rfl)
 try simp only [put_pack]
 refine wpAnyH_ready (rs:=[1]) (by kernel_rfl) (by simp) ?_
 refine AllReadyH.cons rfl (fun K hKK=>?_) (AllReadyH.nil)
 go_simp
 refine (rkind_r _ _).mono ?_
 rintro e wk ⟨rfl,hx⟩
 replace hx2:=hx2.trans hx
 clear hx
 rw [show kindO 5=2 from rfl]
 refine hKK.out _ _ (hS _ hx2) (fun hHeld=>?_)
 clear hKK K
 try dsimp only
 refine tkb 2 ?_
 iterate 3
  refine tkn (v:=?_) rfl (by kernel_rfl) (fun _ _ _ h=>h) (by assumption) ?_ ?_
  rotate_left
  · (intro w hSw;(try dsimp only at hSw);go_simp;try with_reducible rfl)
  try simp only [put_pack]
 refine tke ?_
 refine tkb 6 ?_
 iterate 3
  refine tkn (v:=?_) rfl (by kernel_rfl) (fun _ _ _ h=>h) (by assumption) ?_ ?_
  rotate_left
  · (intro w hSw;(try dsimp only at hSw);go_simp;try with_reducible rfl)
  try simp only [put_pack]
 refine tke ?_
 refine wpAnyH_ready (rs:=[5]) (by kernel_rfl) (by simp) ?_
 refine AllReadyH.cons rfl (fun K hKK=>?_) (AllReadyH.nil)
 go_simp
 refine (rkind_r _ _).mono ?_
 rintro e wk ⟨rfl,hx⟩
 replace hx2:=hx2.trans hx
 clear hx
 rw [show kindO 5=2 from rfl]
 refine hKK.out _ _ (hS _ hx2) (fun hHeld=>?_)
 clear hKK K
 try dsimp only
 refine tkb 9 ?_
 iterate 6
  refine tkn (v:=?_) rfl (by kernel_rfl) (fun _ _ _ h=>h) (by assumption) ?_ ?_
  rotate_left
  · (intro w hSw;(try dsimp only at hSw);go_simp;try with_reducible rfl)
  try simp only [put_pack]
 refine tke ?_
 refine wpAnyH_done (by kernel_rfl) ?_ _
 go_simp
 replace b1:=b1.ext hx2
 replace hX:=hX.trans hx2
 clear hS hx2 hHeld
 have c_b1:=b1.cells
 go_wp2_with fail
 refine (hA _).mono ?_
 rintro e w2 ⟨rfl,hx⟩
 replace hX:=hX.trans hx
 clear hx hA c_b1 b1
 have hX9:=Lib.hid (hX.alloc (.cells #[.int .i64 0,.int .i64 a,.int .i64 r,.int .i64 (a+2+r),.int .i64 (a+2+r),.int .i64 (a+1+r),.int .i64 (2*a+6+2*r),.int .i64 (a+2+r),.int .i64 0,.int .i64 (2*a+7+2*r),.int .i64 (a+2+r),.int .i64 (2*a+7+2*r),.int .i64 (a+2+r),.int .i64 (a+2+r),.int .i64 (a+1+r)] 3))
 go_wp2_with fail
 go_ret
 exact⟨rfl,hX9.out⟩
set_option maxRecDepth 100000 in
set_option maxHeartbeats 1000000 in
theorem ralone6_r (a1 a2 a3 a4 a5 a6 a7 alg N mode lb ll room kd rb rl rn rw rr rt ba lo:Int)(a r:Int)(ha:0<=a/\a<=1000000000)(hr:0<=r/\r<=1000000000)(hA:∀ w,Calls Tryz.prog 87 #[.agg #[.int .i64 alg,.int .i64 N,.int .i64 mode,.int .i64 lb,.int .i64 ll,.int .i64 room]] w fun e w'=>e=.returned (.tuple #[.int .i64 a,.int .i64 r])/\Ext w w')(w:World) :
  Calls Tryz.prog 27 #[.agg #[.int .i64 3,.int .i64 a1,.int .i64 a2,.int .i64 a3,.int .i64 a4,.int .i64 a5,.int .i64 a6,.int .i64 a7,.int .i64 alg,.int .i64 N,.int .i64 mode,.int .i64 lb,.int .i64 ll,.int .i64 room,.int .i64 kd,.int .i64 rb,.int .i64 rl,.int .i64 rn,.int .i64 rw,.int .i64 rr,.int .i64 rt,.int .i64 ba,.int .i64 lo],.int .i64 6] w fun e w'=>e=.returned (.int .i64 (2*a+6+2*r))/\Ext w w':=by
 have hX:=Ext.refl w
 have b1:=Blk.new w (.cells #[.int .i64 3,.int .i64 a1,.int .i64 a2,.int .i64 a3,.int .i64 a4,.int .i64 a5,.int .i64 a6,.int .i64 a7,.int .i64 alg,.int .i64 N,.int .i64 mode,.int .i64 lb,.int .i64 ll,.int .i64 room,.int .i64 kd,.int .i64 rb,.int .i64 rl,.int .i64 rn,.int .i64 rw,.int .i64 rr,.int .i64 rt,.int .i64 ba,.int .i64 lo] 61)
 replace hX:=hX.alloc (.cells #[.int .i64 3,.int .i64 a1,.int .i64 a2,.int .i64 a3,.int .i64 a4,.int .i64 a5,.int .i64 a6,.int .i64 a7,.int .i64 alg,.int .i64 N,.int .i64 mode,.int .i64 lb,.int .i64 ll,.int .i64 room,.int .i64 kd,.int .i64 rb,.int .i64 rl,.int .i64 rn,.int .i64 rw,.int .i64 rr,.int .i64 rt,.int .i64 ba,.int .i64 lo] 61)
 have c_b1:=b1.cells
 clear c_b1
 go_enter Tryz.func27,Tryz.ntmps27
 go_wp2_with fail
 generalize hWW:w.alloc _=W at *
 have hS:∀ w',Ext W w'->w'.cell? ⟨w.heap.size,0,none⟩=some (.int .i64 3):=fun w' hx=>(b1.ext hx).cells 0
 have hx2:=(Ext.refl W).drew
 clear hWW
 refine wp_region_held_drew (S:=fun w'=>w'.cell? ⟨w.heap.size,0,none⟩=some (.int .i64 3)) rfl (hS _ hx2) (fun hHeld=>?_)
 refine tk 0 (v:=?_) rfl (by kernel_rfl) (fun _ _ _ h=>h) (by assumption) ?_ ?_
 rotate_left
 · (intro w hSw;(try dsimp only at hSw);go_simp;try with_reducible rfl)
 try simp only [put_pack]
 refine wpAnyH_ready (rs:=[1]) (by kernel_rfl) (by simp) ?_
 refine AllReadyH.cons rfl (fun K hKK=>?_) (AllReadyH.nil)
 go_simp
 refine (rkind_r _ _).mono ?_
 rintro e wk ⟨rfl,hx⟩
 replace hx2:=hx2.trans hx
 clear hx
 rw [show kindO 6=3 from rfl]
 refine hKK.out _ _ (hS _ hx2) (fun hHeld=>?_)
 clear hKK K
 try dsimp only
 refine tkb 2 ?_
 iterate 3
  refine tkn (v:=?_) rfl (by kernel_rfl) (fun _ _ _ h=>h) (by assumption) ?_ ?_
  rotate_left
  · (intro w hSw;(try dsimp only at hSw);go_simp;try with_reducible rfl)
  try simp only [put_pack]
 refine tke ?_
 refine tkb 6 ?_
 iterate 3
  refine tkn (v:=?_) rfl (by kernel_rfl) (fun _ _ _ h=>h) (by assumption) ?_ ?_
  rotate_left
  · (intro w hSw;(try dsimp only at hSw);go_simp;try with_reducible rfl)
  try simp only [put_pack]
 refine tke ?_
 refine wpAnyH_ready (rs:=[5]) (by kernel_rfl) (by simp) ?_
 refine AllReadyH.cons rfl (fun K hKK=>?_) (AllReadyH.nil)
 go_simp
 refine (rkind_r _ _).mono ?_
 rintro e wk ⟨rfl,hx⟩
 replace hx2:=hx2.trans hx
 clear hx
 rw [show kindO 6=3 from rfl]
 refine hKK.out _ _ (hS _ hx2) (fun hHeld=>?_)
 clear hKK K
 try dsimp only
 refine tkb 9 ?_
 iterate 6
  refine tkn (v:=?_) rfl (by kernel_rfl) (fun _ _ _ h=>h) (by assumption) ?_ ?_
  rotate_left
  · (intro w hSw;(try dsimp only at hSw);go_simp;try with_reducible rfl)
  try simp only [put_pack]
 refine tke ?_
 refine wpAnyH_done (by kernel_rfl) ?_ _
 go_simp
 replace b1:=b1.ext hx2
 replace hX:=hX.trans hx2
 clear hS hx2 hHeld
 have c_b1:=b1.cells
 go_wp2_with fail
 refine (hA _).mono ?_
 rintro e w2 ⟨rfl,hx⟩
 replace hX:=hX.trans hx
 clear hx hA c_b1 b1
 have hX9:=Lib.hid (hX.alloc (.cells #[.int .i64 0,.int .i64 a,.int .i64 r,.int .i64 (a+2+r),.int .i64 (a+2+r),.int .i64 (a+1+r),.int .i64 (2*a+6+2*r),.int .i64 (a+2+r),.int .i64 0,.int .i64 (2*a+7+2*r),.int .i64 (a+2+r),.int .i64 (2*a+7+2*r),.int .i64 (a+2+r),.int .i64 (a+2+r),.int .i64 (a+1+r)] 3))
 go_wp2_with fail
 go_ret
 exact⟨rfl,hX9.out⟩
set_option maxRecDepth 100000 in
set_option maxHeartbeats 1000000 in
theorem ralone7_r (a1 a2 a3 a4 a5 a6 a7 alg N mode lb ll room kd rb rl rn rw rr rt ba lo:Int)(a r:Int)(ha:0<=a/\a<=1000000000)(hr:0<=r/\r<=1000000000)(hA:∀ w,Calls Tryz.prog 87 #[.agg #[.int .i64 alg,.int .i64 N,.int .i64 mode,.int .i64 lb,.int .i64 ll,.int .i64 room]] w fun e w'=>e=.returned (.tuple #[.int .i64 a,.int .i64 r])/\Ext w w')(w:World) :
  Calls Tryz.prog 27 #[.agg #[.int .i64 3,.int .i64 a1,.int .i64 a2,.int .i64 a3,.int .i64 a4,.int .i64 a5,.int .i64 a6,.int .i64 a7,.int .i64 alg,.int .i64 N,.int .i64 mode,.int .i64 lb,.int .i64 ll,.int .i64 room,.int .i64 kd,.int .i64 rb,.int .i64 rl,.int .i64 rn,.int .i64 rw,.int .i64 rr,.int .i64 rt,.int .i64 ba,.int .i64 lo],.int .i64 7] w fun e w'=>e=.returned (.int .i64 (a+2+r))/\Ext w w':=by
 have hX:=Ext.refl w
 have b1:=Blk.new w (.cells #[.int .i64 3,.int .i64 a1,.int .i64 a2,.int .i64 a3,.int .i64 a4,.int .i64 a5,.int .i64 a6,.int .i64 a7,.int .i64 alg,.int .i64 N,.int .i64 mode,.int .i64 lb,.int .i64 ll,.int .i64 room,.int .i64 kd,.int .i64 rb,.int .i64 rl,.int .i64 rn,.int .i64 rw,.int .i64 rr,.int .i64 rt,.int .i64 ba,.int .i64 lo] 61)
 replace hX:=hX.alloc (.cells #[.int .i64 3,.int .i64 a1,.int .i64 a2,.int .i64 a3,.int .i64 a4,.int .i64 a5,.int .i64 a6,.int .i64 a7,.int .i64 alg,.int .i64 N,.int .i64 mode,.int .i64 lb,.int .i64 ll,.int .i64 room,.int .i64 kd,.int .i64 rb,.int .i64 rl,.int .i64 rn,.int .i64 rw,.int .i64 rr,.int .i64 rt,.int .i64 ba,.int .i64 lo] 61)
 have c_b1:=b1.cells
 clear c_b1
 go_enter Tryz.func27,Tryz.ntmps27
 go_wp2_with fail
 generalize hWW:w.alloc _=W at *
 have hS:∀ w',Ext W w'->w'.cell? ⟨w.heap.size,0,none⟩=some (.int .i64 3):=fun w' hx=>(b1.ext hx).cells 0
 have hx2:=(Ext.refl W).drew
 clear hWW
 refine wp_region_held_drew (S:=fun w'=>w'.cell? ⟨w.heap.size,0,none⟩=some (.int .i64 3)) rfl (hS _ hx2) (fun hHeld=>?_)
 refine tk 0 (v:=?_) rfl (by kernel_rfl) (fun _ _ _ h=>h) (by assumption) ?_ ?_
 rotate_left
 · (intro w hSw;(try dsimp only at hSw);go_simp;try with_reducible rfl)
 try simp only [put_pack]
 refine wpAnyH_ready (rs:=[1]) (by kernel_rfl) (by simp) ?_
 refine AllReadyH.cons rfl (fun K hKK=>?_) (AllReadyH.nil)
 go_simp
 refine (rkind_r _ _).mono ?_
 rintro e wk ⟨rfl,hx⟩
 replace hx2:=hx2.trans hx
 clear hx
 rw [show kindO 7=3 from rfl]
 refine hKK.out _ _ (hS _ hx2) (fun hHeld=>?_)
 clear hKK K
 try dsimp only
 refine tkb 2 ?_
 iterate 3
  refine tkn (v:=?_) rfl (by kernel_rfl) (fun _ _ _ h=>h) (by assumption) ?_ ?_
  rotate_left
  · (intro w hSw;(try dsimp only at hSw);go_simp;try with_reducible rfl)
  try simp only [put_pack]
 refine tke ?_
 refine tkb 6 ?_
 iterate 3
  refine tkn (v:=?_) rfl (by kernel_rfl) (fun _ _ _ h=>h) (by assumption) ?_ ?_
  rotate_left
  · (intro w hSw;(try dsimp only at hSw);go_simp;try with_reducible rfl)
  try simp only [put_pack]
 refine tke ?_
 refine wpAnyH_ready (rs:=[5]) (by kernel_rfl) (by simp) ?_
 refine AllReadyH.cons rfl (fun K hKK=>?_) (AllReadyH.nil)
 go_simp
 refine (rkind_r _ _).mono ?_
 rintro e wk ⟨rfl,hx⟩
 replace hx2:=hx2.trans hx
 clear hx
 rw [show kindO 7=3 from rfl]
 refine hKK.out _ _ (hS _ hx2) (fun hHeld=>?_)
 clear hKK K
 try dsimp only
 refine tkb 9 ?_
 iterate 6
  refine tkn (v:=?_) rfl (by kernel_rfl) (fun _ _ _ h=>h) (by assumption) ?_ ?_
  rotate_left
  · (intro w hSw;(try dsimp only at hSw);go_simp;try with_reducible rfl)
  try simp only [put_pack]
 refine tke ?_
 refine wpAnyH_done (by kernel_rfl) ?_ _
 go_simp
 replace b1:=b1.ext hx2
 replace hX:=hX.trans hx2
 clear hS hx2 hHeld
 have c_b1:=b1.cells
 go_wp2_with fail
 refine (hA _).mono ?_
 rintro e w2 ⟨rfl,hx⟩
 replace hX:=hX.trans hx
 clear hx hA c_b1 b1
 have hX9:=Lib.hid (hX.alloc (.cells #[.int .i64 0,.int .i64 a,.int .i64 r,.int .i64 (a+2+r),.int .i64 (a+2+r),.int .i64 (a+1+r),.int .i64 (2*a+6+2*r),.int .i64 (a+2+r),.int .i64 0,.int .i64 (2*a+7+2*r),.int .i64 (a+2+r),.int .i64 (2*a+7+2*r),.int .i64 (a+2+r),.int .i64 (a+2+r),.int .i64 (a+1+r)] 3))
 go_wp2_with fail
 go_ret
 exact⟨rfl,hX9.out⟩
set_option maxRecDepth 100000 in
set_option maxHeartbeats 1000000 in
theorem ralone9_r (a1 a2 a3 a4 a5 a6 a7 alg N mode lb ll room kd rb rl rn rw rr rt ba lo:Int)(a r:Int)(ha:0<=a/\a<=1000000000)(hr:0<=r/\r<=1000000000)(hA:∀ w,Calls Tryz.prog 87 #[.agg #[.int .i64 alg,.int .i64 N,.int .i64 mode,.int .i64 lb,.int .i64 ll,.int .i64 room]] w fun e w'=>e=.returned (.tuple #[.int .i64 a,.int .i64 r])/\Ext w w')(w:World) :
  Calls Tryz.prog 27 #[.agg #[.int .i64 5,.int .i64 a1,.int .i64 a2,.int .i64 a3,.int .i64 a4,.int .i64 a5,.int .i64 a6,.int .i64 a7,.int .i64 alg,.int .i64 N,.int .i64 mode,.int .i64 lb,.int .i64 ll,.int .i64 room,.int .i64 kd,.int .i64 rb,.int .i64 rl,.int .i64 rn,.int .i64 rw,.int .i64 rr,.int .i64 rt,.int .i64 ba,.int .i64 lo],.int .i64 9] w fun e w'=>e=.returned (.int .i64 (2*a+7+2*r))/\Ext w w':=by
 have hX:=Ext.refl w
 have b1:=Blk.new w (.cells #[.int .i64 5,.int .i64 a1,.int .i64 a2,.int .i64 a3,.int .i64 a4,.int .i64 a5,.int .i64 a6,.int .i64 a7,.int .i64 alg,.int .i64 N,.int .i64 mode,.int .i64 lb,.int .i64 ll,.int .i64 room,.int .i64 kd,.int .i64 rb,.int .i64 rl,.int .i64 rn,.int .i64 rw,.int .i64 rr,.int .i64 rt,.int .i64 ba,.int .i64 lo] 61)
 replace hX:=hX.alloc (.cells #[.int .i64 5,.int .i64 a1,.int .i64 a2,.int .i64 a3,.int .i64 a4,.int .i64 a5,.int .i64 a6,.int .i64 a7,.int .i64 alg,.int .i64 N,.int .i64 mode,.int .i64 lb,.int .i64 ll,.int .i64 room,.int .i64 kd,.int .i64 rb,.int .i64 rl,.int .i64 rn,.int .i64 rw,.int .i64 rr,.int .i64 rt,.int .i64 ba,.int .i64 lo] 61)
 have c_b1:=b1.cells
 clear c_b1
 go_enter Tryz.func27,Tryz.ntmps27
 go_wp2_with fail
 generalize hWW:w.alloc _=W at *
 have hS:∀ w',Ext W w'->w'.cell? ⟨w.heap.size,0,none⟩=some (.int .i64 5):=fun w' hx=>(b1.ext hx).cells 0
 have hx2:=(Ext.refl W).drew
 clear hWW
 refine wp_region_held_drew (S:=fun w'=>w'.cell? ⟨w.heap.size,0,none⟩=some (.int .i64 5)) rfl (hS _ hx2) (fun hHeld=>?_)
 refine tk 0 (v:=?_) rfl (by kernel_rfl) (fun _ _ _ h=>h) (by assumption) ?_ ?_
 rotate_left
 · (intro w hSw;(try dsimp only at hSw);go_simp;try with_reducible rfl)
 try simp only [put_pack]
 refine wpAnyH_ready (rs:=[1]) (by kernel_rfl) (by simp) ?_
 refine AllReadyH.cons rfl (fun K hKK=>?_) (AllReadyH.nil)
 go_simp
 refine (rkind_r _ _).mono ?_
 rintro e wk ⟨rfl,hx⟩
 replace hx2:=hx2.trans hx
 clear hx
 rw [show kindO 9=5 from rfl]
 refine hKK.out _ _ (hS _ hx2) (fun hHeld=>?_)
 clear hKK K
 try dsimp only
 refine tkb 2 ?_
 iterate 3
  refine tkn (v:=?_) rfl (by kernel_rfl) (fun _ _ _ h=>h) (by assumption) ?_ ?_
  rotate_left
  · (intro w hSw;(try dsimp only at hSw);go_simp;try with_reducible rfl)
  try simp only [put_pack]
 refine tke ?_
 refine tkb 6 ?_
 iterate 3
  refine tkn (v:=?_) rfl (by kernel_rfl) (fun _ _ _ h=>h) (by assumption) ?_ ?_
  rotate_left
  · (intro w hSw;(try dsimp only at hSw);go_simp;try with_reducible rfl)
  try simp only [put_pack]
 refine tke ?_
 refine wpAnyH_ready (rs:=[5]) (by kernel_rfl) (by simp) ?_
 refine AllReadyH.cons rfl (fun K hKK=>?_) (AllReadyH.nil)
 go_simp
 refine (rkind_r _ _).mono ?_
 rintro e wk ⟨rfl,hx⟩
 replace hx2:=hx2.trans hx
 clear hx
 rw [show kindO 9=5 from rfl]
 refine hKK.out _ _ (hS _ hx2) (fun hHeld=>?_)
 clear hKK K
 try dsimp only
 refine tkb 9 ?_
 iterate 6
  refine tkn (v:=?_) rfl (by kernel_rfl) (fun _ _ _ h=>h) (by assumption) ?_ ?_
  rotate_left
  · (intro w hSw;(try dsimp only at hSw);go_simp;try with_reducible rfl)
  try simp only [put_pack]
 refine tke ?_
 refine wpAnyH_done (by kernel_rfl) ?_ _
 go_simp
 replace b1:=b1.ext hx2
 replace hX:=hX.trans hx2
 clear hS hx2 hHeld
 have c_b1:=b1.cells
 go_wp2_with fail
 refine (hA _).mono ?_
 rintro e w2 ⟨rfl,hx⟩
 replace hX:=hX.trans hx
 clear hx hA c_b1 b1
 have hX9:=Lib.hid (hX.alloc (.cells #[.int .i64 0,.int .i64 a,.int .i64 r,.int .i64 (a+2+r),.int .i64 (a+2+r),.int .i64 (a+1+r),.int .i64 (2*a+6+2*r),.int .i64 (a+2+r),.int .i64 0,.int .i64 (2*a+7+2*r),.int .i64 (a+2+r),.int .i64 (2*a+7+2*r),.int .i64 (a+2+r),.int .i64 (a+2+r),.int .i64 (a+1+r)] 3))
 go_wp2_with fail
 go_ret
 exact⟨rfl,hX9.out⟩
set_option maxRecDepth 100000 in
set_option maxHeartbeats 1000000 in
theorem ralone10_r (a1 a2 a3 a4 a5 a6 a7 alg N mode lb ll room kd rb rl rn rw rr rt ba lo:Int)(a r:Int)(ha:0<=a/\a<=1000000000)(hr:0<=r/\r<=1000000000)(hA:∀ w,Calls Tryz.prog 87 #[.agg #[.int .i64 alg,.int .i64 N,.int .i64 mode,.int .i64 lb,.int .i64 ll,.int .i64 room]] w fun e w'=>e=.returned (.tuple #[.int .i64 a,.int .i64 r])/\Ext w w')(w:World) :
  Calls Tryz.prog 27 #[.agg #[.int .i64 5,.int .i64 a1,.int .i64 a2,.int .i64 a3,.int .i64 a4,.int .i64 a5,.int .i64 a6,.int .i64 a7,.int .i64 alg,.int .i64 N,.int .i64 mode,.int .i64 lb,.int .i64 ll,.int .i64 room,.int .i64 kd,.int .i64 rb,.int .i64 rl,.int .i64 rn,.int .i64 rw,.int .i64 rr,.int .i64 rt,.int .i64 ba,.int .i64 lo],.int .i64 10] w fun e w'=>e=.returned (.int .i64 (a+2+r))/\Ext w w':=by
 have hX:=Ext.refl w
 have b1:=Blk.new w (.cells #[.int .i64 5,.int .i64 a1,.int .i64 a2,.int .i64 a3,.int .i64 a4,.int .i64 a5,.int .i64 a6,.int .i64 a7,.int .i64 alg,.int .i64 N,.int .i64 mode,.int .i64 lb,.int .i64 ll,.int .i64 room,.int .i64 kd,.int .i64 rb,.int .i64 rl,.int .i64 rn,.int .i64 rw,.int .i64 rr,.int .i64 rt,.int .i64 ba,.int .i64 lo] 61)
 replace hX:=hX.alloc (.cells #[.int .i64 5,.int .i64 a1,.int .i64 a2,.int .i64 a3,.int .i64 a4,.int .i64 a5,.int .i64 a6,.int .i64 a7,.int .i64 alg,.int .i64 N,.int .i64 mode,.int .i64 lb,.int .i64 ll,.int .i64 room,.int .i64 kd,.int .i64 rb,.int .i64 rl,.int .i64 rn,.int .i64 rw,.int .i64 rr,.int .i64 rt,.int .i64 ba,.int .i64 lo] 61)
 have c_b1:=b1.cells
 clear c_b1
 go_enter Tryz.func27,Tryz.ntmps27
 go_wp2_with fail
 generalize hWW:w.alloc _=W at *
 have hS:∀ w',Ext W w'->w'.cell? ⟨w.heap.size,0,none⟩=some (.int .i64 5):=fun w' hx=>(b1.ext hx).cells 0
 have hx2:=(Ext.refl W).drew
 clear hWW
 refine wp_region_held_drew (S:=fun w'=>w'.cell? ⟨w.heap.size,0,none⟩=some (.int .i64 5)) rfl (hS _ hx2) (fun hHeld=>?_)
 refine tk 0 (v:=?_) rfl (by kernel_rfl) (fun _ _ _ h=>h) (by assumption) ?_ ?_
 rotate_left
 · (intro w hSw;(try dsimp only at hSw);go_simp;try with_reducible rfl)
 try simp only [put_pack]
 refine wpAnyH_ready (rs:=[1]) (by kernel_rfl) (by simp) ?_
 refine AllReadyH.cons rfl (fun K hKK=>?_) (AllReadyH.nil)
 go_simp
 refine (rkind_r _ _).mono ?_
 rintro e wk ⟨rfl,hx⟩
 replace hx2:=hx2.trans hx
 clear hx
 rw [show kindO 10=5 from rfl]
 refine hKK.out _ _ (hS _ hx2) (fun hHeld=>?_)
 clear hKK K
 try dsimp only
 refine tkb 2 ?_
 iterate 3
  refine tkn (v:=?_) rfl (by kernel_rfl) (fun _ _ _ h=>h) (by assumption) ?_ ?_
  rotate_left
  · (intro w hSw;(try dsimp only at hSw);go_simp;try with_reducible rfl)
  try simp only [put_pack]
 refine tke ?_
 refine tkb 6 ?_
 iterate 3
  refine tkn (v:=?_) rfl (by kernel_rfl) (fun _ _ _ h=>h) (by assumption) ?_ ?_
  rotate_left
  · (intro w hSw;(try dsimp only at hSw);go_simp;try with_reducible rfl)
  try simp only [put_pack]
 refine tke ?_
 refine wpAnyH_ready (rs:=[5]) (by kernel_rfl) (by simp) ?_
 refine AllReadyH.cons rfl (fun K hKK=>?_) (AllReadyH.nil)
 go_simp
 refine (rkind_r _ _).mono ?_
 rintro e wk ⟨rfl,hx⟩
 replace hx2:=hx2.trans hx
 clear hx
 rw [show kindO 10=5 from rfl]
 refine hKK.out _ _ (hS _ hx2) (fun hHeld=>?_)
 clear hKK K
 try dsimp only
 refine tkb 9 ?_
 iterate 6
  refine tkn (v:=?_) rfl (by kernel_rfl) (fun _ _ _ h=>h) (by assumption) ?_ ?_
  rotate_left
  · (intro w hSw;(try dsimp only at hSw);go_simp;try with_reducible rfl)
  try simp only [put_pack]
 refine tke ?_
 refine wpAnyH_done (by kernel_rfl) ?_ _
 go_simp
 replace b1:=b1.ext hx2
 replace hX:=hX.trans hx2
 clear hS hx2 hHeld
 have c_b1:=b1.cells
 go_wp2_with fail
 refine (hA _).mono ?_
 rintro e w2 ⟨rfl,hx⟩
 replace hX:=hX.trans hx
 clear hx hA c_b1 b1
 have hX9:=Lib.hid (hX.alloc (.cells #[.int .i64 0,.int .i64 a,.int .i64 r,.int .i64 (a+2+r),.int .i64 (a+2+r),.int .i64 (a+1+r),.int .i64 (2*a+6+2*r),.int .i64 (a+2+r),.int .i64 0,.int .i64 (2*a+7+2*r),.int .i64 (a+2+r),.int .i64 (2*a+7+2*r),.int .i64 (a+2+r),.int .i64 (a+2+r),.int .i64 (a+1+r)] 3))
 go_wp2_with fail
 go_ret
 exact⟨rfl,hX9.out⟩
set_option maxRecDepth 100000 in
set_option maxHeartbeats 1000000 in
theorem ralone11_r (a1 a2 a3 a4 a5 a6 a7 alg N mode lb ll room kd rb rl rn rw rr rt ba lo:Int)(a r:Int)(ha:0<=a/\a<=1000000000)(hr:0<=r/\r<=1000000000)(hA:∀ w,Calls Tryz.prog 87 #[.agg #[.int .i64 alg,.int .i64 N,.int .i64 mode,.int .i64 lb,.int .i64 ll,.int .i64 room]] w fun e w'=>e=.returned (.tuple #[.int .i64 a,.int .i64 r])/\Ext w w')(w:World) :
  Calls Tryz.prog 27 #[.agg #[.int .i64 5,.int .i64 a1,.int .i64 a2,.int .i64 a3,.int .i64 a4,.int .i64 a5,.int .i64 a6,.int .i64 a7,.int .i64 alg,.int .i64 N,.int .i64 mode,.int .i64 lb,.int .i64 ll,.int .i64 room,.int .i64 kd,.int .i64 rb,.int .i64 rl,.int .i64 rn,.int .i64 rw,.int .i64 rr,.int .i64 rt,.int .i64 ba,.int .i64 lo],.int .i64 11] w fun e w'=>e=.returned (.int .i64 (2*a+7+2*r))/\Ext w w':=by
 have hX:=Ext.refl w
 have b1:=Blk.new w (.cells #[.int .i64 5,.int .i64 a1,.int .i64 a2,.int .i64 a3,.int .i64 a4,.int .i64 a5,.int .i64 a6,.int .i64 a7,.int .i64 alg,.int .i64 N,.int .i64 mode,.int .i64 lb,.int .i64 ll,.int .i64 room,.int .i64 kd,.int .i64 rb,.int .i64 rl,.int .i64 rn,.int .i64 rw,.int .i64 rr,.int .i64 rt,.int .i64 ba,.int .i64 lo] 61)
 replace hX:=hX.alloc (.cells #[.int .i64 5,.int .i64 a1,.int .i64 a2,.int .i64 a3,.int .i64 a4,.int .i64 a5,.int .i64 a6,.int .i64 a7,.int .i64 alg,.int .i64 N,.int .i64 mode,.int .i64 lb,.int .i64 ll,.int .i64 room,.int .i64 kd,.int .i64 rb,.int .i64 rl,.int .i64 rn,.int .i64 rw,.int .i64 rr,.int .i64 rt,.int .i64 ba,.int .i64 lo] 61)
 have c_b1:=b1.cells
 clear c_b1
 go_enter Tryz.func27,Tryz.ntmps27
 go_wp2_with fail
 generalize hWW:w.alloc _=W at *
 have hS:∀ w',Ext W w'->w'.cell? ⟨w.heap.size,0,none⟩=some (.int .i64 5):=fun w' hx=>(b1.ext hx).cells 0
 have hx2:=(Ext.refl W).drew
 clear hWW
 refine wp_region_held_drew (S:=fun w'=>w'.cell? ⟨w.heap.size,0,none⟩=some (.int .i64 5)) rfl (hS _ hx2) (fun hHeld=>?_)
 refine tk 0 (v:=?_) rfl (by kernel_rfl) (fun _ _ _ h=>h) (by assumption) ?_ ?_
 rotate_left
 · (intro w hSw;(try dsimp only at hSw);go_simp;try with_reducible rfl)
 try simp only [put_pack]
 refine wpAnyH_ready (rs:=[1]) (by kernel_rfl) (by simp) ?_
 refine AllReadyH.cons rfl (fun K hKK=>?_) (AllReadyH.nil)
 go_simp
 refine (rkind_r _ _).mono ?_
 rintro e wk ⟨rfl,hx⟩
 replace hx2:=hx2.trans hx
 clear hx
 rw [show kindO 11=5 from rfl]
 refine hKK.out _ _ (hS _ hx2) (fun hHeld=>?_)
 clear hKK K
 try dsimp only
 refine tkb 2 ?_
 iterate 3
  refine tkn (v:=?_) rfl (by kernel_rfl) (fun _ _ _ h=>h) (by assumption) ?_ ?_
  rotate_left
  · (intro w hSw;(try dsimp only at hSw);go_simp;try with_reducible rfl)
  try simp only [put_pack]
 refine tke ?_
 refine tkb 6 ?_
 iterate 3
  refine tkn (v:=?_) rfl (by kernel_rfl) (fun _ _ _ h=>h) (by assumption) ?_ ?_
  rotate_left
  · (intro w hSw;(try dsimp only at hSw);go_simp;try with_reducible rfl)
  try simp only [put_pack]
 refine tke ?_
 refine wpAnyH_ready (rs:=[5]) (by kernel_rfl) (by simp) ?_
 refine AllReadyH.cons rfl (fun K hKK=>?_) (AllReadyH.nil)
 go_simp
 refine (rkind_r _ _).mono ?_
 rintro e wk ⟨rfl,hx⟩
 replace hx2:=hx2.trans hx
 clear hx
 rw [show kindO 11=5 from rfl]
 refine hKK.out _ _ (hS _ hx2) (fun hHeld=>?_)
 clear hKK K
 try dsimp only
 refine tkb 9 ?_
 iterate 6
  refine tkn (v:=?_) rfl (by kernel_rfl) (fun _ _ _ h=>h) (by assumption) ?_ ?_
  rotate_left
  · (intro w hSw;(try dsimp only at hSw);go_simp;try with_reducible rfl)
  try simp only [put_pack]
 refine tke ?_
 refine wpAnyH_done (by kernel_rfl) ?_ _
 go_simp
 replace b1:=b1.ext hx2
 replace hX:=hX.trans hx2
 clear hS hx2 hHeld
 have c_b1:=b1.cells
 go_wp2_with fail
 refine (hA _).mono ?_
 rintro e w2 ⟨rfl,hx⟩
 replace hX:=hX.trans hx
 clear hx hA c_b1 b1
 have hX9:=Lib.hid (hX.alloc (.cells #[.int .i64 0,.int .i64 a,.int .i64 r,.int .i64 (a+2+r),.int .i64 (a+2+r),.int .i64 (a+1+r),.int .i64 (2*a+6+2*r),.int .i64 (a+2+r),.int .i64 0,.int .i64 (2*a+7+2*r),.int .i64 (a+2+r),.int .i64 (2*a+7+2*r),.int .i64 (a+2+r),.int .i64 (a+2+r),.int .i64 (a+1+r)] 3))
 go_wp2_with fail
 go_ret
 exact⟨rfl,hX9.out⟩
set_option maxRecDepth 100000 in
set_option maxHeartbeats 1000000 in
theorem ralone12_r (a1 a2 a3 a4 a5 a6 a7 alg N mode lb ll room kd rb rl rn rw rr rt ba lo:Int)(a r:Int)(ha:0<=a/\a<=1000000000)(hr:0<=r/\r<=1000000000)(hA:∀ w,Calls Tryz.prog 87 #[.agg #[.int .i64 alg,.int .i64 N,.int .i64 mode,.int .i64 lb,.int .i64 ll,.int .i64 room]] w fun e w'=>e=.returned (.tuple #[.int .i64 a,.int .i64 r])/\Ext w w')(w:World) :
  Calls Tryz.prog 27 #[.agg #[.int .i64 5,.int .i64 a1,.int .i64 a2,.int .i64 a3,.int .i64 a4,.int .i64 a5,.int .i64 a6,.int .i64 a7,.int .i64 alg,.int .i64 N,.int .i64 mode,.int .i64 lb,.int .i64 ll,.int .i64 room,.int .i64 kd,.int .i64 rb,.int .i64 rl,.int .i64 rn,.int .i64 rw,.int .i64 rr,.int .i64 rt,.int .i64 ba,.int .i64 lo],.int .i64 12] w fun e w'=>e=.returned (.int .i64 (a+2+r))/\Ext w w':=by
 have hX:=Ext.refl w
 have b1:=Blk.new w (.cells #[.int .i64 5,.int .i64 a1,.int .i64 a2,.int .i64 a3,.int .i64 a4,.int .i64 a5,.int .i64 a6,.int .i64 a7,.int .i64 alg,.int .i64 N,.int .i64 mode,.int .i64 lb,.int .i64 ll,.int .i64 room,.int .i64 kd,.int .i64 rb,.int .i64 rl,.int .i64 rn,.int .i64 rw,.int .i64 rr,.int .i64 rt,.int .i64 ba,.int .i64 lo] 61)
 replace hX:=hX.alloc (.cells #[.int .i64 5,.int .i64 a1,.int .i64 a2,.int .i64 a3,.int .i64 a4,.int .i64 a5,.int .i64 a6,.int .i64 a7,.int .i64 alg,.int .i64 N,.int .i64 mode,.int .i64 lb,.int .i64 ll,.int .i64 room,.int .i64 kd,.int .i64 rb,.int .i64 rl,.int .i64 rn,.int .i64 rw,.int .i64 rr,.int .i64 rt,.int .i64 ba,.int .i64 lo] 61)
 have c_b1:=b1.cells
 clear c_b1
 go_enter Tryz.func27,Tryz.ntmps27
 go_wp2_with fail
 generalize hWW:w.alloc _=W at *
 have hS:∀ w',Ext W w'->w'.cell? ⟨w.heap.size,0,none⟩=some (.int .i64 5):=fun w' hx=>(b1.ext hx).cells 0
 have hx2:=(Ext.refl W).drew
 clear hWW
 refine wp_region_held_drew (S:=fun w'=>w'.cell? ⟨w.heap.size,0,none⟩=some (.int .i64 5)) rfl (hS _ hx2) (fun hHeld=>?_)
 refine tk 0 (v:=?_) rfl (by kernel_rfl) (fun _ _ _ h=>h) (by assumption) ?_ ?_
 rotate_left
 · (intro w hSw;(try dsimp only at hSw);go_simp;try with_reducible rfl)
 try simp only [put_pack]
 refine wpAnyH_ready (rs:=[1]) (by kernel_rfl) (by simp) ?_
 refine AllReadyH.cons rfl (fun K hKK=>?_) (AllReadyH.nil)
 go_simp
 refine (rkind_r _ _).mono ?_
 rintro e wk ⟨rfl,hx⟩
 replace hx2:=hx2.trans hx
 clear hx
 rw [show kindO 12=5 from rfl]
 refine hKK.out _ _ (hS _ hx2) (fun hHeld=>?_)
 clear hKK K
 try dsimp only
 refine tkb 2 ?_
 iterate 3
  refine tkn (v:=?_) rfl (by kernel_rfl) (fun _ _ _ h=>h) (by assumption) ?_ ?_
  rotate_left
  · (intro w hSw;(try dsimp only at hSw);go_simp;try with_reducible rfl)
  try simp only [put_pack]
 refine tke ?_
 refine tkb 6 ?_
 iterate 3
  refine tkn (v:=?_) rfl (by kernel_rfl) (fun _ _ _ h=>h) (by assumption) ?_ ?_
  rotate_left
  · (intro w hSw;(try dsimp only at hSw);go_simp;try with_reducible rfl)
  try simp only [put_pack]
 refine tke ?_
 refine wpAnyH_ready (rs:=[5]) (by kernel_rfl) (by simp) ?_
 refine AllReadyH.cons rfl (fun K hKK=>?_) (AllReadyH.nil)
 go_simp
 refine (rkind_r _ _).mono ?_
 rintro e wk ⟨rfl,hx⟩
 replace hx2:=hx2.trans hx
 clear hx
 rw [show kindO 12=5 from rfl]
 refine hKK.out _ _ (hS _ hx2) (fun hHeld=>?_)
 clear hKK K
 try dsimp only
 refine tkb 9 ?_
 iterate 6
  refine tkn (v:=?_) rfl (by kernel_rfl) (fun _ _ _ h=>h) (by assumption) ?_ ?_
  rotate_left
  · (intro w hSw;(try dsimp only at hSw);go_simp;try with_reducible rfl)
  try simp only [put_pack]
 refine tke ?_
 refine wpAnyH_done (by kernel_rfl) ?_ _
 go_simp
 replace b1:=b1.ext hx2
 replace hX:=hX.trans hx2
 clear hS hx2 hHeld
 have c_b1:=b1.cells
 go_wp2_with fail
 refine (hA _).mono ?_
 rintro e w2 ⟨rfl,hx⟩
 replace hX:=hX.trans hx
 clear hx hA c_b1 b1
 have hX9:=Lib.hid (hX.alloc (.cells #[.int .i64 0,.int .i64 a,.int .i64 r,.int .i64 (a+2+r),.int .i64 (a+2+r),.int .i64 (a+1+r),.int .i64 (2*a+6+2*r),.int .i64 (a+2+r),.int .i64 0,.int .i64 (2*a+7+2*r),.int .i64 (a+2+r),.int .i64 (2*a+7+2*r),.int .i64 (a+2+r),.int .i64 (a+2+r),.int .i64 (a+1+r)] 3))
 go_wp2_with fail
 go_ret
 exact⟨rfl,hX9.out⟩
set_option maxRecDepth 100000 in
set_option maxHeartbeats 1000000 in
theorem ralone13_r (a1 a2 a3 a4 a5 a6 a7 alg N mode lb ll room kd rb rl rn rw rr rt ba lo:Int)(a r:Int)(ha:0<=a/\a<=1000000000)(hr:0<=r/\r<=1000000000)(hA:∀ w,Calls Tryz.prog 87 #[.agg #[.int .i64 alg,.int .i64 N,.int .i64 mode,.int .i64 lb,.int .i64 ll,.int .i64 room]] w fun e w'=>e=.returned (.tuple #[.int .i64 a,.int .i64 r])/\Ext w w')(w:World) :
  Calls Tryz.prog 27 #[.agg #[.int .i64 6,.int .i64 a1,.int .i64 a2,.int .i64 a3,.int .i64 a4,.int .i64 a5,.int .i64 a6,.int .i64 a7,.int .i64 alg,.int .i64 N,.int .i64 mode,.int .i64 lb,.int .i64 ll,.int .i64 room,.int .i64 kd,.int .i64 rb,.int .i64 rl,.int .i64 rn,.int .i64 rw,.int .i64 rr,.int .i64 rt,.int .i64 ba,.int .i64 lo],.int .i64 13] w fun e w'=>e=.returned (.int .i64 (a+2+r))/\Ext w w':=by
 have hX:=Ext.refl w
 have b1:=Blk.new w (.cells #[.int .i64 6,.int .i64 a1,.int .i64 a2,.int .i64 a3,.int .i64 a4,.int .i64 a5,.int .i64 a6,.int .i64 a7,.int .i64 alg,.int .i64 N,.int .i64 mode,.int .i64 lb,.int .i64 ll,.int .i64 room,.int .i64 kd,.int .i64 rb,.int .i64 rl,.int .i64 rn,.int .i64 rw,.int .i64 rr,.int .i64 rt,.int .i64 ba,.int .i64 lo] 61)
 replace hX:=hX.alloc (.cells #[.int .i64 6,.int .i64 a1,.int .i64 a2,.int .i64 a3,.int .i64 a4,.int .i64 a5,.int .i64 a6,.int .i64 a7,.int .i64 alg,.int .i64 N,.int .i64 mode,.int .i64 lb,.int .i64 ll,.int .i64 room,.int .i64 kd,.int .i64 rb,.int .i64 rl,.int .i64 rn,.int .i64 rw,.int .i64 rr,.int .i64 rt,.int .i64 ba,.int .i64 lo] 61)
 have c_b1:=b1.cells
 clear c_b1
 go_enter Tryz.func27,Tryz.ntmps27
 go_wp2_with fail
 generalize hWW:w.alloc _=W at *
 have hS:∀ w',Ext W w'->w'.cell? ⟨w.heap.size,0,none⟩=some (.int .i64 6):=fun w' hx=>(b1.ext hx).cells 0
 have hx2:=(Ext.refl W).drew
 clear hWW
 refine wp_region_held_drew (S:=fun w'=>w'.cell? ⟨w.heap.size,0,none⟩=some (.int .i64 6)) rfl (hS _ hx2) (fun hHeld=>?_)
 refine tk 0 (v:=?_) rfl (by kernel_rfl) (fun _ _ _ h=>h) (by assumption) ?_ ?_
 rotate_left
 · (intro w hSw;(try dsimp only at hSw);go_simp;try with_reducible rfl)
 try simp only [put_pack]
 refine wpAnyH_ready (rs:=[1]) (by kernel_rfl) (by simp) ?_
 refine AllReadyH.cons rfl (fun K hKK=>?_) (AllReadyH.nil)
 go_simp
 refine (rkind_r _ _).mono ?_
 rintro e wk ⟨rfl,hx⟩
 replace hx2:=hx2.trans hx
 clear hx
 rw [show kindO 13=6 from rfl]
 refine hKK.out _ _ (hS _ hx2) (fun hHeld=>?_)
 clear hKK K
 try dsimp only
 refine tkb 2 ?_
 iterate 3
  refine tkn (v:=?_) rfl (by kernel_rfl) (fun _ _ _ h=>h) (by assumption) ?_ ?_
  rotate_left
  · (intro w hSw;(try dsimp only at hSw);go_simp;try with_reducible rfl)
  try simp only [put_pack]
 refine tke ?_
 refine tkb 6 ?_
 iterate 3
  refine tkn (v:=?_) rfl (by kernel_rfl) (fun _ _ _ h=>h) (by assumption) ?_ ?_
  rotate_left
  · (intro w hSw;(try dsimp only at hSw);go_simp;try with_reducible rfl)
  try simp only [put_pack]
 refine tke ?_
 refine wpAnyH_ready (rs:=[5]) (by kernel_rfl) (by simp) ?_
 refine AllReadyH.cons rfl (fun K hKK=>?_) (AllReadyH.nil)
 go_simp
 refine (rkind_r _ _).mono ?_
 rintro e wk ⟨rfl,hx⟩
 replace hx2:=hx2.trans hx
 clear hx
 rw [show kindO 13=6 from rfl]
 refine hKK.out _ _ (hS _ hx2) (fun hHeld=>?_)
 clear hKK K
 try dsimp only
 refine tkb 9 ?_
 iterate 6
  refine tkn (v:=?_) rfl (by kernel_rfl) (fun _ _ _ h=>h) (by assumption) ?_ ?_
  rotate_left
  · (intro w hSw;(try dsimp only at hSw);go_simp;try with_reducible rfl)
  try simp only [put_pack]
 refine tke ?_
 refine wpAnyH_done (by kernel_rfl) ?_ _
 go_simp
 replace b1:=b1.ext hx2
 replace hX:=hX.trans hx2
 clear hS hx2 hHeld
 have c_b1:=b1.cells
 go_wp2_with fail
 refine (hA _).mono ?_
 rintro e w2 ⟨rfl,hx⟩
 replace hX:=hX.trans hx
 clear hx hA c_b1 b1
 have hX9:=Lib.hid (hX.alloc (.cells #[.int .i64 0,.int .i64 a,.int .i64 r,.int .i64 (a+2+r),.int .i64 (a+2+r),.int .i64 (a+1+r),.int .i64 (2*a+6+2*r),.int .i64 (a+2+r),.int .i64 0,.int .i64 (2*a+7+2*r),.int .i64 (a+2+r),.int .i64 (2*a+7+2*r),.int .i64 (a+2+r),.int .i64 (a+2+r),.int .i64 (a+1+r)] 3))
 go_wp2_with fail
 go_ret
 exact⟨rfl,hX9.out⟩
set_option maxRecDepth 100000 in
set_option maxHeartbeats 1000000 in
theorem ralone14_r (a1 a2 a3 a4 a5 a6 a7 alg N mode lb ll room kd rb rl rn rw rr rt ba lo:Int)(a r:Int)(ha:0<=a/\a<=1000000000)(hr:0<=r/\r<=1000000000)(hA:∀ w,Calls Tryz.prog 87 #[.agg #[.int .i64 alg,.int .i64 N,.int .i64 mode,.int .i64 lb,.int .i64 ll,.int .i64 room]] w fun e w'=>e=.returned (.tuple #[.int .i64 a,.int .i64 r])/\Ext w w')(w:World) :
  Calls Tryz.prog 27 #[.agg #[.int .i64 6,.int .i64 a1,.int .i64 a2,.int .i64 a3,.int .i64 a4,.int .i64 a5,.int .i64 a6,.int .i64 a7,.int .i64 alg,.int .i64 N,.int .i64 mode,.int .i64 lb,.int .i64 ll,.int .i64 room,.int .i64 kd,.int .i64 rb,.int .i64 rl,.int .i64 rn,.int .i64 rw,.int .i64 rr,.int .i64 rt,.int .i64 ba,.int .i64 lo],.int .i64 14] w fun e w'=>e=.returned (.int .i64 (a+1+r))/\Ext w w':=by
 have hX:=Ext.refl w
 have b1:=Blk.new w (.cells #[.int .i64 6,.int .i64 a1,.int .i64 a2,.int .i64 a3,.int .i64 a4,.int .i64 a5,.int .i64 a6,.int .i64 a7,.int .i64 alg,.int .i64 N,.int .i64 mode,.int .i64 lb,.int .i64 ll,.int .i64 room,.int .i64 kd,.int .i64 rb,.int .i64 rl,.int .i64 rn,.int .i64 rw,.int .i64 rr,.int .i64 rt,.int .i64 ba,.int .i64 lo] 61)
 replace hX:=hX.alloc (.cells #[.int .i64 6,.int .i64 a1,.int .i64 a2,.int .i64 a3,.int .i64 a4,.int .i64 a5,.int .i64 a6,.int .i64 a7,.int .i64 alg,.int .i64 N,.int .i64 mode,.int .i64 lb,.int .i64 ll,.int .i64 room,.int .i64 kd,.int .i64 rb,.int .i64 rl,.int .i64 rn,.int .i64 rw,.int .i64 rr,.int .i64 rt,.int .i64 ba,.int .i64 lo] 61)
 have c_b1:=b1.cells
 clear c_b1
 go_enter Tryz.func27,Tryz.ntmps27
 go_wp2_with fail
 generalize hWW:w.alloc _=W at *
 have hS:∀ w',Ext W w'->w'.cell? ⟨w.heap.size,0,none⟩=some (.int .i64 6):=fun w' hx=>(b1.ext hx).cells 0
 have hx2:=(Ext.refl W).drew
 clear hWW
 refine wp_region_held_drew (S:=fun w'=>w'.cell? ⟨w.heap.size,0,none⟩=some (.int .i64 6)) rfl (hS _ hx2) (fun hHeld=>?_)
 refine tk 0 (v:=?_) rfl (by kernel_rfl) (fun _ _ _ h=>h) (by assumption) ?_ ?_
 rotate_left
 · (intro w hSw;(try dsimp only at hSw);go_simp;try with_reducible rfl)
 try simp only [put_pack]
 refine wpAnyH_ready (rs:=[1]) (by kernel_rfl) (by simp) ?_
 refine AllReadyH.cons rfl (fun K hKK=>?_) (AllReadyH.nil)
 go_simp
 refine (rkind_r _ _).mono ?_
 rintro e wk ⟨rfl,hx⟩
 replace hx2:=hx2.trans hx
 clear hx
 rw [show kindO 14=6 from rfl]
 refine hKK.out _ _ (hS _ hx2) (fun hHeld=>?_)
 clear hKK K
 try dsimp only
 refine tkb 2 ?_
 iterate 3
  refine tkn (v:=?_) rfl (by kernel_rfl) (fun _ _ _ h=>h) (by assumption) ?_ ?_
  rotate_left
  · (intro w hSw;(try dsimp only at hSw);go_simp;try with_reducible rfl)
  try simp only [put_pack]
 refine tke ?_
 refine tkb 6 ?_
 iterate 3
  refine tkn (v:=?_) rfl (by kernel_rfl) (fun _ _ _ h=>h) (by assumption) ?_ ?_
  rotate_left
  · (intro w hSw;(try dsimp only at hSw);go_simp;try with_reducible rfl)
  try simp only [put_pack]
 refine tke ?_
 refine wpAnyH_ready (rs:=[5]) (by kernel_rfl) (by simp) ?_
 refine AllReadyH.cons rfl (fun K hKK=>?_) (AllReadyH.nil)
 go_simp
 refine (rkind_r _ _).mono ?_
 rintro e wk ⟨rfl,hx⟩
 replace hx2:=hx2.trans hx
 clear hx
 rw [show kindO 14=6 from rfl]
 refine hKK.out _ _ (hS _ hx2) (fun hHeld=>?_)
 clear hKK K
 try dsimp only
 refine tkb 9 ?_
 iterate 6
  refine tkn (v:=?_) rfl (by kernel_rfl) (fun _ _ _ h=>h) (by assumption) ?_ ?_
  rotate_left
  · (intro w hSw;(try dsimp only at hSw);go_simp;try with_reducible rfl)
  try simp only [put_pack]
 refine tke ?_
 refine wpAnyH_done (by kernel_rfl) ?_ _
 go_simp
 replace b1:=b1.ext hx2
 replace hX:=hX.trans hx2
 clear hS hx2 hHeld
 have c_b1:=b1.cells
 go_wp2_with fail
 refine (hA _).mono ?_
 rintro e w2 ⟨rfl,hx⟩
 replace hX:=hX.trans hx
 clear hx hA c_b1 b1
 have hX9:=Lib.hid (hX.alloc (.cells #[.int .i64 0,.int .i64 a,.int .i64 r,.int .i64 (a+2+r),.int .i64 (a+2+r),.int .i64 (a+1+r),.int .i64 (2*a+6+2*r),.int .i64 (a+2+r),.int .i64 0,.int .i64 (2*a+7+2*r),.int .i64 (a+2+r),.int .i64 (2*a+7+2*r),.int .i64 (a+2+r),.int .i64 (a+2+r),.int .i64 (a+1+r)] 3))
 go_wp2_with fail
 go_ret
 exact⟨rfl,hX9.out⟩
set_option maxRecDepth 100000 in
set_option maxHeartbeats 1000000 in
theorem ralone15_r (a1 a2 a3 a4 a5 a6 a7 alg N mode lb ll room kd rb rl rn rw rr rt ba lo:Int)(cw cr:Int)(hA:∀ w,Calls Tryz.prog 85 #[.agg #[.int .i64 kd,.int .i64 rb,.int .i64 rl,.int .i64 rn,.int .i64 rw,.int .i64 rr,.int .i64 rt]] w fun e w'=>e=.returned (.tuple #[.int .i64 cw,.int .i64 cr])/\Ext w w')(w:World) :
  Calls Tryz.prog 27 #[.agg #[.int .i64 7,.int .i64 a1,.int .i64 a2,.int .i64 a3,.int .i64 a4,.int .i64 a5,.int .i64 a6,.int .i64 a7,.int .i64 alg,.int .i64 N,.int .i64 mode,.int .i64 lb,.int .i64 ll,.int .i64 room,.int .i64 kd,.int .i64 rb,.int .i64 rl,.int .i64 rn,.int .i64 rw,.int .i64 rr,.int .i64 rt,.int .i64 ba,.int .i64 lo],.int .i64 15] w fun e w'=>e=.returned (.int .i64 (cr))/\Ext w w':=by
 have hX:=Ext.refl w
 have b1:=Blk.new w (.cells #[.int .i64 7,.int .i64 a1,.int .i64 a2,.int .i64 a3,.int .i64 a4,.int .i64 a5,.int .i64 a6,.int .i64 a7,.int .i64 alg,.int .i64 N,.int .i64 mode,.int .i64 lb,.int .i64 ll,.int .i64 room,.int .i64 kd,.int .i64 rb,.int .i64 rl,.int .i64 rn,.int .i64 rw,.int .i64 rr,.int .i64 rt,.int .i64 ba,.int .i64 lo] 61)
 replace hX:=hX.alloc (.cells #[.int .i64 7,.int .i64 a1,.int .i64 a2,.int .i64 a3,.int .i64 a4,.int .i64 a5,.int .i64 a6,.int .i64 a7,.int .i64 alg,.int .i64 N,.int .i64 mode,.int .i64 lb,.int .i64 ll,.int .i64 room,.int .i64 kd,.int .i64 rb,.int .i64 rl,.int .i64 rn,.int .i64 rw,.int .i64 rr,.int .i64 rt,.int .i64 ba,.int .i64 lo] 61)
 have c_b1:=b1.cells
 clear c_b1
 go_enter Tryz.func27,Tryz.ntmps27
 go_wp2_with fail
 generalize hWW:w.alloc _=W at *
 have hS:∀ w',Ext W w'->w'.cell? ⟨w.heap.size,0,none⟩=some (.int .i64 7):=fun w' hx=>(b1.ext hx).cells 0
 have hx2:=(Ext.refl W).drew
 clear hWW
 refine wp_region_held_drew (S:=fun w'=>w'.cell? ⟨w.heap.size,0,none⟩=some (.int .i64 7)) rfl (hS _ hx2) (fun hHeld=>?_)
 refine tk 0 (v:=?_) rfl (by kernel_rfl) (fun _ _ _ h=>h) (by assumption) ?_ ?_
 rotate_left
 · (intro w hSw;(try dsimp only at hSw);go_simp;try with_reducible rfl)
 try simp only [put_pack]
 refine wpAnyH_ready (rs:=[1]) (by kernel_rfl) (by simp) ?_
 refine AllReadyH.cons rfl (fun K hKK=>?_) (AllReadyH.nil)
 go_simp
 refine (rkind_r _ _).mono ?_
 rintro e wk ⟨rfl,hx⟩
 replace hx2:=hx2.trans hx
 clear hx
 rw [show kindO 15=7 from rfl]
 refine hKK.out _ _ (hS _ hx2) (fun hHeld=>?_)
 clear hKK K
 try dsimp only
 refine tkb 2 ?_
 iterate 3
  refine tkn (v:=?_) rfl (by kernel_rfl) (fun _ _ _ h=>h) (by assumption) ?_ ?_
  rotate_left
  · (intro w hSw;(try dsimp only at hSw);go_simp;try with_reducible rfl)
  try simp only [put_pack]
 refine tke ?_
 refine tkb 6 ?_
 iterate 3
  refine tkn (v:=?_) rfl (by kernel_rfl) (fun _ _ _ h=>h) (by assumption) ?_ ?_
  rotate_left
  · (intro w hSw;(try dsimp only at hSw);go_simp;try with_reducible rfl)
  try simp only [put_pack]
 refine tke ?_
 refine wpAnyH_ready (rs:=[5]) (by kernel_rfl) (by simp) ?_
 refine AllReadyH.cons rfl (fun K hKK=>?_) (AllReadyH.nil)
 go_simp
 refine (rkind_r _ _).mono ?_
 rintro e wk ⟨rfl,hx⟩
 replace hx2:=hx2.trans hx
 clear hx
 rw [show kindO 15=7 from rfl]
 refine hKK.out _ _ (hS _ hx2) (fun hHeld=>?_)
 clear hKK K
 try dsimp only
 refine tkb 9 ?_
 iterate 6
  refine tkn (v:=?_) rfl (by kernel_rfl) (fun _ _ _ h=>h) (by assumption) ?_ ?_
  rotate_left
  · (intro w hSw;(try dsimp only at hSw);go_simp;try with_reducible rfl)
  try simp only [put_pack]
 refine tke ?_
 refine wpAnyH_done (by kernel_rfl) ?_ _
 go_simp
 replace b1:=b1.ext hx2
 replace hX:=hX.trans hx2
 clear hS hx2 hHeld
 have c_b1:=b1.cells
 go_wp2_with fail
 refine (hA _).mono ?_
 rintro e w2 ⟨rfl,hx⟩
 replace hX:=hX.trans hx
 clear hx hA c_b1 b1
 go_wp2_with fail
 go_ret
 exact⟨rfl,hX⟩
set_option maxRecDepth 100000 in
set_option maxHeartbeats 1000000 in
theorem ralone16_r (a1 a2 a3 a4 a5 a6 a7 alg N mode lb ll room kd rb rl rn rw rr rt ba lo:Int)(cw cr:Int)(hA:∀ w,Calls Tryz.prog 85 #[.agg #[.int .i64 kd,.int .i64 rb,.int .i64 rl,.int .i64 rn,.int .i64 rw,.int .i64 rr,.int .i64 rt]] w fun e w'=>e=.returned (.tuple #[.int .i64 cw,.int .i64 cr])/\Ext w w')(w:World) :
  Calls Tryz.prog 27 #[.agg #[.int .i64 7,.int .i64 a1,.int .i64 a2,.int .i64 a3,.int .i64 a4,.int .i64 a5,.int .i64 a6,.int .i64 a7,.int .i64 alg,.int .i64 N,.int .i64 mode,.int .i64 lb,.int .i64 ll,.int .i64 room,.int .i64 kd,.int .i64 rb,.int .i64 rl,.int .i64 rn,.int .i64 rw,.int .i64 rr,.int .i64 rt,.int .i64 ba,.int .i64 lo],.int .i64 16] w fun e w'=>e=.returned (.int .i64 (cw))/\Ext w w':=by
 have hX:=Ext.refl w
 have b1:=Blk.new w (.cells #[.int .i64 7,.int .i64 a1,.int .i64 a2,.int .i64 a3,.int .i64 a4,.int .i64 a5,.int .i64 a6,.int .i64 a7,.int .i64 alg,.int .i64 N,.int .i64 mode,.int .i64 lb,.int .i64 ll,.int .i64 room,.int .i64 kd,.int .i64 rb,.int .i64 rl,.int .i64 rn,.int .i64 rw,.int .i64 rr,.int .i64 rt,.int .i64 ba,.int .i64 lo] 61)
 replace hX:=hX.alloc (.cells #[.int .i64 7,.int .i64 a1,.int .i64 a2,.int .i64 a3,.int .i64 a4,.int .i64 a5,.int .i64 a6,.int .i64 a7,.int .i64 alg,.int .i64 N,.int .i64 mode,.int .i64 lb,.int .i64 ll,.int .i64 room,.int .i64 kd,.int .i64 rb,.int .i64 rl,.int .i64 rn,.int .i64 rw,.int .i64 rr,.int .i64 rt,.int .i64 ba,.int .i64 lo] 61)
 have c_b1:=b1.cells
 clear c_b1
 go_enter Tryz.func27,Tryz.ntmps27
 go_wp2_with fail
 generalize hWW:w.alloc _=W at *
 have hS:∀ w',Ext W w'->w'.cell? ⟨w.heap.size,0,none⟩=some (.int .i64 7):=fun w' hx=>(b1.ext hx).cells 0
 have hx2:=(Ext.refl W).drew
 clear hWW
 refine wp_region_held_drew (S:=fun w'=>w'.cell? ⟨w.heap.size,0,none⟩=some (.int .i64 7)) rfl (hS _ hx2) (fun hHeld=>?_)
 refine tk 0 (v:=?_) rfl (by kernel_rfl) (fun _ _ _ h=>h) (by assumption) ?_ ?_
 rotate_left
 · (intro w hSw;(try dsimp only at hSw);go_simp;try with_reducible rfl)
 try simp only [put_pack]
 refine wpAnyH_ready (rs:=[1]) (by kernel_rfl) (by simp) ?_
 refine AllReadyH.cons rfl (fun K hKK=>?_) (AllReadyH.nil)
 go_simp
 refine (rkind_r _ _).mono ?_
 rintro e wk ⟨rfl,hx⟩
 replace hx2:=hx2.trans hx
 clear hx
 rw [show kindO 16=7 from rfl]
 refine hKK.out _ _ (hS _ hx2) (fun hHeld=>?_)
 clear hKK K
 try dsimp only
 refine tkb 2 ?_
 iterate 3
  refine tkn (v:=?_) rfl (by kernel_rfl) (fun _ _ _ h=>h) (by assumption) ?_ ?_
  rotate_left
  · (intro w hSw;(try dsimp only at hSw);go_simp;try with_reducible rfl)
  try simp only [put_pack]
 refine tke ?_
 refine tkb 6 ?_
 iterate 3
  refine tkn (v:=?_) rfl (by kernel_rfl) (fun _ _ _ h=>h) (by assumption) ?_ ?_
  rotate_left
  · (intro w hSw;(try dsimp only at hSw);go_simp;try with_reducible rfl)
  try simp only [put_pack]
 refine tke ?_
 refine wpAnyH_ready (rs:=[5]) (by kernel_rfl) (by simp) ?_
 refine AllReadyH.cons rfl (fun K hKK=>?_) (AllReadyH.nil)
 go_simp
 refine (rkind_r _ _).mono ?_
 rintro e wk ⟨rfl,hx⟩
 replace hx2:=hx2.trans hx
 clear hx
 rw [show kindO 16=7 from rfl]
 refine hKK.out _ _ (hS _ hx2) (fun hHeld=>?_)
 clear hKK K
 try dsimp only
 refine tkb 9 ?_
 iterate 6
  refine tkn (v:=?_) rfl (by kernel_rfl) (fun _ _ _ h=>h) (by assumption) ?_ ?_
  rotate_left
  · (intro w hSw;(try dsimp only at hSw);go_simp;try with_reducible rfl)
  try simp only [put_pack]
 refine tke ?_
 refine wpAnyH_done (by kernel_rfl) ?_ _
 go_simp
 replace b1:=b1.ext hx2
 replace hX:=hX.trans hx2
 clear hS hx2 hHeld
 have c_b1:=b1.cells
 go_wp2_with fail
 refine (hA _).mono ?_
 rintro e w2 ⟨rfl,hx⟩
 replace hX:=hX.trans hx
 clear hx hA c_b1 b1
 go_wp2_with fail
 go_ret
 exact⟨rfl,hX⟩
set_option maxRecDepth 100000 in
set_option maxHeartbeats 1000000 in
theorem ralone17_r (a1 a2 a3 a4 a5 a6 a7 alg N mode lb ll room kd rb rl rn rw rr rt ba lo:Int)(u v x y:Int)(hN:0<=N/\N<=8)(hx0:0<=x/\x<=1000000)(hy0:0<=y/\y<=1000000)(hA:∀ w,Calls Tryz.prog 86 #[.agg #[.int .i64 alg,.int .i64 N,.int .i64 mode,.int .i64 lb,.int .i64 ll,.int .i64 room]] w fun e w'=>e=.returned (.tuple #[.int .i64 u,.int .i64 v,.int .i64 x,.int .i64 y])/\Ext w w')(w:World) :
  Calls Tryz.prog 27 #[.agg #[.int .i64 8,.int .i64 a1,.int .i64 a2,.int .i64 a3,.int .i64 a4,.int .i64 a5,.int .i64 a6,.int .i64 a7,.int .i64 alg,.int .i64 N,.int .i64 mode,.int .i64 lb,.int .i64 ll,.int .i64 room,.int .i64 kd,.int .i64 rb,.int .i64 rl,.int .i64 rn,.int .i64 rw,.int .i64 rr,.int .i64 rt,.int .i64 ba,.int .i64 lo],.int .i64 17] w fun e w'=>e=.returned (.int .i64 (N*(2*x+2*y)))/\Ext w w':=by
 have hX:=Ext.refl w
 have b1:=Blk.new w (.cells #[.int .i64 8,.int .i64 a1,.int .i64 a2,.int .i64 a3,.int .i64 a4,.int .i64 a5,.int .i64 a6,.int .i64 a7,.int .i64 alg,.int .i64 N,.int .i64 mode,.int .i64 lb,.int .i64 ll,.int .i64 room,.int .i64 kd,.int .i64 rb,.int .i64 rl,.int .i64 rn,.int .i64 rw,.int .i64 rr,.int .i64 rt,.int .i64 ba,.int .i64 lo] 61)
 replace hX:=hX.alloc (.cells #[.int .i64 8,.int .i64 a1,.int .i64 a2,.int .i64 a3,.int .i64 a4,.int .i64 a5,.int .i64 a6,.int .i64 a7,.int .i64 alg,.int .i64 N,.int .i64 mode,.int .i64 lb,.int .i64 ll,.int .i64 room,.int .i64 kd,.int .i64 rb,.int .i64 rl,.int .i64 rn,.int .i64 rw,.int .i64 rr,.int .i64 rt,.int .i64 ba,.int .i64 lo] 61)
 have c_b1:=b1.cells
 clear c_b1
 go_enter Tryz.func27,Tryz.ntmps27
 go_wp2_with fail
 generalize hWW:w.alloc _=W at *
 have hS:∀ w',Ext W w'->w'.cell? ⟨w.heap.size,0,none⟩=some (.int .i64 8):=fun w' hx=>(b1.ext hx).cells 0
 have hx2:=(Ext.refl W).drew
 clear hWW
 refine wp_region_held_drew (S:=fun w'=>w'.cell? ⟨w.heap.size,0,none⟩=some (.int .i64 8)) rfl (hS _ hx2) (fun hHeld=>?_)
 refine tk 0 (v:=?_) rfl (by kernel_rfl) (fun _ _ _ h=>h) (by assumption) ?_ ?_
 rotate_left
 · (intro w hSw;(try dsimp only at hSw);go_simp;try with_reducible rfl)
 try simp only [put_pack]
 refine wpAnyH_ready (rs:=[1]) (by kernel_rfl) (by simp) ?_
 refine AllReadyH.cons rfl (fun K hKK=>?_) (AllReadyH.nil)
 go_simp
 refine (rkind_r _ _).mono ?_
 rintro e wk ⟨rfl,hx⟩
 replace hx2:=hx2.trans hx
 clear hx
 rw [show kindO 17=8 from rfl]
 refine hKK.out _ _ (hS _ hx2) (fun hHeld=>?_)
 clear hKK K
 try dsimp only
 refine tkb 2 ?_
 iterate 3
  refine tkn (v:=?_) rfl (by kernel_rfl) (fun _ _ _ h=>h) (by assumption) ?_ ?_
  rotate_left
  · (intro w hSw;(try dsimp only at hSw);go_simp;try with_reducible rfl)
  try simp only [put_pack]
 refine tke ?_
 refine tkb 6 ?_
 iterate 3
  refine tkn (v:=?_) rfl (by kernel_rfl) (fun _ _ _ h=>h) (by assumption) ?_ ?_
  rotate_left
  · (intro w hSw;(try dsimp only at hSw);go_simp;try with_reducible rfl)
  try simp only [put_pack]
 refine tke ?_
 refine wpAnyH_ready (rs:=[5]) (by kernel_rfl) (by simp) ?_
 refine AllReadyH.cons rfl (fun K hKK=>?_) (AllReadyH.nil)
 go_simp
 refine (rkind_r _ _).mono ?_
 rintro e wk ⟨rfl,hx⟩
 replace hx2:=hx2.trans hx
 clear hx
 rw [show kindO 17=8 from rfl]
 refine hKK.out _ _ (hS _ hx2) (fun hHeld=>?_)
 clear hKK K
 try dsimp only
 refine tkb 9 ?_
 iterate 6
  refine tkn (v:=?_) rfl (by kernel_rfl) (fun _ _ _ h=>h) (by assumption) ?_ ?_
  rotate_left
  · (intro w hSw;(try dsimp only at hSw);go_simp;try with_reducible rfl)
  try simp only [put_pack]
 refine tke ?_
 refine wpAnyH_done (by kernel_rfl) ?_ _
 go_simp
 replace b1:=b1.ext hx2
 replace hX:=hX.trans hx2
 clear hS hx2 hHeld
 have c_b1:=b1.cells
 go_wp2_with fail
 have hp:=mulb (a:=N) (b:=2*x+2*y) (A:=8) (B:=4000000) hN (by omega)
 refine (hA _).mono ?_
 rintro e w2 ⟨rfl,hx⟩
 replace b1:=b1.ext hx
 replace hX:=hX.trans hx
 clear hx hA c_b1
 have c_b1:=b1.cells
 go_wp2_with fail
 go_ret
 exact⟨rfl,hX⟩
set_option maxRecDepth 100000 in
set_option maxHeartbeats 1000000 in
theorem aloneno_p (k a1 a2 a3 a4 a5 a6 a7 alg N mode lb ll room kd rb rl rn rw rr rt ba lo:Int)(op:Int)(h:kindO op=0∨kindO op≠k∨op=8)(w:World) :
  Calls Tryz.prog 26 #[.agg #[.int .i64 k,.int .i64 a1,.int .i64 a2,.int .i64 a3,.int .i64 a4,.int .i64 a5,.int .i64 a6,.int .i64 a7,.int .i64 alg,.int .i64 N,.int .i64 mode,.int .i64 lb,.int .i64 ll,.int .i64 room,.int .i64 kd,.int .i64 rb,.int .i64 rl,.int .i64 rn,.int .i64 rw,.int .i64 rr,.int .i64 rt,.int .i64 ba,.int .i64 lo],.int .i64 op] w fun e w'=>e=.returned (.int .i64 (-1))/\Ext w w':=by
 have hX:=Ext.refl w
 have b1:=Blk.new w (.cells #[.int .i64 k,.int .i64 a1,.int .i64 a2,.int .i64 a3,.int .i64 a4,.int .i64 a5,.int .i64 a6,.int .i64 a7,.int .i64 alg,.int .i64 N,.int .i64 mode,.int .i64 lb,.int .i64 ll,.int .i64 room,.int .i64 kd,.int .i64 rb,.int .i64 rl,.int .i64 rn,.int .i64 rw,.int .i64 rr,.int .i64 rt,.int .i64 ba,.int .i64 lo] 61)
 replace hX:=hX.alloc (.cells #[.int .i64 k,.int .i64 a1,.int .i64 a2,.int .i64 a3,.int .i64 a4,.int .i64 a5,.int .i64 a6,.int .i64 a7,.int .i64 alg,.int .i64 N,.int .i64 mode,.int .i64 lb,.int .i64 ll,.int .i64 room,.int .i64 kd,.int .i64 rb,.int .i64 rl,.int .i64 rn,.int .i64 rw,.int .i64 rr,.int .i64 rt,.int .i64 ba,.int .i64 lo] 61)
 have c_b1:=b1.cells
 have hK:=fun w=>bkind_p op w
 by_cases h0:kindO op=0
 · rw [h0] at hK
   clear h h0
   go_enter Tryz.func26,Tryz.ntmps26
   go_wp2_with fail
   refine (hK _).mono ?_
   rintro e w' ⟨rfl,rfl⟩
   go_wp2_with fail
   go_ret
   exact⟨rfl,hX⟩
 have d0:(kindO op==0)=false:=by rw [beq_eq_false_iff_ne];exact h0
 by_cases h1:kindO op≠k
 · have d1:(kindO op != k)=true:=by rw [bne_iff_ne];exact h1
   clear h h0 h1
   generalize kindO op=q at *
   go_enter Tryz.func26,Tryz.ntmps26
   go_wp2_with fail
   refine (hK _).mono ?_
   rintro e w' ⟨rfl,rfl⟩
   go_wp2_with fail
   go_ret
   exact⟨rfl,hX⟩
 obtain rfl:op=8:=by
  rcases h with h | h | h
  · exact absurd h h0
  · exact absurd h h1
  · exact h
 obtain rfl:4=k:=Classical.byContradiction fun hk=>h1 hk
 rw [show kindO 8=4 from rfl] at hK
 clear h h0 h1 d0
 go_enter Tryz.func26,Tryz.ntmps26
 go_wp2_with fail
 refine (hK _).mono ?_
 rintro e w' ⟨rfl,rfl⟩
 go_wp2_with fail
 go_ret
 exact⟨rfl,hX⟩
set_option maxRecDepth 100000 in
set_option maxHeartbeats 1000000 in
theorem aloneno_r (k a1 a2 a3 a4 a5 a6 a7 alg N mode lb ll room kd rb rl rn rw rr rt ba lo:Int)(op:Int)(h:kindO op=0∨kindO op≠k∨op=8)(w:World) :
  Calls Tryz.prog 27 #[.agg #[.int .i64 k,.int .i64 a1,.int .i64 a2,.int .i64 a3,.int .i64 a4,.int .i64 a5,.int .i64 a6,.int .i64 a7,.int .i64 alg,.int .i64 N,.int .i64 mode,.int .i64 lb,.int .i64 ll,.int .i64 room,.int .i64 kd,.int .i64 rb,.int .i64 rl,.int .i64 rn,.int .i64 rw,.int .i64 rr,.int .i64 rt,.int .i64 ba,.int .i64 lo],.int .i64 op] w fun e w'=>e=.returned (.int .i64 (-1))/\Ext w w':=by
 have hX:=Ext.refl w
 have b1:=Blk.new w (.cells #[.int .i64 k,.int .i64 a1,.int .i64 a2,.int .i64 a3,.int .i64 a4,.int .i64 a5,.int .i64 a6,.int .i64 a7,.int .i64 alg,.int .i64 N,.int .i64 mode,.int .i64 lb,.int .i64 ll,.int .i64 room,.int .i64 kd,.int .i64 rb,.int .i64 rl,.int .i64 rn,.int .i64 rw,.int .i64 rr,.int .i64 rt,.int .i64 ba,.int .i64 lo] 61)
 replace hX:=hX.alloc (.cells #[.int .i64 k,.int .i64 a1,.int .i64 a2,.int .i64 a3,.int .i64 a4,.int .i64 a5,.int .i64 a6,.int .i64 a7,.int .i64 alg,.int .i64 N,.int .i64 mode,.int .i64 lb,.int .i64 ll,.int .i64 room,.int .i64 kd,.int .i64 rb,.int .i64 rl,.int .i64 rn,.int .i64 rw,.int .i64 rr,.int .i64 rt,.int .i64 ba,.int .i64 lo] 61)
 have c_b1:=b1.cells
 have hK:=fun w=>rkind_r op w
 clear c_b1
 by_cases h0:kindO op=0
 · rw [h0] at hK
   clear h h0
   go_enter Tryz.func27,Tryz.ntmps27
   go_wp2_with fail
   generalize hWW:w.alloc _=W at *
   have hS:∀ w',Ext W w'->w'.cell? ⟨w.heap.size,0,none⟩=some (.int .i64 k):=fun w' hx=>(b1.ext hx).cells 0
   have hx2:=(Ext.refl W).drew
   clear hWW
   refine wp_region_held_drew (S:=fun w'=>w'.cell? ⟨w.heap.size,0,none⟩=some (.int .i64 k)) rfl (hS _ hx2) (fun hHeld=>?_)
   refine tk 0 (v:=?_) rfl (by kernel_rfl) (fun _ _ _ h=>h) (by assumption) ?_ ?_
   rotate_left
   · (intro w hSw;(try dsimp only at hSw);go_simp;try with_reducible rfl)
   try simp only [put_pack]
   refine wpAnyH_ready (rs:=[1]) (by kernel_rfl) (by simp) ?_
   refine AllReadyH.cons rfl (fun K hKK=>?_) (AllReadyH.nil)
   go_simp
   refine (hK _).mono ?_
   rintro e wk ⟨rfl,hx⟩
   replace hx2:=hx2.trans hx
   clear hx
   refine hKK.out _ _ (hS _ hx2) (fun hHeld=>?_)
   clear hKK K
   try dsimp only
   refine tk 2 (v:=?_) rfl (by kernel_rfl) (fun _ _ _ h=>h) (by assumption) ?_ ?_
   rotate_left
   · (intro w hSw;(try dsimp only at hSw);go_simp;try with_reducible rfl)
   try simp only [put_pack]
   refine tk 3 (v:=?_) rfl (by kernel_rfl) (fun _ _ _ h=>h) (by assumption) ?_ ?_
   rotate_left
   · (intro w hSw;(try dsimp only at hSw);go_simp;try with_reducible rfl)
   try simp only [put_pack]
   refine sk 4 rfl (by kernel_rfl) (fun _ _ _ h=>h) (by assumption) ?_
   try simp only [put_pack]
   refine sk 5 rfl (by kernel_rfl) (fun _ _ _ h=>h) (by assumption) ?_
   try simp only [put_pack]
   refine sk 6 rfl (by kernel_rfl) (fun _ _ _ h=>h) (by assumption) ?_
   try simp only [put_pack]
   refine sk 7 rfl (by kernel_rfl) (fun _ _ _ h=>h) (by assumption) ?_
   try simp only [put_pack]
   refine sk 8 rfl (by kernel_rfl) (fun _ _ _ h=>h) (by assumption) ?_
   try simp only [put_pack]
   refine sk 9 rfl (by kernel_rfl) (fun _ _ _ h=>h) (by assumption) ?_
   try simp only [put_pack]
   refine tk 10 (v:=?_) rfl (by kernel_rfl) (fun _ _ _ h=>h) (by assumption) ?_ ?_
   rotate_left
   · (intro w hSw;(try dsimp only at hSw);go_simp;try with_reducible rfl)
   try simp only [put_pack]
   refine tk 11 (v:=?_) rfl (by kernel_rfl) (fun _ _ _ h=>h) (by assumption) ?_ ?_
   rotate_left
   · (intro w hSw;(try dsimp only at hSw);go_simp;try with_reducible rfl)
   try simp only [put_pack]
   refine sk 12 rfl (by kernel_rfl) (fun _ _ _ h=>h) (by assumption) ?_
   try simp only [put_pack]
   refine sk 13 rfl (by kernel_rfl) (fun _ _ _ h=>h) (by assumption) ?_
   try simp only [put_pack]
   refine tk 14 (v:=?_) rfl (by kernel_rfl) (fun _ _ _ h=>h) (by assumption) ?_ ?_
   rotate_left
   · (intro w hSw;(try dsimp only at hSw);go_simp;try with_reducible rfl)
   try simp only [put_pack]
   refine wpAnyH_done (by kernel_rfl) ?_ _
   go_simp
   replace hX:=hX.trans hx2
   clear hS hx2 hHeld
   go_wp2_with fail
   go_ret
   exact⟨rfl,hX⟩
 have d0:(kindO op==0)=false:=by rw [beq_eq_false_iff_ne];exact h0
 by_cases h1:kindO op≠k
 · have d1:(kindO op != k)=true:=by rw [bne_iff_ne];exact h1
   clear h h0 h1
   generalize kindO op=q at *
   go_enter Tryz.func27,Tryz.ntmps27
   go_wp2_with fail
   generalize hWW:w.alloc _=W at *
   have hS:∀ w',Ext W w'->w'.cell? ⟨w.heap.size,0,none⟩=some (.int .i64 k):=fun w' hx=>(b1.ext hx).cells 0
   have hx2:=(Ext.refl W).drew
   clear hWW
   refine wp_region_held_drew (S:=fun w'=>w'.cell? ⟨w.heap.size,0,none⟩=some (.int .i64 k)) rfl (hS _ hx2) (fun hHeld=>?_)
   refine tk 0 (v:=?_) rfl (by kernel_rfl) (fun _ _ _ h=>h) (by assumption) ?_ ?_
   rotate_left
   · (intro w hSw;(try dsimp only at hSw);go_simp;try with_reducible rfl)
   try simp only [put_pack]
   refine wpAnyH_ready (rs:=[1]) (by kernel_rfl) (by simp) ?_
   refine AllReadyH.cons rfl (fun K hKK=>?_) (AllReadyH.nil)
   go_simp
   refine (hK _).mono ?_
   rintro e wk ⟨rfl,hx⟩
   replace hx2:=hx2.trans hx
   clear hx
   refine hKK.out _ _ (hS _ hx2) (fun hHeld=>?_)
   clear hKK K
   try dsimp only
   refine tkb 2 ?_
   iterate 3
    refine tkn (v:=?_) rfl (by kernel_rfl) (fun _ _ _ h=>h) (by assumption) ?_ ?_
    rotate_left
    · (intro w hSw;(try dsimp only at hSw);go_simp;try with_reducible rfl)
    try simp only [put_pack]
   refine tke ?_
   refine tkb 6 ?_
   iterate 3
    refine tkn (v:=?_) rfl (by kernel_rfl) (fun _ _ _ h=>h) (by assumption) ?_ ?_
    rotate_left
    · (intro w hSw;(try dsimp only at hSw);go_simp;try with_reducible rfl)
    try simp only [put_pack]
   refine tke ?_
   refine wpAnyH_ready (rs:=[5]) (by kernel_rfl) (by simp) ?_
   refine AllReadyH.cons rfl (fun K hKK=>?_) (AllReadyH.nil)
   go_simp
   refine (hK _).mono ?_
   rintro e wk ⟨rfl,hx⟩
   replace hx2:=hx2.trans hx
   clear hx
   refine hKK.out _ _ (hS _ hx2) (fun hHeld=>?_)
   clear hKK K
   try dsimp only
   refine tkb 9 ?_
   iterate 3
    refine tkn (v:=?_) rfl (by kernel_rfl) (fun _ _ _ h=>h) (by assumption) ?_ ?_
    rotate_left
    · (intro w hSw;(try dsimp only at hSw);go_simp;try with_reducible rfl)
    try simp only [put_pack]
   refine tke ?_
   refine sk 12 rfl (by kernel_rfl) (fun _ _ _ h=>h) (by assumption) ?_
   try simp only [put_pack]
   refine sk 13 rfl (by kernel_rfl) (fun _ _ _ h=>h) (by assumption) ?_
   try simp only [put_pack]
   refine tk 14 (v:=?_) rfl (by kernel_rfl) (fun _ _ _ h=>h) (by assumption) ?_ ?_
   rotate_left
   · (intro w hSw;(try dsimp only at hSw);go_simp;try with_reducible rfl)
   try simp only [put_pack]
   refine wpAnyH_done (by kernel_rfl) ?_ _
   go_simp
   replace hX:=hX.trans hx2
   clear hS hx2 hHeld
   go_wp2_with fail
   go_ret
   exact⟨rfl,hX⟩
 obtain rfl:op=8:=by
  rcases h with h | h | h
  · exact absurd h h0
  · exact absurd h h1
  · exact h
 obtain rfl:4=k:=Classical.byContradiction fun hk=>h1 hk
 rw [show kindO 8=4 from rfl] at hK
 clear h h0 h1 d0
 go_enter Tryz.func27,Tryz.ntmps27
 go_wp2_with fail
 generalize hWW:w.alloc _=W at *
 have hS:∀ w',Ext W w'->w'.cell? ⟨w.heap.size,0,none⟩=some (.int .i64 4):=fun w' hx=>(b1.ext hx).cells 0
 have hx2:=(Ext.refl W).drew
 clear hWW
 refine wp_region_held_drew (S:=fun w'=>w'.cell? ⟨w.heap.size,0,none⟩=some (.int .i64 4)) rfl (hS _ hx2) (fun hHeld=>?_)
 refine tk 0 (v:=?_) rfl (by kernel_rfl) (fun _ _ _ h=>h) (by assumption) ?_ ?_
 rotate_left
 · (intro w hSw;(try dsimp only at hSw);go_simp;try with_reducible rfl)
 try simp only [put_pack]
 refine wpAnyH_ready (rs:=[1]) (by kernel_rfl) (by simp) ?_
 refine AllReadyH.cons rfl (fun K hKK=>?_) (AllReadyH.nil)
 go_simp
 refine (hK _).mono ?_
 rintro e wk ⟨rfl,hx⟩
 replace hx2:=hx2.trans hx
 clear hx
 refine hKK.out _ _ (hS _ hx2) (fun hHeld=>?_)
 clear hKK K
 try dsimp only
 refine tkb 2 ?_
 iterate 3
  refine tkn (v:=?_) rfl (by kernel_rfl) (fun _ _ _ h=>h) (by assumption) ?_ ?_
  rotate_left
  · (intro w hSw;(try dsimp only at hSw);go_simp;try with_reducible rfl)
  try simp only [put_pack]
 refine tke ?_
 refine tkb 6 ?_
 iterate 3
  refine tkn (v:=?_) rfl (by kernel_rfl) (fun _ _ _ h=>h) (by assumption) ?_ ?_
  rotate_left
  · (intro w hSw;(try dsimp only at hSw);go_simp;try with_reducible rfl)
  try simp only [put_pack]
 refine tke ?_
 refine wpAnyH_ready (rs:=[5]) (by kernel_rfl) (by simp) ?_
 refine AllReadyH.cons rfl (fun K hKK=>?_) (AllReadyH.nil)
 go_simp
 refine (hK _).mono ?_
 rintro e wk ⟨rfl,hx⟩
 replace hx2:=hx2.trans hx
 clear hx
 refine hKK.out _ _ (hS _ hx2) (fun hHeld=>?_)
 clear hKK K
 try dsimp only
 refine tkb 9 ?_
 iterate 6
  refine tkn (v:=?_) rfl (by kernel_rfl) (fun _ _ _ h=>h) (by assumption) ?_ ?_
  rotate_left
  · (intro w hSw;(try dsimp only at hSw);go_simp;try with_reducible rfl)
  try simp only [put_pack]
 refine tke ?_
 refine wpAnyH_done (by kernel_rfl) ?_ _
 go_simp
 replace hX:=hX.trans hx2
 clear hS hx2 hHeld
 go_wp2_with fail
 go_ret
 exact⟨rfl,hX⟩
end Go.Proofs.YtponihangpiooaaGreat
namespace Kv
def ownC (k:Int):Int:=[0,0,1,3,2,4,1].getD k.toNat 0
def ownL (k:Int):Int:=[0,1,1,1,0,1,1].getD k.toNat 0
end Kv
namespace Go.Proofs.YtponihangpiooaaGreat
open Go.RowKit Kv
set_option maxRecDepth 100000 in
set_option maxHeartbeats 2000000 in
theorem own40_r (k:Int)(w:World)(hk:1<=k/\k<=6):Calls Tryz.prog 141 #[.int .i64 k] w fun e w'=>e=.returned (.tuple #[.int .i64 (ownC k),.int .i64 (ownL k)])/\Ext w w':=by
 have B2:=(Blk.new w (.cells #[.int .i64 0,.int .i64 0,.int .i64 1,.int .i64 3,.int .i64 2,.int .i64 4,.int .i64 1] 3)).alloc (.cells #[.int .i64 0,.int .i64 1,.int .i64 1,.int .i64 1,.int .i64 0,.int .i64 1,.int .i64 1] 3)
 have B3:=Blk.new (w.alloc (.cells #[.int .i64 0,.int .i64 0,.int .i64 1,.int .i64 3,.int .i64 2,.int .i64 4,.int .i64 1] 3)) (.cells #[.int .i64 0,.int .i64 1,.int .i64 1,.int .i64 1,.int .i64 0,.int .i64 1,.int .i64 1] 3)
 have hX:=((Ext.refl w).alloc (.cells #[.int .i64 0,.int .i64 0,.int .i64 1,.int .i64 3,.int .i64 2,.int .i64 4,.int .i64 1] 3)).alloc (.cells #[.int .i64 0,.int .i64 1,.int .i64 1,.int .i64 1,.int .i64 0,.int .i64 1,.int .i64 1] 3)
 simp only [World.size_alloc] at B3
 have:k=1∨k=2∨k=3∨k=4∨k=5∨k=6:=by omega
 clear hk
 rcases this with rfl | rfl | rfl | rfl | rfl | rfl
 all_goals
  go_enter Tryz.func141,Tryz.ntmps141
  go_wp2_with fail
  generalize World.alloc (World.alloc w _) _=W at *
  have hS:(∀ i,W.drew.cell? ⟨w.heap.size,i,none⟩=(#[.int .i64 0,.int .i64 0,.int .i64 1,.int .i64 3,.int .i64 2,.int .i64 4,.int .i64 1]:Array Value)[i]?)/\(∀ i,W.drew.cell? ⟨w.heap.size+1,i,none⟩=(#[.int .i64 0,.int .i64 1,.int .i64 1,.int .i64 1,.int .i64 0,.int .i64 1,.int .i64 1]:Array Value)[i]?):=⟨B2.drew.cells,B3.drew.cells⟩
  have hXd:=Lib.hid hX.drew
  refine wp_region_held_drew (S:=fun w'=>(∀ i,w'.cell? ⟨w.heap.size,i,none⟩=(#[.int .i64 0,.int .i64 0,.int .i64 1,.int .i64 3,.int .i64 2,.int .i64 4,.int .i64 1]:Array Value)[i]?)/\(∀ i,w'.cell? ⟨w.heap.size+1,i,none⟩=(#[.int .i64 0,.int .i64 1,.int .i64 1,.int .i64 1,.int .i64 0,.int .i64 1,.int .i64 1]:Array Value)[i]?)) rfl hS (fun hHeld=>?_)
  refine tkb 0 ?_
  iterate 10
   refine tkn (v:=?_) rfl (by kernel_rfl) (fun _ _ _ h=>h) (by assumption) ?_ ?_
   rotate_left
   · (intro w hSw;(try dsimp only at hSw);go_simp;try with_reducible rfl)
   try simp only [put_pack]
  refine tke ?_
  refine wpAnyH_done (by kernel_rfl) ?_ _
  go_simp
  go_wp2_with fail
  go_ret2
  exact⟨rfl,hXd.out⟩
end Go.Proofs.YtponihangpiooaaGreat
namespace Kv
def diagL (d:Nat):Nat->List (Nat × Nat)
 | 0=>[]
 | y+1=>diagL d y++[(d-y,y)]
def triPts:Nat->List (Nat × Nat)
 | 0=>[]
 | d+1=>triPts d++diagL d (d+1)
end Kv
namespace Go.Proofs.YtponihangpiooaaGreat
open Go.RowKit Kv
def ptVals (q:Nat × Nat):List Value:=[.int .i64 q.1,.int .i64 q.2,.bool true]
theorem info_pt:(Tryz.prog.info? 317).map (fun i=>(i.zero,i.size,i.bytes))=some (some (.agg #[.int .i64 0,.int .i64 0,.bool false]),3,24):=by kernel_rfl
@[go_sem] theorem build_pt (a b:Int) (c:Bool) (w:World):(Instr.build 317 #[(0,.int .i64 a),(1,.int .i64 b),(2,.bool c)]).run Tryz.prog w=.ok (.agg #[.int .i64 a,.int .i64 b,.bool c]) w:=run_build w 317 _ _ (by kernel_rfl)
theorem ptRow_snoc (d y:Nat):(triPts d++diagL d (y+1)).flatMap ptVals=(triPts d++diagL d y).flatMap ptVals++ptVals (d-y,y):=by
 rw [diagL,<- List.append_assoc,List.flatMap_append]
 simp
def ptRow (d y:Nat):List Value:=(triPts d++diagL d y).flatMap ptVals
theorem ptRow_zero (d:Nat):ptRow d 0=(triPts d).flatMap ptVals:=by unfold ptRow diagL;rw [List.append_nil]
theorem ptRow_full (d:Nat):ptRow d (d+1)=ptRow (d+1) 0:=by rw [ptRow_zero];rfl
set_option maxRecDepth 100000 in
set_option maxHeartbeats 1000000 in
theorem list05_r (n:Nat)(w:World)(hn:n<=64):Calls Tryz.prog 290 #[.int .i64 n] w fun e w'=>∃ v,e=.returned v/\w'.ownsRow w.heap.size 317 3 v (triN n) ((triPts n).flatMap ptVals)/\Ext w w':=by
 go_enter Tryz.func290,Tryz.ntmps290
 go_wp2_with fail
 go_loopw [3,4,5] (fun v i _ wr=>∃ d:Nat,i=.int .i64 d/\d<=n/\wr.ownsRow w.heap.size 317 3 v (triN d) (ptRow d 0)/\Ext w wr) (fun _ i _ _=>n-(intOf i).toNat)
 case atStart=>exact⟨0,rfl,by omega,World.ownsRow_nil _ _ _ _,Ext.refl _⟩
 case round =>
  obtain⟨d,rfl,hd,hown,hE⟩:=hrel
  by_cases hl:d<n
  · have d1:decide ((d:Int)<(n:Int))=true:=by rw [decide_eq_true_eq];omega
    have d2:decide ((d:Int)<64)=true:=by rw [decide_eq_true_eq];omega
    have ht:=triN_64 (show d<=64 by omega)
    generalize hT:triN d=T at *
    go_wp2_with fail
    go_loopw [3,5] (fun v i wr=>∃ y:Nat,i=.int .i64 y/\y<=d+1/\wr.ownsRow w.heap.size 317 3 v (T+y) (ptRow d y)/\Ext w wr) (fun _ i _=>d+1-(intOf i).toNat)
    case atStart=>exact⟨0,rfl,by omega,hown,hE⟩
    case round =>
     clear hown hE
     obtain⟨y,rfl,hy,hown,hE⟩:=hrel
     by_cases hyd:y<d+1
     · have d3:decide ((y:Int)<=(d:Int))=true:=by rw [decide_eq_true_eq];omega
       have hw:=IntWalk.i64_in ((d:Int)-(y:Int)) (by omega)
       go_wp2_with (at_builtin;refine append_rec info_pt Tryz.underlying293 rfl (by decide) (by decide) rfl _ _ rfl _ (T+y) _ [.int .i64 ((d:Int)-(y:Int)),.int .i64 y,.bool true] hE hown rfl rfl rfl (by simp [Value.oneCell']) (by omega) ?_)
       intro v' w' ho hx _
       have hoh:Hid (w'.ownsRow w.heap.size 317 3 v' (T+(y+1)) (ptRow d (y+1))):=Lib.hid (by
        rw [ptRow,ptRow_snoc,ptVals,show ((d-y:Nat):Int)=(d:Int)-(y:Int) from by omega];exact ho)
       clear hown ho hE
       go_wp2_with fail
       refine⟨⟨y+1,by go_num,by omega,hoh.out,hx⟩,?_⟩
       simp [intOf];omega
     · obtain rfl:y=d+1:=by omega
       have d3:decide (((d+1:Nat):Int)<=(d:Int))=false:=by rw [decide_eq_false_iff_not];omega
       have hoh:Hid (wr.ownsRow w.heap.size 317 3 u3 (triN (d+1)) (ptRow (d+1) 0)):=Lib.hid (by
        rw [triN_succ,hT,<- ptRow_full];exact hown)
       clear hown
       go_wp2_with fail
       refine⟨⟨d+1,by go_num,by omega,hoh.out,hE⟩,?_⟩
       simp [intOf];omega
  · obtain rfl:d=n:=by omega
    have d1:decide ((d:Int)<(d:Int))=false:=by simp
    have hoh:Hid (wr.ownsRow w.heap.size 317 3 u3 (triN d) ((triPts d).flatMap ptVals)):=Lib.hid (by rw [<- ptRow_zero];exact hown)
    clear hown
    go_wp2_with fail
    go_ret
    exact⟨_,rfl,hoh.out,hE⟩
set_option maxRecDepth 100000 in
set_option maxHeartbeats 1000000 in
theorem renwants_r (N:Nat)(w:World)(h1:1<=N)(h2:N<=8) :
  Calls Tryz.prog 204 #[.int .i64 N] w fun e w'=>∃ v,e=.returned v/\w'.ownsRow w.heap.size 228 2 v (2*triN N) ((renW (triN N) N).flatMap wantVals)/\Ext w w':=by
 have hn:nM (N:Int)=N:=nM_id (by omega) (by omega)
 have hL:=fun w=>list05_r N w (by omega)
 have hW:=fun w=>rwants31_r N w
 rw [hn] at hW
 obtain⟨q1,q2⟩:=triN_le h1 h2
 generalize (triPts N).flatMap ptVals=pts at *
 generalize triN N=M at *
 go_enter Tryz.func204,Tryz.ntmps204
 go_wp2_with fail
 refine (rn_any ⟨0,0,0,N,0,0,0⟩ _).mono ?_
 rintro e w1 ⟨rfl,hx⟩
 try simp only
 rw [hn]
 clear hn
 go_wp2_with fail
 go_loopw [4,5] (fun v i wr=>∃ j:Nat,i=.int .i64 j/\j<=M/\wr.ownsRow w.heap.size 228 2 v (2*j) ((renW j N).flatMap wantVals)/\Ext w wr) (fun _ i _=>M-(intOf i).toNat)
 case atStart=>exact⟨0,rfl,by omega,World.ownsRow_nil _ _ _ _,hx⟩
 case round =>
  clear hx
  obtain⟨j,rfl,hj,hown,hX⟩:=hrel
  go_wp2_with fail
  refine (hL _).mono ?_
  rintro e w2 ⟨v1,rfl,hr1,hx2⟩
  obtain⟨A1,c1,rfl,-,-,-⟩:=Recs.of_row hr1
  replace hown:=row_ext hown hx2
  replace hX:=hX.trans hx2
  clear hx2 hr1
  by_cases hl:j<M
  · have d1:decide ((j:Int)<(M:Int))=true:=by rw [decide_eq_true_eq];omega
    go_wp2_with fail
    refine (hW _).mono ?_
    rintro e w3 ⟨v2,rfl,hr2,hx3⟩
    replace hown:=row_ext hown hx3
    replace hX:=hX.trans hx3
    obtain⟨A,c,rfl,r1,r2,hV⟩:=hr2
    obtain⟨b,rfl,hb,hc⟩:=hV (by simp [wantVals])
    clear hV hx3
    go_wp2_with (at_builtin;refine append_recs info_want Tryz.underlying183 rfl (by decide) (by decide) rfl _ _ rfl _ (2*j) _ (([⟨-1,(N:Int)⟩,⟨-1,1⟩]:List Want).flatMap wantVals) ⟨b,0,none⟩ 2 c hX hown rfl rfl rfl (fun i u hu=>by rw [Addr.add_lit,Nat.zero_add];exact hc i u hu) (fun u hu=>by simp [wantVals] at hu;rcases hu with rfl | rfl | rfl | rfl <;> rfl) (by omega) (by omega) ?_)
    intro v' w' ho hx'
    have hoh:Hid (w'.ownsRow w.heap.size 228 2 v' (2*(j+1)) ((renW (j+1) N).flatMap wantVals)):=Lib.hid (by
     rw [renW,List.flatMap_append];exact ho)
    clear hown ho hc
    go_wp2_with fail
    refine⟨⟨j+1,by go_num,by omega,hoh.out,hx'⟩,?_⟩
    simp [intOf];omega
  · obtain rfl:j=M:=by omega
    have d1:decide ((j:Int)<(j:Int))=false:=by simp
    have hownh:=Lib.hid hown
    clear hown
    go_wp2_with fail
    go_ret
    exact⟨_,rfl,hownh.out,hX⟩
theorem places_r (N:Nat)(w:World)(h1:1<=N)(h2:N<=8):Calls Tryz.prog 331 #[.int .i64 N] w fun e w'=>e=.returned (.int .i64 (triN N))/\Ext w w':=by
 have hn:nM (N:Int)=N:=nM_id (by omega) (by omega)
 have hL:=fun w=>list05_r N w (by omega)
 generalize (triPts N).flatMap ptVals=pts at *
 generalize triN N=M at *
 go_enter Tryz.func331,Tryz.ntmps331
 go_wp2_with fail
 refine (rn_any ⟨0,0,0,N,0,0,0⟩ _).mono ?_
 rintro e w1 ⟨rfl,hx⟩
 try simp only
 rw [hn]
 clear hn
 go_wp2_with fail
 refine (hL _).mono ?_
 rintro e w2 ⟨v1,rfl,hr1,hx2⟩
 obtain⟨A1,c1,rfl,-,-,-⟩:=Recs.of_row hr1
 have hf:=Lib.hid (hx.trans hx2)
 clear hx hx2 hr1 hL
 go_wp2_with fail
 go_ret
 exact⟨rfl,hf.out⟩
end Go.Proofs.YtponihangpiooaaGreat
namespace Kv
theorem Ref.congr {α:Type}{T T':Prog α}(h:∀ S,T.run S=T'.run S){o o':Bool}{S S':TS}{a:α}(hr:Ref T o S a o' S'):Ref T' o S a o' S':=by
 cases hr with
 | over=>exact .over _ _
 | done k=>exact .done ((h _).symm.trans k)
 | stop _ k=>exact .stop _ ((h _).symm.trans k)
end Kv
namespace Go.Proofs.YtponihangpiooaaGreat
open Go.RowKit Kv
@[go_sem] theorem build_adreg (x y:Value) (a:Int) (w:World) (A1 A2:Option Addr) (n1 c1 n2 c2:Nat) (hx:x=.slice A1 n1 c1) (hy:y=.slice A2 n2 c2):(Instr.build 248 #[(0,x),(1,y),(2,.int .i64 a)]).run Tryz.prog w=.ok (.agg #[x,y,.int .i64 a]) w:=by
 subst hx hy
 exact run_build w 248 _ _ (by kernel_rfl)
theorem RegsAt.part {ix:List Nat}{p b:Nat}{w:World}{rs:List Reg}(h:RegsAt ix w p b rs)(n:Nat):RegsAt ix w p b (rs.take n):=by
 refine⟨h.1,h.2,fun i u hu=>h.3 i u ?_⟩
 have:rs.flatMap regVals=(rs.take n).flatMap regVals++(rs.drop n).flatMap regVals:=by rw [<- List.flatMap_append,List.take_append_drop]
 rw [this,List.getElem?_append_left (List.getElem?_eq_some_iff.1 hu).1]
 exact hu
theorem wants28_0 (w:World):Calls Tryz.prog 328 #[.int .i64 0] w fun e w'=>e=.returned (.slice none 0 0)/\Ext w w':=by
 go_enter Tryz.func328,Tryz.ntmps328
 go_wp2_with fail
 go_loopw [3,4] (fun v i wr=>i=.int .i64 0/\v=.slice none 0 0/\Ext w wr) (fun _ _ _=>0)
 case atStart=>exact⟨rfl,rfl,Ext.refl _⟩
 case round =>
  obtain⟨rfl,rfl,hX⟩:=hrel
  go_wp2_with fail
  go_ret
  exact⟨rfl,hX⟩
theorem rtwants1_r (w:World):Calls Tryz.prog 288 #[.int .i64 6,.int .i64 1] w fun e w'=>e=.returned (.slice none 0 0)/\Ext w w':=by
 have hL:=fun w=>leaves_r 1 w (by omega)
 have hE:=fun w=>each_r 6 w
 rw [show (2 ^ levels ((1:Nat):Int):Nat)=1 from by decide] at hL
 rw [each6] at hE
 go_enter Tryz.func288,Tryz.ntmps288
 go_wp2_with fail
 refine (hE _).mono ?_
 rintro e w' ⟨rfl,rfl⟩
 go_wp2_with fail
 refine (hL _).mono ?_
 rintro e w' ⟨rfl,rfl⟩
 go_wp2_with fail
 refine (wants28_0 _).mono ?_
 rintro e w3 ⟨rfl,hx⟩
 go_wp2_with fail
 go_ret
 exact⟨rfl,hx⟩
set_option maxRecDepth 100000 in
set_option maxHeartbeats 1000000 in
theorem adwants_r (N:Nat)(w:World)(h1:1<=N)(h2:N<=8) :
  Calls Tryz.prog 289 #[.int .i64 N] w fun e w'=>∃ v,e=.returned v/\WantsAt w' v (adWants N)/\Ext w w':=by
 obtain⟨q1,q2⟩:=triN_le h1 h2
 have hPl:=fun w=>places_r N w h1 h2
 have ht:=adTree_le h1 h2
 have hW:=fun w=>rtwants_r 6 (triN N) w (by omega)
 rw [each6] at hW
 have hR:=fun w=>renwants_r N w h1 h2
 have hlen:=adWants_len (N:=N)
 have had:adWants N=renW (triN N) N++List.replicate (3*(2 ^ levels (triN N:Nat)-1)) (⟨-1,1⟩:Want):=rfl
 have hLh:=Lib.hid (show triN N≠1->3*(2 ^ levels (triN N:Nat)-1)≠0 from fun h=>tree_pos (by omega) q2)
 have hL1:=Lib.hid (show triN N=1->3*(2 ^ levels (triN N:Nat)-1)=0 from fun h=>by rw [h];decide)
 unfold treeWants at hW
 generalize 3*(2 ^ levels (triN N:Nat)-1)=L at *
 generalize hl1:renW (triN N) N=l1 at *
 generalize triN N=M at *
 have hlenh:=Lib.hid hlen
 have hadh:=Lib.hid had
 clear hlen had
 go_enter Tryz.func289,Tryz.ntmps289
 go_wp2_with fail
 refine (hR _).mono ?_
 rintro e w2 ⟨v,rfl,hown,hX⟩
 go_wp2_with fail
 refine (hPl _).mono ?_
 rintro e w9 ⟨rfl,hx9⟩
 replace hown:=row_ext hown hx9
 replace hX:=hX.trans hx9
 clear hx9
 go_wp2_with fail
 by_cases hM1:M=1
 · subst hM1
   obtain rfl:L=0:=hL1.out rfl
   clear hW
   refine (rtwants1_r _).mono ?_
   rintro e w3 ⟨rfl,hx3⟩
   replace hown:=row_ext hown hx3
   replace hX:=hX.trans hx3
   clear hx3
   go_wp2_with (at_builtin;refine append_none info_want Tryz.underlying183 rfl _ _ rfl w.heap.size _ (2*1) _ hown rfl rfl ?_)
   have hf:Hid (WantsAt w3 v (adWants N)):=Lib.hid (by
    have:=Recs.of_row hown
    unfold WantsAt
    rw [hlenh.out,hadh.out]
    simpa using this)
   clear hown
   go_wp2_with fail
   go_ret
   exact⟨_,rfl,hf.out,hX⟩
 · refine (hW _).mono ?_
   rintro e w3 ⟨v2,rfl,hr2,hx3⟩
   replace hown:=row_ext hown hx3
   replace hX:=hX.trans hx3
   clear hx3
   obtain⟨A,c,rfl,r1,r2,hV⟩:=hr2
   rw [List.length_replicate] at *
   have hfl:((List.replicate L (⟨-1,1⟩:Want)).flatMap wantVals).length=L*2:=by
    rw [List.length_flatMap]
    simp [wantVals]
   obtain⟨b,rfl,hb,hc⟩:=hV (by
    have hL0:=hLh.out hM1
    cases L with
    | zero=>exact absurd rfl hL0
    | succ L=>simp [wantVals,List.replicate])
   clear hV
   go_wp2_with (at_builtin;refine append_recs info_want Tryz.underlying183 rfl (by decide) (by decide) rfl _ _ rfl _ (2*M) _ ((List.replicate L (⟨-1,1⟩:Want)).flatMap wantVals) ⟨b,0,none⟩ L c hX hown rfl rfl hfl (fun i u hu=>by rw [Addr.add_lit,Nat.zero_add];exact hc i u hu) (fun u hu=>by
    obtain⟨q,_,hq⟩:=List.mem_flatMap.1 hu
    simp [wantVals] at hq;rcases hq with rfl | rfl <;> rfl) (by omega) (by omega) ?_)
   intro v' w' ho hx'
   have hf:Hid (WantsAt w' v' (adWants N)):=Lib.hid (by
    have:=Recs.of_row ho
    unfold WantsAt
    rw [hlenh.out,hadh.out,List.flatMap_append]
    exact this)
   clear hown ho hc
   go_wp2_with fail
   go_ret
   exact⟨_,rfl,hf.out,hx'⟩
set_option maxRecDepth 100000 in
theorem lkw3 (N:Nat)(mode base loc room:Int)(w:World)(h1:1<=N)(h2:N<=8):Calls Tryz.prog 201 #[.agg #[.int .i64 3,.int .i64 N,.int .i64 mode,.int .i64 base,.int .i64 loc,.int .i64 room]] w fun e w'=>∃ v,e=.returned v/\WantsAt w' v (bwWants N)/\Ext w w':=by
 have hX:=Ext.refl w
 have b1:=Blk.new w (.cells #[.int .i64 3,.int .i64 N,.int .i64 mode,.int .i64 base,.int .i64 loc,.int .i64 room] 23)
 replace hX:=hX.alloc (.cells #[.int .i64 3,.int .i64 N,.int .i64 mode,.int .i64 base,.int .i64 loc,.int .i64 room] 23)
 have c_b1:=b1.cells
 go_enter Tryz.func201,Tryz.ntmps201
 go_wp2_with fail
 refine (bwwants_r N _ h1 h2).mono ?_
 rintro e w2 ⟨v,rfl,hv,hx⟩
 have hf:=Lib.hid (And.intro hv (hX.trans hx))
 clear hv hx c_b1
 go_wp2_with fail
 go_ret
 exact⟨_,rfl,hf.out.1,hf.out.2⟩
set_option maxRecDepth 100000 in
theorem lkw4 (N:Nat)(mode base loc room:Int)(w:World)(h1:1<=N)(h2:N<=8):Calls Tryz.prog 201 #[.agg #[.int .i64 4,.int .i64 N,.int .i64 mode,.int .i64 base,.int .i64 loc,.int .i64 room]] w fun e w'=>∃ v,e=.returned v/\WantsAt w' v (filWants N)/\Ext w w':=by
 have hX:=Ext.refl w
 have b1:=Blk.new w (.cells #[.int .i64 4,.int .i64 N,.int .i64 mode,.int .i64 base,.int .i64 loc,.int .i64 room] 23)
 replace hX:=hX.alloc (.cells #[.int .i64 4,.int .i64 N,.int .i64 mode,.int .i64 base,.int .i64 loc,.int .i64 room] 23)
 have c_b1:=b1.cells
 go_enter Tryz.func201,Tryz.ntmps201
 go_wp2_with fail
 refine (filwants_r N _ h1 h2).mono ?_
 rintro e w2 ⟨v,rfl,hv,hx⟩
 have hf:=Lib.hid (And.intro hv (hX.trans hx))
 clear hv hx c_b1
 go_wp2_with fail
 go_ret
 exact⟨_,rfl,hf.out.1,hf.out.2⟩
set_option maxRecDepth 100000 in
theorem lkw5 (N:Nat)(mode base loc room:Int)(w:World)(h1:1<=N)(h2:N<=8):Calls Tryz.prog 201 #[.agg #[.int .i64 5,.int .i64 N,.int .i64 mode,.int .i64 base,.int .i64 loc,.int .i64 room]] w fun e w'=>∃ v,e=.returned v/\WantsAt w' v (fastWants N)/\Ext w w':=by
 have hX:=Ext.refl w
 have b1:=Blk.new w (.cells #[.int .i64 5,.int .i64 N,.int .i64 mode,.int .i64 base,.int .i64 loc,.int .i64 room] 23)
 replace hX:=hX.alloc (.cells #[.int .i64 5,.int .i64 N,.int .i64 mode,.int .i64 base,.int .i64 loc,.int .i64 room] 23)
 have c_b1:=b1.cells
 go_enter Tryz.func201,Tryz.ntmps201
 go_wp2_with fail
 refine (fastwants_r N _ h1 h2).mono ?_
 rintro e w2 ⟨v,rfl,hv,hx⟩
 have hf:=Lib.hid (And.intro hv (hX.trans hx))
 clear hv hx c_b1
 go_wp2_with fail
 go_ret
 exact⟨_,rfl,hf.out.1,hf.out.2⟩
set_option maxRecDepth 100000 in
theorem lkw6 (N:Nat)(mode base loc room:Int)(w:World)(h1:1<=N)(h2:N<=8):Calls Tryz.prog 201 #[.agg #[.int .i64 6,.int .i64 N,.int .i64 mode,.int .i64 base,.int .i64 loc,.int .i64 room]] w fun e w'=>∃ v,e=.returned v/\WantsAt w' v (treeWants (eachK 6) N)/\Ext w w':=by
 have hX:=Ext.refl w
 have b1:=Blk.new w (.cells #[.int .i64 6,.int .i64 N,.int .i64 mode,.int .i64 base,.int .i64 loc,.int .i64 room] 23)
 replace hX:=hX.alloc (.cells #[.int .i64 6,.int .i64 N,.int .i64 mode,.int .i64 base,.int .i64 loc,.int .i64 room] 23)
 have c_b1:=b1.cells
 go_enter Tryz.func201,Tryz.ntmps201
 go_wp2_with fail
 refine (rtwants_r 6 N _ (by omega)).mono ?_
 rintro e w2 ⟨v,rfl,hv,hx⟩
 have hf:=Lib.hid (And.intro hv (hX.trans hx))
 clear hv hx c_b1
 go_wp2_with fail
 go_ret
 exact⟨_,rfl,hf.out.1,hf.out.2⟩
set_option maxRecDepth 100000 in
theorem lkw7 (N:Nat)(mode base loc room:Int)(w:World)(h1:1<=N)(h2:N<=8):Calls Tryz.prog 201 #[.agg #[.int .i64 7,.int .i64 N,.int .i64 mode,.int .i64 base,.int .i64 loc,.int .i64 room]] w fun e w'=>∃ v,e=.returned v/\WantsAt w' v (treeWants (eachK 7) N)/\Ext w w':=by
 have hX:=Ext.refl w
 have b1:=Blk.new w (.cells #[.int .i64 7,.int .i64 N,.int .i64 mode,.int .i64 base,.int .i64 loc,.int .i64 room] 23)
 replace hX:=hX.alloc (.cells #[.int .i64 7,.int .i64 N,.int .i64 mode,.int .i64 base,.int .i64 loc,.int .i64 room] 23)
 have c_b1:=b1.cells
 go_enter Tryz.func201,Tryz.ntmps201
 go_wp2_with fail
 refine (rtwants_r 7 N _ (by omega)).mono ?_
 rintro e w2 ⟨v,rfl,hv,hx⟩
 have hf:=Lib.hid (And.intro hv (hX.trans hx))
 clear hv hx c_b1
 go_wp2_with fail
 go_ret
 exact⟨_,rfl,hf.out.1,hf.out.2⟩
set_option maxRecDepth 100000 in
theorem lkw8 (N:Nat)(mode base loc room:Int)(w:World)(h1:1<=N)(h2:N<=8):Calls Tryz.prog 201 #[.agg #[.int .i64 8,.int .i64 N,.int .i64 mode,.int .i64 base,.int .i64 loc,.int .i64 room]] w fun e w'=>∃ v,e=.returned v/\WantsAt w' v (adWants N)/\Ext w w':=by
 have hX:=Ext.refl w
 have b1:=Blk.new w (.cells #[.int .i64 8,.int .i64 N,.int .i64 mode,.int .i64 base,.int .i64 loc,.int .i64 room] 23)
 replace hX:=hX.alloc (.cells #[.int .i64 8,.int .i64 N,.int .i64 mode,.int .i64 base,.int .i64 loc,.int .i64 room] 23)
 have c_b1:=b1.cells
 go_enter Tryz.func201,Tryz.ntmps201
 go_wp2_with fail
 refine (adwants_r N _ h1 h2).mono ?_
 rintro e w2 ⟨v,rfl,hv,hx⟩
 have hf:=Lib.hid (And.intro hv (hX.trans hx))
 clear hv hx c_b1
 go_wp2_with fail
 go_ret
 exact⟨_,rfl,hf.out.1,hf.out.2⟩
theorem lkwants_r (alg:Int)(N:Nat)(mode base loc room:Int)(w:World)(ha:3<=alg/\alg<=8)(h1:1<=N)(h2:N<=8):Calls Tryz.prog 201 #[.agg #[.int .i64 alg,.int .i64 N,.int .i64 mode,.int .i64 base,.int .i64 loc,.int .i64 room]] w fun e w'=>∃ v,e=.returned v/\WantsAt w' v (lkWants alg N)/\Ext w w':=by
 have:alg=3∨alg=4∨alg=5∨alg=6∨alg=7∨alg=8:=by omega
 rcases this with rfl | rfl | rfl | rfl | rfl | rfl
 · exact lkw3 N mode base loc room w h1 h2
 · exact lkw4 N mode base loc room w h1 h2
 · exact lkw5 N mode base loc room w h1 h2
 · exact lkw6 N mode base loc room w h1 h2
 · exact lkw7 N mode base loc room w h1 h2
 · exact lkw8 N mode base loc room w h1 h2
end Go.Proofs.YtponihangpiooaaGreat
