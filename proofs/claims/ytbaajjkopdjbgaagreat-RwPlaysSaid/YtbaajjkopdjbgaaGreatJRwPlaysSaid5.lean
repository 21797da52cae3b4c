/-
  RwPlaysSaid: part 5 of its proof.
-/
import Derived.Test.YtbaajjkopdjbgaaGreatJRwPlaysSaid4
import Derived.Maps.AppendAt
import Derived.Defers
import Derived.Recover
import Derived.LaidEqlPtr
import Derived.Deep.RegionHeld3
import Derived.Deep.QuietTactic
import Derived.BigQuiet
import Derived.ProofKit
import Derived.OpenShut
import Derived.Deep.DeepHandedRow
import Derived.WideKeyArgs
import Derived.Carry
import Derived.ChangeSame
open Go.Value renaming int -> V
open Go.IntKind renaming i64 -> Z
namespace Go.Proofs.YtbaajjkopdjbgaaGreat
open Go.RowKit Kv
theorem RegsAt.node3 {ix:List Nat}{p b k:Nat}{w:World}{rs:List Reg}{x y z:Reg}(h:RegsAt ix w p b rs)(hi:rs[k]?=some x/\rs[k+1]?=some y/\rs[k+2]?=some z) :
  RegCells w b (k*7) x/\RegCells w b (k*7+7) y/\RegCells w b (k*7+14) z:=by
 have h1:=h.nth hi.2.1
 have h2:=h.nth hi.2.2
 rw [show (k+1)*7=k*7+7 from by omega] at h1
 rw [show (k+2)*7=k*7+14 from by omega] at h2
 exact⟨h.nth hi.1,h1,h2⟩
set_option maxRecDepth 100000 in
set_option maxHeartbeats 1000000 in
theorem arbn_enter_p0 (B p N:Nat)(S:TS)(q0 q1 rt:Reg)(side me:Int)(b c k:Nat)(rs:List Reg)(w:World)(h:Plays B w p S)(hl:RegsAt [2,3,4] w p b rs)(hi:rs[k]?=some q0/\rs[k+1]?=some q1/\rs[k+2]?=some rt)(hq0:q0.ok)(hq1:q1.ok)(hrt:rt.ok)
  (hm0:0<=me)(hm1:me<q0.n)(hm2:me<q1.n)(hm3:me<rt.n)(ht1:q1.told me)(hN:S.left<N)(hs:bitM side=0) :
  Calls Tryz.prog 236 #[.pointer (some ⟨p,0,none⟩),.slice (some ⟨b,k*7,none⟩) 3 c,V Z side,V Z me] w (Post encU B p w ((arbEnter N q0 q1 rt 0 me).run S)):=by
 generalize hR:Post encU B p w ((arbEnter N q0 q1 rt 0 me).run S)=R
 have hO:Owes R encU B p w ((arbEnter N q0 q1 rt 0 me).run S):=hR▸owes _ _ _ _ _
 clear hR;replace hi:=Hd hi;have hP:=h;clear h;unfold arbEnter at hO
 have hb:=abit_p side
 rw [hs] at hb;clear hs
 have hS:∀ w',RegsAt [2,3,4] w' p b rs->((w'.cell? ⟨b,k*7,none⟩=some (V Z q0.kind)/\w'.cell? ⟨b,k*7+1,none⟩=some (V Z q0.base)/\w'.cell? ⟨b,k*7+2,none⟩=some (V Z q0.loc)/\w'.cell? ⟨b,k*7+3,none⟩=some (V Z q0.n)/\w'.cell? ⟨b,k*7+4,none⟩=some (V Z q0.wr)/\w'.cell? ⟨b,k*7+5,none⟩=some (V Z q0.rd)/\w'.cell? ⟨b,k*7+6,none⟩=some (V Z q0.top))/\(w'.cell? ⟨b,k*7+7,none⟩=some (V Z q1.kind)/\w'.cell? ⟨b,k*7+7+1,none⟩=some (V Z q1.base)/\w'.cell? ⟨b,k*7+7+2,none⟩=some (V Z q1.loc)/\w'.cell? ⟨b,k*7+7+3,none⟩=some (V Z q1.n)/\w'.cell? ⟨b,k*7+7+4,none⟩=some (V Z q1.wr)/\w'.cell? ⟨b,k*7+7+5,none⟩=some (V Z q1.rd)/\w'.cell? ⟨b,k*7+7+6,none⟩=some (V Z q1.top))/\(w'.cell? ⟨b,k*7+14,none⟩=some (V Z rt.kind)/\w'.cell? ⟨b,k*7+14+1,none⟩=some (V Z rt.base)/\w'.cell? ⟨b,k*7+14+2,none⟩=some (V Z rt.loc)/\w'.cell? ⟨b,k*7+14+3,none⟩=some (V Z rt.n)/\w'.cell? ⟨b,k*7+14+4,none⟩=some (V Z rt.wr)/\w'.cell? ⟨b,k*7+14+5,none⟩=some (V Z rt.rd)/\w'.cell? ⟨b,k*7+14+6,none⟩=some (V Z rt.top))):=fun w' y=>by
  obtain⟨⟨a0,a1,a2,a3,a4,a5,a6⟩,⟨e0,e1,e2,e3,e4,e5,e6⟩,⟨f0,f1,f2,f3,f4,f5,f6⟩⟩:=y.node3 hi.out
  exact⟨⟨a0,a1,a2,a3,a4,a5,a6⟩,⟨e0,e1,e2,e3,e4,e5,e6⟩,⟨f0,f1,f2,f3,f4,f5,f6⟩⟩
 go_enter Tryz.func236,Tryz.ntmps236
 go_wp2_with fail
 have hOh:=Hd hO
 have hbh:=Hd hb
 clear hO hb
 go_upto_region 1 with fail
 go_cut [8,9] (fun s8 s9 wx=>∃ (x y:Nat),s8=.pointer (some ⟨x,0,none⟩)/\s9=.pointer (some ⟨y,0,none⟩)/\HeldP wx p x (.cells #[V Z q0.kind,V Z q0.base,V Z q0.loc,V Z q0.n,V Z q0.wr,V Z q0.rd,V Z q0.top,V Z q1.kind,V Z q1.base,V Z q1.loc,V Z q1.n,V Z q1.wr,V Z q1.rd,V Z q1.top] 211)/\HeldP wx p y (.cells #[V Z rt.kind,V Z rt.base,V Z rt.loc,V Z rt.n,V Z rt.wr,V Z rt.rd,V Z rt.top] 67)/\Plays B wx p S/\KeepP B p w wx/\RegsAt [2,3,4] wx p b rs)
 case first =>
  have hl2:=hl.extL (Ext.refl w).drew hP.lt
  obtain⟨⟨a0,a1,a2,a3,a4,a5,a6⟩,⟨e0,e1,e2,e3,e4,e5,e6⟩,⟨f0,f1,f2,f3,f4,f5,f6⟩⟩:=hl.node3 hi.out
  go_region_held2 (fun w'=>((w'.cell? ⟨b,k*7,none⟩=some (V Z q0.kind)/\w'.cell? ⟨b,k*7+1,none⟩=some (V Z q0.base)/\w'.cell? ⟨b,k*7+2,none⟩=some (V Z q0.loc)/\w'.cell? ⟨b,k*7+3,none⟩=some (V Z q0.n)/\w'.cell? ⟨b,k*7+4,none⟩=some (V Z q0.wr)/\w'.cell? ⟨b,k*7+5,none⟩=some (V Z q0.rd)/\w'.cell? ⟨b,k*7+6,none⟩=some (V Z q0.top))/\(w'.cell? ⟨b,k*7+7,none⟩=some (V Z q1.kind)/\w'.cell? ⟨b,k*7+7+1,none⟩=some (V Z q1.base)/\w'.cell? ⟨b,k*7+7+2,none⟩=some (V Z q1.loc)/\w'.cell? ⟨b,k*7+7+3,none⟩=some (V Z q1.n)/\w'.cell? ⟨b,k*7+7+4,none⟩=some (V Z q1.wr)/\w'.cell? ⟨b,k*7+7+5,none⟩=some (V Z q1.rd)/\w'.cell? ⟨b,k*7+7+6,none⟩=some (V Z q1.top))/\(w'.cell? ⟨b,k*7+14,none⟩=some (V Z rt.kind)/\w'.cell? ⟨b,k*7+14+1,none⟩=some (V Z rt.base)/\w'.cell? ⟨b,k*7+14+2,none⟩=some (V Z rt.loc)/\w'.cell? ⟨b,k*7+14+3,none⟩=some (V Z rt.n)/\w'.cell? ⟨b,k*7+14+4,none⟩=some (V Z rt.wr)/\w'.cell? ⟨b,k*7+14+5,none⟩=some (V Z rt.rd)/\w'.cell? ⟨b,k*7+14+6,none⟩=some (V Z rt.top)))) (first | with_reducible exact hS _ hl2 | go_keep) (fail)
  · rename_i hh
    clear hh
    obtain⟨b1,b2,hP2,hK2,hl3⟩:=two_held hP hl (.cells #[V Z q0.kind,V Z q0.base,V Z q0.loc,V Z q0.n,V Z q0.wr,V Z q0.rd,V Z q0.top,V Z q1.kind,V Z q1.base,V Z q1.loc,V Z q1.n,V Z q1.wr,V Z q1.rd,V Z q1.top] 211) (.cells #[V Z rt.kind,V Z rt.base,V Z rt.loc,V Z rt.n,V Z rt.wr,V Z rt.rd,V Z rt.top] 67)
    clear hS hl2 hl hP a0 a1 a2 a3 a4 a5 a6 e0 e1 e2 e3 e4 e5 e6 f0 f1 f2 f3 f4 f5 f6;go_wp2_with fail
    go_meet
    exact⟨_,_,rfl,rfl,b1,b2,hP2,hK2,hl3⟩
  · rename_i hh
    clear hh
    obtain⟨b2,b1,hP2,hK2,hl3⟩:=two_held hP hl (.cells #[V Z rt.kind,V Z rt.base,V Z rt.loc,V Z rt.n,V Z rt.wr,V Z rt.rd,V Z rt.top] 67) (.cells #[V Z q0.kind,V Z q0.base,V Z q0.loc,V Z q0.n,V Z q0.wr,V Z q0.rd,V Z q0.top,V Z q1.kind,V Z q1.base,V Z q1.loc,V Z q1.n,V Z q1.wr,V Z q1.rd,V Z q1.top] 211)
    clear hS hl2 hl hP a0 a1 a2 a3 a4 a5 a6 e0 e1 e2 e3 e4 e5 e6 f0 f1 f2 f3 f4 f5 f6;go_wp2_with fail
    go_meet
    exact⟨_,_,rfl,rfl,b1,b2,hP2,hK2,hl3⟩
 case rest =>
  clear hS hl hP
  obtain⟨x,y,rfl,rfl,bx,bt,hP,hK,-⟩:=hcut
  go_wp2_with fail
  refine (hbh.out _).mono ?_
  rintro e w' ⟨rfl,rfl⟩;have c_bx:=bx.cells;clear hbh;have hPo:=hP
  have bn:=hP.held (.cells #[V Z q1.kind,V Z q1.base,V Z q1.loc,V Z q1.n,V Z q1.wr,V Z q1.rd,V Z q1.top] 67)
  have hKn:=hK.trans (Keep.alloc (.cells #[V Z q1.kind,V Z q1.base,V Z q1.loc,V Z q1.n,V Z q1.wr,V Z q1.rd,V Z q1.top] 67) hP.lt hP.le)
  have hPn:=hP.alloc (.cells #[V Z q1.kind,V Z q1.base,V Z q1.loc,V Z q1.n,V Z q1.wr,V Z q1.rd,V Z q1.top] 67)
  have bxn:=bx.alloc (.cells #[V Z q1.kind,V Z q1.base,V Z q1.loc,V Z q1.n,V Z q1.wr,V Z q1.rd,V Z q1.top] 67) hP.lt
  have btn:=bt.alloc (.cells #[V Z q1.kind,V Z q1.base,V Z q1.loc,V Z q1.n,V Z q1.wr,V Z q1.rd,V Z q1.top] 67) hP.lt
  clear hP hK bx bt hPo;have c_bxn:=bxn.cells;go_wp2_with fail
  clear c_bx c_bxn
  generalize hzn:wc.heap.size=z at *
  generalize wc.alloc _=W at *
  clear hzn;have hP:=hPn;have hK:=hKn;have bx:=bxn;have bt:=btn;clear hPn hKn bxn btn;replace hO:=hOh.out;clear hOh
  refine tstepL hO hK (reg_write_p B p S q0 me 1 _ hP hq0 ⟨hm0,by omega⟩) (fun _ h=>⟨rfl,h⟩) ?_
  clear hO hK hP;intro u S2 w2 hlf _ hP hk hK hO;replace hN:=Nat.lt_of_le_of_lt hlf hN;replace bn:=bn.keep hk;replace bt:=bt.keep hk;have c_bt:=bt.cells;have hOh:=Hd hO;clear hk hlf bx hO;go_wp2_with fail
  replace hO:=hOh.out;clear hOh c_bt
  refine tstepL hO hK (reg_write_p B p S2 rt me 0 _ hP hrt ⟨hm0,hm3⟩) (fun _ h=>⟨rfl,h⟩) ?_
  clear hO hK hP;intro u S3 w3 hlf _ hP hk hK hO;replace hN:=Nat.lt_of_le_of_lt hlf hN;replace bn:=bn.keep hk;replace bt:=bt.keep hk;have hOh:=Hd hO;clear hk hlf hO;go_wp2_with fail
  go_loopw [] (fun wr=>∃ (n:Nat) (S4:TS),Plays B wr p S4/\KeepP B p w wr/\HeldP wr p z (.cells #[V Z q1.kind,V Z q1.base,V Z q1.loc,V Z q1.n,V Z q1.wr,V Z q1.rd,V Z q1.top] 67)/\HeldP wr p y (.cells #[V Z rt.kind,V Z rt.base,V Z rt.loc,V Z rt.n,V Z rt.wr,V Z rt.rd,V Z rt.top] 67)/\Hid (Owes R encU B p w ((arbSpin q1 rt 0 me n).run S4))/\S4.left<n) (fun wr=>leftW 1 3 wr p)
  case atStart=>exact⟨N,S3,hP,hK,bn,bt,hOh,hN⟩
  case round =>
   clear hP hK bn bt hOh hN
   obtain⟨n,S4,hP,hK,bn,bt,hO,hN⟩:=hrel
   replace hO:=hO.out
   have hlw:=Hd hP.left
   cases n with
   | zero=>omega
   | succ n =>
     rw [arbSpin_succ] at hO;have c_bn:=bn.cells;have hOh:=Hd hO;clear hO;go_wp2_with fail
     replace hO:=hOh.out;clear hOh c_bn
     refine tstepL hO hK (reg_read_p B p S4 q1 me _ hP hq1 ⟨hm0,by omega⟩) (fun _ h=>⟨rfl,h⟩) ?_
     clear hO hK hP;intro v S5 w4 _ hlf hP hk hK hO
     replace hlf:=hlf (asks_regR _ _ ht1)
     replace bn:=bn.keep hk;replace bt:=bt.keep hk;clear hk
     by_cases hv:v=0
     · rw [if_pos hv] at hO
       subst hv
       have hf:R (.returned (encU ())) w4:=hO.done hP hK
       clear hO hP hK bn bt;go_wp2_with fail
       first | exact hf | (refine bodyPost_ret (results_none rfl _ _ _) rfl ?_;exact hf)
     · rw [if_neg hv] at hO
       have hv2:(v==0)=false:=by rw [beq_eq_false_iff_ne];exact hv
       have c_bt:=bt.cells;have hOh:=Hd hO;clear hv hO;go_wp2_with fail
       replace hO:=hOh.out;clear hOh c_bt
       refine tstepL hO hK (reg_read_p B p S5 rt me _ hP hrt ⟨hm0,hm3⟩) (fun _ h=>⟨rfl,h⟩) ?_
       clear hO hK hP;intro y0 S6 w5 hlf2 _ hP hk hK hO;replace bn:=bn.keep hk;replace bt:=bt.keep hk;clear hk
       by_cases hy:y0=0
       · rw [if_pos hy] at hO
         have hy2:(y0 != 0)=false:=by simpa using hy
         have c_bn:=bn.cells;have hOh:=Hd hO;clear hy hO;go_wp2_with fail
         refine (cells_pm q1 me _ hq1 ht1 ⟨hm0,by omega⟩).mono ?_
         rintro e w6 ⟨cc,rfl,hcc,hx⟩
         replace bn:=bn.ext hx hP.lt;replace bt:=bt.ext hx hP.lt;replace hK:=hK.trans (Keep.of_ext hx hP.lt hP.le);replace hP:=hP.ext hx;clear hx c_bn
         have hlw2:=Hd hP.left
         go_wp2_with fail
         refine⟨⟨n,S6,hP,hK,bn,bt,hOh,by omega⟩,?_⟩
         rw [hlw.out,hlw2.out]
         omega
       · rw [if_neg hy] at hO
         have hy2:(y0 != 0)=true:=by simpa using hy
         have hf:R (.returned (encU ())) w5:=hO.done hP hK
         clear hO hP hK bn bt hy;go_wp2_with fail
         first | exact hf | (refine bodyPost_ret (results_none rfl _ _ _) rfl ?_;exact hf)
set_option maxRecDepth 100000 in
set_option maxHeartbeats 1000000 in
theorem arbn_enter_p1 (B p N:Nat)(S:TS)(q0 q1 rt:Reg)(side me:Int)(b c k:Nat)(rs:List Reg)(w:World)(h:Plays B w p S)(hl:RegsAt [2,3,4] w p b rs)(hi:rs[k]?=some q0/\rs[k+1]?=some q1/\rs[k+2]?=some rt)(hq0:q0.ok)(hq1:q1.ok)(hrt:rt.ok)
  (hm0:0<=me)(hm1:me<q0.n)(hm2:me<q1.n)(hm3:me<rt.n)(ht1:q0.told me)(hN:S.left<N)(hs:bitM side=1) :
  Calls Tryz.prog 236 #[.pointer (some ⟨p,0,none⟩),.slice (some ⟨b,k*7,none⟩) 3 c,V Z side,V Z me] w (Post encU B p w ((arbEnter N q1 q0 rt 1 me).run S)):=by
 generalize hR:Post encU B p w ((arbEnter N q1 q0 rt 1 me).run S)=R
 have hO:Owes R encU B p w ((arbEnter N q1 q0 rt 1 me).run S):=hR▸owes _ _ _ _ _
 clear hR;replace hi:=Hd hi;have hP:=h;clear h;unfold arbEnter at hO
 have hb:=abit_p side
 rw [hs] at hb;clear hs
 have hS:∀ w',RegsAt [2,3,4] w' p b rs->((w'.cell? ⟨b,k*7,none⟩=some (V Z q0.kind)/\w'.cell? ⟨b,k*7+1,none⟩=some (V Z q0.base)/\w'.cell? ⟨b,k*7+2,none⟩=some (V Z q0.loc)/\w'.cell? ⟨b,k*7+3,none⟩=some (V Z q0.n)/\w'.cell? ⟨b,k*7+4,none⟩=some (V Z q0.wr)/\w'.cell? ⟨b,k*7+5,none⟩=some (V Z q0.rd)/\w'.cell? ⟨b,k*7+6,none⟩=some (V Z q0.top))/\(w'.cell? ⟨b,k*7+7,none⟩=some (V Z q1.kind)/\w'.cell? ⟨b,k*7+7+1,none⟩=some (V Z q1.base)/\w'.cell? ⟨b,k*7+7+2,none⟩=some (V Z q1.loc)/\w'.cell? ⟨b,k*7+7+3,none⟩=some (V Z q1.n)/\w'.cell? ⟨b,k*7+7+4,none⟩=some (V Z q1.wr)/\w'.cell? ⟨b,k*7+7+5,none⟩=some (V Z q1.rd)/\w'.cell? ⟨b,k*7+7+6,none⟩=some (V Z q1.top))/\(w'.cell? ⟨b,k*7+14,none⟩=some (V Z rt.kind)/\w'.cell? ⟨b,k*7+14+1,none⟩=some (V Z rt.base)/\w'.cell? ⟨b,k*7+14+2,none⟩=some (V Z rt.loc)/\w'.cell? ⟨b,k*7+14+3,none⟩=some (V Z rt.n)/\w'.cell? ⟨b,k*7+14+4,none⟩=some (V Z rt.wr)/\w'.cell? ⟨b,k*7+14+5,none⟩=some (V Z rt.rd)/\w'.cell? ⟨b,k*7+14+6,none⟩=some (V Z rt.top))):=fun w' y=>by
  obtain⟨⟨a0,a1,a2,a3,a4,a5,a6⟩,⟨e0,e1,e2,e3,e4,e5,e6⟩,⟨f0,f1,f2,f3,f4,f5,f6⟩⟩:=y.node3 hi.out
  exact⟨⟨a0,a1,a2,a3,a4,a5,a6⟩,⟨e0,e1,e2,e3,e4,e5,e6⟩,⟨f0,f1,f2,f3,f4,f5,f6⟩⟩
 go_enter Tryz.func236,Tryz.ntmps236
 go_wp2_with fail
 have hOh:=Hd hO
 have hbh:=Hd hb
 clear hO hb
 go_upto_region 1 with fail
 go_cut [8,9] (fun s8 s9 wx=>∃ (x y:Nat),s8=.pointer (some ⟨x,0,none⟩)/\s9=.pointer (some ⟨y,0,none⟩)/\HeldP wx p x (.cells #[V Z q0.kind,V Z q0.base,V Z q0.loc,V Z q0.n,V Z q0.wr,V Z q0.rd,V Z q0.top,V Z q1.kind,V Z q1.base,V Z q1.loc,V Z q1.n,V Z q1.wr,V Z q1.rd,V Z q1.top] 211)/\HeldP wx p y (.cells #[V Z rt.kind,V Z rt.base,V Z rt.loc,V Z rt.n,V Z rt.wr,V Z rt.rd,V Z rt.top] 67)/\Plays B wx p S/\KeepP B p w wx/\RegsAt [2,3,4] wx p b rs)
 case first =>
  have hl2:=hl.extL (Ext.refl w).drew hP.lt
  obtain⟨⟨a0,a1,a2,a3,a4,a5,a6⟩,⟨e0,e1,e2,e3,e4,e5,e6⟩,⟨f0,f1,f2,f3,f4,f5,f6⟩⟩:=hl.node3 hi.out
  go_region_held2 (fun w'=>((w'.cell? ⟨b,k*7,none⟩=some (V Z q0.kind)/\w'.cell? ⟨b,k*7+1,none⟩=some (V Z q0.base)/\w'.cell? ⟨b,k*7+2,none⟩=some (V Z q0.loc)/\w'.cell? ⟨b,k*7+3,none⟩=some (V Z q0.n)/\w'.cell? ⟨b,k*7+4,none⟩=some (V Z q0.wr)/\w'.cell? ⟨b,k*7+5,none⟩=some (V Z q0.rd)/\w'.cell? ⟨b,k*7+6,none⟩=some (V Z q0.top))/\(w'.cell? ⟨b,k*7+7,none⟩=some (V Z q1.kind)/\w'.cell? ⟨b,k*7+7+1,none⟩=some (V Z q1.base)/\w'.cell? ⟨b,k*7+7+2,none⟩=some (V Z q1.loc)/\w'.cell? ⟨b,k*7+7+3,none⟩=some (V Z q1.n)/\w'.cell? ⟨b,k*7+7+4,none⟩=some (V Z q1.wr)/\w'.cell? ⟨b,k*7+7+5,none⟩=some (V Z q1.rd)/\w'.cell? ⟨b,k*7+7+6,none⟩=some (V Z q1.top))/\(w'.cell? ⟨b,k*7+14,none⟩=some (V Z rt.kind)/\w'.cell? ⟨b,k*7+14+1,none⟩=some (V Z rt.base)/\w'.cell? ⟨b,k*7+14+2,none⟩=some (V Z rt.loc)/\w'.cell? ⟨b,k*7+14+3,none⟩=some (V Z rt.n)/\w'.cell? ⟨b,k*7+14+4,none⟩=some (V Z rt.wr)/\w'.cell? ⟨b,k*7+14+5,none⟩=some (V Z rt.rd)/\w'.cell? ⟨b,k*7+14+6,none⟩=some (V Z rt.top)))) (first | with_reducible exact hS _ hl2 | go_keep) (fail)
  · rename_i hh
    clear hh
    obtain⟨b1,b2,hP2,hK2,hl3⟩:=two_held hP hl (.cells #[V Z q0.kind,V Z q0.base,V Z q0.loc,V Z q0.n,V Z q0.wr,V Z q0.rd,V Z q0.top,V Z q1.kind,V Z q1.base,V Z q1.loc,V Z q1.n,V Z q1.wr,V Z q1.rd,V Z q1.top] 211) (.cells #[V Z rt.kind,V Z rt.base,V Z rt.loc,V Z rt.n,V Z rt.wr,V Z rt.rd,V Z rt.top] 67)
    clear hS hl2 hl hP a0 a1 a2 a3 a4 a5 a6 e0 e1 e2 e3 e4 e5 e6 f0 f1 f2 f3 f4 f5 f6;go_wp2_with fail
    go_meet
    exact⟨_,_,rfl,rfl,b1,b2,hP2,hK2,hl3⟩
  · rename_i hh
    clear hh
    obtain⟨b2,b1,hP2,hK2,hl3⟩:=two_held hP hl (.cells #[V Z rt.kind,V Z rt.base,V Z rt.loc,V Z rt.n,V Z rt.wr,V Z rt.rd,V Z rt.top] 67) (.cells #[V Z q0.kind,V Z q0.base,V Z q0.loc,V Z q0.n,V Z q0.wr,V Z q0.rd,V Z q0.top,V Z q1.kind,V Z q1.base,V Z q1.loc,V Z q1.n,V Z q1.wr,V Z q1.rd,V Z q1.top] 211)
    clear hS hl2 hl hP a0 a1 a2 a3 a4 a5 a6 e0 e1 e2 e3 e4 e5 e6 f0 f1 f2 f3 f4 f5 f6;go_wp2_with fail
    go_meet
    exact⟨_,_,rfl,rfl,b1,b2,hP2,hK2,hl3⟩
 case rest =>
  clear hS hl hP
  obtain⟨x,y,rfl,rfl,bx,bt,hP,hK,-⟩:=hcut
  go_wp2_with fail
  refine (hbh.out _).mono ?_
  rintro e w' ⟨rfl,rfl⟩;have c_bx:=bx.cells;clear hbh;have hPo:=hP
  have bn:=hP.held (.cells #[V Z q0.kind,V Z q0.base,V Z q0.loc,V Z q0.n,V Z q0.wr,V Z q0.rd,V Z q0.top] 67)
  have hKn:=hK.trans (Keep.alloc (.cells #[V Z q0.kind,V Z q0.base,V Z q0.loc,V Z q0.n,V Z q0.wr,V Z q0.rd,V Z q0.top] 67) hP.lt hP.le)
  have hPn:=hP.alloc (.cells #[V Z q0.kind,V Z q0.base,V Z q0.loc,V Z q0.n,V Z q0.wr,V Z q0.rd,V Z q0.top] 67)
  have bxn:=bx.alloc (.cells #[V Z q0.kind,V Z q0.base,V Z q0.loc,V Z q0.n,V Z q0.wr,V Z q0.rd,V Z q0.top] 67) hP.lt
  have btn:=bt.alloc (.cells #[V Z q0.kind,V Z q0.base,V Z q0.loc,V Z q0.n,V Z q0.wr,V Z q0.rd,V Z q0.top] 67) hP.lt
  clear hP hK bx bt hPo;have c_bxn:=bxn.cells;go_wp2_with fail
  clear c_bx c_bxn
  generalize hzn:wc.heap.size=z at *
  generalize wc.alloc _=W at *
  clear hzn;have hP:=hPn;have hK:=hKn;have bx:=bxn;have bt:=btn;clear hPn hKn bxn btn;replace hO:=hOh.out;clear hOh
  refine tstepL hO hK (reg_write_p B p S q1 me 1 _ hP hq1 ⟨hm0,by omega⟩) (fun _ h=>⟨rfl,h⟩) ?_
  clear hO hK hP;intro u S2 w2 hlf _ hP hk hK hO;replace hN:=Nat.lt_of_le_of_lt hlf hN;replace bn:=bn.keep hk;replace bt:=bt.keep hk;have c_bt:=bt.cells;have hOh:=Hd hO;clear hk hlf bx hO;go_wp2_with fail
  replace hO:=hOh.out;clear hOh c_bt
  refine tstepL hO hK (reg_write_p B p S2 rt me 1 _ hP hrt ⟨hm0,hm3⟩) (fun _ h=>⟨rfl,h⟩) ?_
  clear hO hK hP;intro u S3 w3 hlf _ hP hk hK hO;replace hN:=Nat.lt_of_le_of_lt hlf hN;replace bn:=bn.keep hk;replace bt:=bt.keep hk;have hOh:=Hd hO;clear hk hlf hO;go_wp2_with fail
  go_loopw [] (fun wr=>∃ (n:Nat) (S4:TS),Plays B wr p S4/\KeepP B p w wr/\HeldP wr p z (.cells #[V Z q0.kind,V Z q0.base,V Z q0.loc,V Z q0.n,V Z q0.wr,V Z q0.rd,V Z q0.top] 67)/\HeldP wr p y (.cells #[V Z rt.kind,V Z rt.base,V Z rt.loc,V Z rt.n,V Z rt.wr,V Z rt.rd,V Z rt.top] 67)/\Hid (Owes R encU B p w ((arbSpin q0 rt 1 me n).run S4))/\S4.left<n) (fun wr=>leftW 1 3 wr p)
  case atStart=>exact⟨N,S3,hP,hK,bn,bt,hOh,hN⟩
  case round =>
   clear hP hK bn bt hOh hN
   obtain⟨n,S4,hP,hK,bn,bt,hO,hN⟩:=hrel
   replace hO:=hO.out
   have hlw:=Hd hP.left
   cases n with
   | zero=>omega
   | succ n =>
     rw [arbSpin_succ] at hO;have c_bn:=bn.cells;have hOh:=Hd hO;clear hO;go_wp2_with fail
     replace hO:=hOh.out;clear hOh c_bn
     refine tstepL hO hK (reg_read_p B p S4 q0 me _ hP hq0 ⟨hm0,by omega⟩) (fun _ h=>⟨rfl,h⟩) ?_
     clear hO hK hP;intro v S5 w4 _ hlf hP hk hK hO
     replace hlf:=hlf (asks_regR _ _ ht1)
     replace bn:=bn.keep hk;replace bt:=bt.keep hk;clear hk
     by_cases hv:v=0
     · rw [if_pos hv] at hO
       subst hv
       have hf:R (.returned (encU ())) w4:=hO.done hP hK
       clear hO hP hK bn bt;go_wp2_with fail
       first | exact hf | (refine bodyPost_ret (results_none rfl _ _ _) rfl ?_;exact hf)
     · rw [if_neg hv] at hO
       have hv2:(v==0)=false:=by rw [beq_eq_false_iff_ne];exact hv
       have c_bt:=bt.cells;have hOh:=Hd hO;clear hv hO;go_wp2_with fail
       replace hO:=hOh.out;clear hOh c_bt
       refine tstepL hO hK (reg_read_p B p S5 rt me _ hP hrt ⟨hm0,hm3⟩) (fun _ h=>⟨rfl,h⟩) ?_
       clear hO hK hP;intro y0 S6 w5 hlf2 _ hP hk hK hO;replace bn:=bn.keep hk;replace bt:=bt.keep hk;clear hk
       by_cases hy:y0=1
       · rw [if_pos hy] at hO
         have hy2:(y0 != 1)=false:=by simpa using hy
         have c_bn:=bn.cells;have hOh:=Hd hO;clear hy hO;go_wp2_with fail
         refine (cells_pm q0 me _ hq0 ht1 ⟨hm0,by omega⟩).mono ?_
         rintro e w6 ⟨cc,rfl,hcc,hx⟩
         replace bn:=bn.ext hx hP.lt;replace bt:=bt.ext hx hP.lt;replace hK:=hK.trans (Keep.of_ext hx hP.lt hP.le);replace hP:=hP.ext hx;clear hx c_bn
         have hlw2:=Hd hP.left
         go_wp2_with fail
         refine⟨⟨n,S6,hP,hK,bn,bt,hOh,by omega⟩,?_⟩
         rw [hlw.out,hlw2.out]
         omega
       · rw [if_neg hy] at hO
         have hy2:(y0 != 1)=true:=by simpa using hy
         have hf:R (.returned (encU ())) w5:=hO.done hP hK
         clear hO hP hK bn bt hy;go_wp2_with fail
         first | exact hf | (refine bodyPost_ret (results_none rfl _ _ _) rfl ?_;exact hf)
set_option maxRecDepth 100000 in
theorem arbn_leave_p0 (B p:Nat)(S:TS)(q0 q1 rt:Reg)(side me:Int)(b c k:Nat)(rs:List Reg)(w:World)(h:Plays B w p S)(hl:RegsAt [2,3,4] w p b rs)(hi:rs[k]?=some q0/\rs[k+1]?=some q1/\rs[k+2]?=some rt)(hq:q0.ok)
  (hm0:0<=me)(hm1:me<q0.n)(hs:bitM side=0) :
  Calls Tryz.prog 237 #[.pointer (some ⟨p,0,none⟩),.slice (some ⟨b,k*7,none⟩) 3 c,V Z side,V Z me] w (Post encU B p w ((regW q0 me 0).run S)):=by
 generalize hR:Post encU B p w ((regW q0 me 0).run S)=R
 have hO:Owes R encU B p w ((regW q0 me 0).run S):=hR▸owes _ _ _ _ _
 clear hR;replace hi:=Hd hi
 have hK:=Keep.refl [2,3,4] B p w
 have hP:=h;clear h
 have hb:=abit_p side
 rw [hs] at hb;clear hs
 have hS:∀ w',RegsAt [2,3,4] w' p b rs->((w'.cell? ⟨b,k*7,none⟩=some (V Z q0.kind)/\w'.cell? ⟨b,k*7+1,none⟩=some (V Z q0.base)/\w'.cell? ⟨b,k*7+2,none⟩=some (V Z q0.loc)/\w'.cell? ⟨b,k*7+3,none⟩=some (V Z q0.n)/\w'.cell? ⟨b,k*7+4,none⟩=some (V Z q0.wr)/\w'.cell? ⟨b,k*7+5,none⟩=some (V Z q0.rd)/\w'.cell? ⟨b,k*7+6,none⟩=some (V Z q0.top))/\(w'.cell? ⟨b,k*7+7,none⟩=some (V Z q1.kind)/\w'.cell? ⟨b,k*7+7+1,none⟩=some (V Z q1.base)/\w'.cell? ⟨b,k*7+7+2,none⟩=some (V Z q1.loc)/\w'.cell? ⟨b,k*7+7+3,none⟩=some (V Z q1.n)/\w'.cell? ⟨b,k*7+7+4,none⟩=some (V Z q1.wr)/\w'.cell? ⟨b,k*7+7+5,none⟩=some (V Z q1.rd)/\w'.cell? ⟨b,k*7+7+6,none⟩=some (V Z q1.top))/\(w'.cell? ⟨b,k*7+14,none⟩=some (V Z rt.kind)/\w'.cell? ⟨b,k*7+14+1,none⟩=some (V Z rt.base)/\w'.cell? ⟨b,k*7+14+2,none⟩=some (V Z rt.loc)/\w'.cell? ⟨b,k*7+14+3,none⟩=some (V Z rt.n)/\w'.cell? ⟨b,k*7+14+4,none⟩=some (V Z rt.wr)/\w'.cell? ⟨b,k*7+14+5,none⟩=some (V Z rt.rd)/\w'.cell? ⟨b,k*7+14+6,none⟩=some (V Z rt.top))):=fun w' y=>by
  obtain⟨⟨a0,a1,a2,a3,a4,a5,a6⟩,⟨e0,e1,e2,e3,e4,e5,e6⟩,⟨f0,f1,f2,f3,f4,f5,f6⟩⟩:=y.node3 hi.out
  exact⟨⟨a0,a1,a2,a3,a4,a5,a6⟩,⟨e0,e1,e2,e3,e4,e5,e6⟩,⟨f0,f1,f2,f3,f4,f5,f6⟩⟩
 go_enter Tryz.func237,Tryz.ntmps237
 go_wp2_with fail
 have hOh:=Hd hO
 have hbh:=Hd hb
 clear hO hb
 have hl2:=hl.extL (Ext.refl w).drew hP.lt
 obtain⟨⟨a0,a1,a2,a3,a4,a5,a6⟩,⟨e0,e1,e2,e3,e4,e5,e6⟩,⟨f0,f1,f2,f3,f4,f5,f6⟩⟩:=hl.node3 hi.out
 go_region_held2 (fun w'=>((w'.cell? ⟨b,k*7,none⟩=some (V Z q0.kind)/\w'.cell? ⟨b,k*7+1,none⟩=some (V Z q0.base)/\w'.cell? ⟨b,k*7+2,none⟩=some (V Z q0.loc)/\w'.cell? ⟨b,k*7+3,none⟩=some (V Z q0.n)/\w'.cell? ⟨b,k*7+4,none⟩=some (V Z q0.wr)/\w'.cell? ⟨b,k*7+5,none⟩=some (V Z q0.rd)/\w'.cell? ⟨b,k*7+6,none⟩=some (V Z q0.top))/\(w'.cell? ⟨b,k*7+7,none⟩=some (V Z q1.kind)/\w'.cell? ⟨b,k*7+7+1,none⟩=some (V Z q1.base)/\w'.cell? ⟨b,k*7+7+2,none⟩=some (V Z q1.loc)/\w'.cell? ⟨b,k*7+7+3,none⟩=some (V Z q1.n)/\w'.cell? ⟨b,k*7+7+4,none⟩=some (V Z q1.wr)/\w'.cell? ⟨b,k*7+7+5,none⟩=some (V Z q1.rd)/\w'.cell? ⟨b,k*7+7+6,none⟩=some (V Z q1.top))/\(w'.cell? ⟨b,k*7+14,none⟩=some (V Z rt.kind)/\w'.cell? ⟨b,k*7+14+1,none⟩=some (V Z rt.base)/\w'.cell? ⟨b,k*7+14+2,none⟩=some (V Z rt.loc)/\w'.cell? ⟨b,k*7+14+3,none⟩=some (V Z rt.n)/\w'.cell? ⟨b,k*7+14+4,none⟩=some (V Z rt.wr)/\w'.cell? ⟨b,k*7+14+5,none⟩=some (V Z rt.rd)/\w'.cell? ⟨b,k*7+14+6,none⟩=some (V Z rt.top)))) (first | with_reducible exact hS _ hl2 | go_keep) (fail)
 rename_i hh
 clear hh
 have bx:=(hP.held (.cells #[V Z q0.kind,V Z q0.base,V Z q0.loc,V Z q0.n,V Z q0.wr,V Z q0.rd,V Z q0.top,V Z q1.kind,V Z q1.base,V Z q1.loc,V Z q1.n,V Z q1.wr,V Z q1.rd,V Z q1.top] 211)).drew
 replace hK:=(hK.trans (Keep.alloc (.cells #[V Z q0.kind,V Z q0.base,V Z q0.loc,V Z q0.n,V Z q0.wr,V Z q0.rd,V Z q0.top,V Z q1.kind,V Z q1.base,V Z q1.loc,V Z q1.n,V Z q1.wr,V Z q1.rd,V Z q1.top] 211) hP.lt hP.le)).drew
 replace hP:=(hP.alloc (.cells #[V Z q0.kind,V Z q0.base,V Z q0.loc,V Z q0.n,V Z q0.wr,V Z q0.rd,V Z q0.top,V Z q1.kind,V Z q1.base,V Z q1.loc,V Z q1.n,V Z q1.wr,V Z q1.rd,V Z q1.top] 211)).drew
 clear hS hl2 hl a0 a1 a2 a3 a4 a5 a6 e0 e1 e2 e3 e4 e5 e6 f0 f1 f2 f3 f4 f5 f6;have c_bx:=bx.cells;go_wp2_with fail
 refine (hbh.out _).mono ?_
 rintro e w' ⟨rfl,rfl⟩;go_wp2_with fail
 replace hO:=hOh.out;clear hOh c_bx bx
 refine tlast hO hK (reg_write_p B p S q0 me 0 _ hP hq ⟨hm0,hm1⟩) (fun _ h=>⟨rfl,h⟩) ?_
 clear hO hK hP;intro u S2 w3 hr hP hk hK hO
 have hf:=hO.done hP hK
 clear hO hP hK hr hk;go_wp2_with fail
 first | exact hf | (refine bodyPost_ret (results_none rfl _ _ _) rfl ?_;exact hf)
set_option maxRecDepth 100000 in
theorem arbn_leave_p1 (B p:Nat)(S:TS)(q0 q1 rt:Reg)(side me:Int)(b c k:Nat)(rs:List Reg)(w:World)(h:Plays B w p S)(hl:RegsAt [2,3,4] w p b rs)(hi:rs[k]?=some q0/\rs[k+1]?=some q1/\rs[k+2]?=some rt)(hq:q1.ok)
  (hm0:0<=me)(hm1:me<q1.n)(hs:bitM side=1) :
  Calls Tryz.prog 237 #[.pointer (some ⟨p,0,none⟩),.slice (some ⟨b,k*7,none⟩) 3 c,V Z side,V Z me] w (Post encU B p w ((regW q1 me 0).run S)):=by
 generalize hR:Post encU B p w ((regW q1 me 0).run S)=R
 have hO:Owes R encU B p w ((regW q1 me 0).run S):=hR▸owes _ _ _ _ _
 clear hR;replace hi:=Hd hi
 have hK:=Keep.refl [2,3,4] B p w
 have hP:=h;clear h
 have hb:=abit_p side
 rw [hs] at hb;clear hs
 have hS:∀ w',RegsAt [2,3,4] w' p b rs->((w'.cell? ⟨b,k*7,none⟩=some (V Z q0.kind)/\w'.cell? ⟨b,k*7+1,none⟩=some (V Z q0.base)/\w'.cell? ⟨b,k*7+2,none⟩=some (V Z q0.loc)/\w'.cell? ⟨b,k*7+3,none⟩=some (V Z q0.n)/\w'.cell? ⟨b,k*7+4,none⟩=some (V Z q0.wr)/\w'.cell? ⟨b,k*7+5,none⟩=some (V Z q0.rd)/\w'.cell? ⟨b,k*7+6,none⟩=some (V Z q0.top))/\(w'.cell? ⟨b,k*7+7,none⟩=some (V Z q1.kind)/\w'.cell? ⟨b,k*7+7+1,none⟩=some (V Z q1.base)/\w'.cell? ⟨b,k*7+7+2,none⟩=some (V Z q1.loc)/\w'.cell? ⟨b,k*7+7+3,none⟩=some (V Z q1.n)/\w'.cell? ⟨b,k*7+7+4,none⟩=some (V Z q1.wr)/\w'.cell? ⟨b,k*7+7+5,none⟩=some (V Z q1.rd)/\w'.cell? ⟨b,k*7+7+6,none⟩=some (V Z q1.top))/\(w'.cell? ⟨b,k*7+14,none⟩=some (V Z rt.kind)/\w'.cell? ⟨b,k*7+14+1,none⟩=some (V Z rt.base)/\w'.cell? ⟨b,k*7+14+2,none⟩=some (V Z rt.loc)/\w'.cell? ⟨b,k*7+14+3,none⟩=some (V Z rt.n)/\w'.cell? ⟨b,k*7+14+4,none⟩=some (V Z rt.wr)/\w'.cell? ⟨b,k*7+14+5,none⟩=some (V Z rt.rd)/\w'.cell? ⟨b,k*7+14+6,none⟩=some (V Z rt.top))):=fun w' y=>by
  obtain⟨⟨a0,a1,a2,a3,a4,a5,a6⟩,⟨e0,e1,e2,e3,e4,e5,e6⟩,⟨f0,f1,f2,f3,f4,f5,f6⟩⟩:=y.node3 hi.out
  exact⟨⟨a0,a1,a2,a3,a4,a5,a6⟩,⟨e0,e1,e2,e3,e4,e5,e6⟩,⟨f0,f1,f2,f3,f4,f5,f6⟩⟩
 go_enter Tryz.func237,Tryz.ntmps237
 go_wp2_with fail
 have hOh:=Hd hO
 have hbh:=Hd hb
 clear hO hb
 have hl2:=hl.extL (Ext.refl w).drew hP.lt
 obtain⟨⟨a0,a1,a2,a3,a4,a5,a6⟩,⟨e0,e1,e2,e3,e4,e5,e6⟩,⟨f0,f1,f2,f3,f4,f5,f6⟩⟩:=hl.node3 hi.out
 go_region_held2 (fun w'=>((w'.cell? ⟨b,k*7,none⟩=some (V Z q0.kind)/\w'.cell? ⟨b,k*7+1,none⟩=some (V Z q0.base)/\w'.cell? ⟨b,k*7+2,none⟩=some (V Z q0.loc)/\w'.cell? ⟨b,k*7+3,none⟩=some (V Z q0.n)/\w'.cell? ⟨b,k*7+4,none⟩=some (V Z q0.wr)/\w'.cell? ⟨b,k*7+5,none⟩=some (V Z q0.rd)/\w'.cell? ⟨b,k*7+6,none⟩=some (V Z q0.top))/\(w'.cell? ⟨b,k*7+7,none⟩=some (V Z q1.kind)/\w'.cell? ⟨b,k*7+7+1,none⟩=some (V Z q1.base)/\w'.cell? ⟨b,k*7+7+2,none⟩=some (V Z q1.loc)/\w'.cell? ⟨b,k*7+7+3,none⟩=some (V Z q1.n)/\w'.cell? ⟨b,k*7+7+4,none⟩=some (V Z q1.wr)/\w'.cell? ⟨b,k*7+7+5,none⟩=some (V Z q1.rd)/\w'.cell? ⟨b,k*7+7+6,none⟩=some (V Z q1.top))/\(w'.cell? ⟨b,k*7+14,none⟩=some (V Z rt.kind)/\w'.cell? ⟨b,k*7+14+1,none⟩=some (V Z rt.base)/\w'.cell? ⟨b,k*7+14+2,none⟩=some (V Z rt.loc)/\w'.cell? ⟨b,k*7+14+3,none⟩=some (V Z rt.n)/\w'.cell? ⟨b,k*7+14+4,none⟩=some (V Z rt.wr)/\w'.cell? ⟨b,k*7+14+5,none⟩=some (V Z rt.rd)/\w'.cell? ⟨b,k*7+14+6,none⟩=some (V Z rt.top)))) (first | with_reducible exact hS _ hl2 | go_keep) (fail)
 rename_i hh
 clear hh
 have bx:=(hP.held (.cells #[V Z q0.kind,V Z q0.base,V Z q0.loc,V Z q0.n,V Z q0.wr,V Z q0.rd,V Z q0.top,V Z q1.kind,V Z q1.base,V Z q1.loc,V Z q1.n,V Z q1.wr,V Z q1.rd,V Z q1.top] 211)).drew
 replace hK:=(hK.trans (Keep.alloc (.cells #[V Z q0.kind,V Z q0.base,V Z q0.loc,V Z q0.n,V Z q0.wr,V Z q0.rd,V Z q0.top,V Z q1.kind,V Z q1.base,V Z q1.loc,V Z q1.n,V Z q1.wr,V Z q1.rd,V Z q1.top] 211) hP.lt hP.le)).drew
 replace hP:=(hP.alloc (.cells #[V Z q0.kind,V Z q0.base,V Z q0.loc,V Z q0.n,V Z q0.wr,V Z q0.rd,V Z q0.top,V Z q1.kind,V Z q1.base,V Z q1.loc,V Z q1.n,V Z q1.wr,V Z q1.rd,V Z q1.top] 211)).drew
 clear hS hl2 hl a0 a1 a2 a3 a4 a5 a6 e0 e1 e2 e3 e4 e5 e6 f0 f1 f2 f3 f4 f5 f6;have c_bx:=bx.cells;go_wp2_with fail
 refine (hbh.out _).mono ?_
 rintro e w' ⟨rfl,rfl⟩;go_wp2_with fail
 replace hO:=hOh.out;clear hOh c_bx bx
 refine tlast hO hK (reg_write_p B p S q1 me 0 _ hP hq ⟨hm0,hm1⟩) (fun _ h=>⟨rfl,h⟩) ?_
 clear hO hK hP;intro u S2 w3 hr hP hk hK hO
 have hf:=hO.done hP hK
 clear hO hP hK hr hk;go_wp2_with fail
 first | exact hf | (refine bodyPost_ret (results_none rfl _ _ _) rfl ?_;exact hf)
theorem arbn_enter_p (B p N:Nat)(S:TS)(q0 q1 rt:Reg)(side me:Int)(b c k:Nat)(rs:List Reg)(w:World)(h:Plays B w p S)(hl:RegsAt [2,3,4] w p b rs)(hi:rs[k]?=some q0/\rs[k+1]?=some q1/\rs[k+2]?=some rt)(hq0:q0.ok)(hq1:q1.ok)(hrt:rt.ok)
  (hm0:0<=me)(hm1:me<q0.n)(hm2:me<q1.n)(hm3:me<rt.n)(ht0:q0.told me)(ht1:q1.told me)(hN:S.left<N) :
  Calls Tryz.prog 236 #[.pointer (some ⟨p,0,none⟩),.slice (some ⟨b,k*7,none⟩) 3 c,V Z side,V Z me] w (Post encU B p w ((arbM N q0 q1 rt side me).run S)):=by
 unfold arbM
 rcases bitM_or side with hs | hs
 · rw [if_neg (by omega)]
   exact arbn_enter_p0 B p N S q0 q1 rt side me b c k rs w h hl hi hq0 hq1 hrt hm0 hm1 hm2 hm3 ht1 hN hs
 · rw [if_pos hs]
   exact arbn_enter_p1 B p N S q0 q1 rt side me b c k rs w h hl hi hq0 hq1 hrt hm0 hm1 hm2 hm3 ht0 hN hs
theorem arbn_leave_p (B p:Nat)(S:TS)(q0 q1 rt:Reg)(side me:Int)(b c k:Nat)(rs:List Reg)(w:World)(h:Plays B w p S)(hl:RegsAt [2,3,4] w p b rs)(hi:rs[k]?=some q0/\rs[k+1]?=some q1/\rs[k+2]?=some rt)(hq0:q0.ok)(hq1:q1.ok)
  (hm0:0<=me)(hm1:me<q0.n)(hm2:me<q1.n) :
  Calls Tryz.prog 237 #[.pointer (some ⟨p,0,none⟩),.slice (some ⟨b,k*7,none⟩) 3 c,V Z side,V Z me] w (Post encU B p w ((kesL q0 q1 side me).run S)):=by
 unfold kesL
 rcases bitM_or side with hs | hs
 · rw [hs,if_neg (by omega)]
   exact arbn_leave_p0 B p S q0 q1 rt side me b c k rs w h hl hi hq0 hm0 hm1 hs
 · rw [hs,if_pos rfl]
   exact arbn_leave_p1 B p S q0 q1 rt side me b c k rs w h hl hi hq1 hm0 hm2 hs
theorem RegsAt.node4r {ix:List Nat}{p b k:Nat}{w:World}{rs:List Reg}{x y z u:Reg}(h:RegsAt ix w p b rs)(hi:rs[k]?=some x/\rs[k+1]?=some y/\rs[k+2]?=some z/\rs[k+3]?=some u) :
  RegCells w b (k*7) x/\RegCells w b (k*7+7) y/\RegCells w b (k*7+14) z/\RegCells w b (k*7+21) u:=by
 have h1:=h.nth hi.2.1
 have h2:=h.nth hi.2.2.1
 have h3:=h.nth hi.2.2.2
 rw [show (k+1)*7=k*7+7 from by omega] at h1
 rw [show (k+2)*7=k*7+14 from by omega] at h2
 rw [show (k+3)*7=k*7+21 from by omega] at h3
 exact⟨h.nth hi.1,h1,h2,h3⟩
theorem RegsAt.node4 {ix:List Nat}{p b k:Nat}{w:World}{rs:List Reg}{x y z u:Reg}(h:RegsAt ix w p b rs)(hi:rs[k]?=some x/\rs[k+1]?=some y/\rs[k+2]?=some z/\rs[k+3]?=some u) :
  RegCells w b (k*7) x/\RegCells w b (k*7+7) y/\RegCells w b (k*7+14) z/\RegCells w b (k*7+14+7) u:=by
 obtain⟨h0,h1,h2,h3⟩:=h.node4r hi
 rw [show k*7+21=k*7+14+7 from by omega] at h3
 exact⟨h0,h1,h2,h3⟩
set_option maxRecDepth 100000 in
set_option maxHeartbeats 1000000 in
theorem kesn_enter_p0 (B p N:Nat)(S:TS)(q0 q1 r0 r1:Reg)(side me:Int)(b c k:Nat)(rs:List Reg)(w:World)(h:Plays B w p S)(hl:RegsAt [2,3,4] w p b rs)(hi:rs[k]?=some q0/\rs[k+1]?=some q1/\rs[k+2]?=some r0/\rs[k+3]?=some r1)(hq0:q0.ok)(hq1:q1.ok)(hr0:r0.ok)(hr1:r1.ok)
  (hm0:0<=me)(hm1:me<q0.n)(hm2:me<q1.n)(hm3:me<r0.n)(hm4:me<r1.n)(ht1:q1.told me)(_ht2:r1.told me)(hN:S.left<N)(hs:bitM side=0)(hc4:4<=c)(hc5:c<=9223372036854775807) :
  Calls Tryz.prog 233 #[.pointer (some ⟨p,0,none⟩),.slice (some ⟨b,k*7,none⟩) 4 c,V Z side,V Z me] w (Post encU B p w ((kesEnter N q0 q1 r0 r1 0 me).run S)):=by
 generalize hR:Post encU B p w ((kesEnter N q0 q1 r0 r1 0 me).run S)=R
 have hO:Owes R encU B p w ((kesEnter N q0 q1 r0 r1 0 me).run S):=hR▸owes _ _ _ _ _
 clear hR;replace hi:=Hd hi
 have hmf:∀ (fn:Fn) (first cap:Array Value) (w:World),(Instr.makeFunc fn first cap).run Tryz.prog w=.ok (.func fn first cap) w:=fun _ _ _ _=>rfl
 have hK:=Keep.refl [2,3,4] B p w
 have hP:=h;clear h;unfold kesEnter at hO
 obtain⟨⟨a0,a1,a2,a3,a4,a5,a6⟩,⟨e0,e1,e2,e3,e4,e5,e6⟩,⟨f0,f1,f2,f3,f4,f5,f6⟩,⟨g0,g1,g2,g3,g4,g5,g6⟩⟩:=hl.node4 hi.out
 have hc6:(2:Int)<=(c:Int):=by omega
 have hc7:(4:Int)<=(c:Int):=by omega
 have hb:=kbit_p side w
 rw [hs] at hb;clear hs
 go_enter Tryz.func233,Tryz.ntmps233
 go_wp2_with fail
 refine hb.mono ?_
 rintro e w' ⟨rfl,rfl⟩;clear hb;go_wp2_with fail
 go_quiet (fail)
 have hx:=(Ext.refl w).drewN nq
 replace hl:=hl.extL hx hP.lt;replace hK:=hK.trans (Keep.of_ext hx hP.lt hP.le);replace hP:=hP.ext hx;clear a0 a1 a2 a3 a4 a5 a6 e0 e1 e2 e3 e4 e5 e6 f0 f1 f2 f3 f4 f5 f6 g0 g1 g2 g3 g4 g5 g6 hx
 generalize w.drewN nq=wz at *
 obtain⟨⟨a0,a1,a2,a3,a4,a5,a6⟩,⟨e0,e1,e2,e3,e4,e5,e6⟩,⟨f0,f1,f2,f3,f4,f5,f6⟩,⟨g0,g1,g2,g3,g4,g5,g6⟩⟩:=hl.node4 hi.out
 go_wp2_with fail
 refine tstepL hO hK (reg_write_p B p S q0 me 1 _ hP hq0 ⟨hm0,by omega⟩) (fun _ h=>⟨rfl,h⟩) ?_
 clear hO hK hP;intro u S w1 hlf _ hP hk hK hO;replace hN:=Nat.lt_of_le_of_lt hlf hN;replace hl:=hl.keep hk;clear a0 a1 a2 a3 a4 a5 a6 e0 e1 e2 e3 e4 e5 e6 f0 f1 f2 f3 f4 f5 f6 g0 g1 g2 g3 g4 g5 g6 hk hlf
 obtain⟨⟨a0,a1,a2,a3,a4,a5,a6⟩,⟨e0,e1,e2,e3,e4,e5,e6⟩,⟨f0,f1,f2,f3,f4,f5,f6⟩,⟨g0,g1,g2,g3,g4,g5,g6⟩⟩:=hl.node4 hi.out
 go_wp2_with fail
 refine tstepL hO hK (reg_read_p B p S r1 me _ hP hr1 ⟨hm0,by omega⟩) (fun _ h=>⟨rfl,h⟩) ?_
 clear hO hK hP;intro x S w2 hlf _ hP hk hK hO;replace hN:=Nat.lt_of_le_of_lt hlf hN;replace hl:=hl.keep hk;clear a0 a1 a2 a3 a4 a5 a6 e0 e1 e2 e3 e4 e5 e6 f0 f1 f2 f3 f4 f5 f6 g0 g1 g2 g3 g4 g5 g6 hk hlf
 obtain⟨⟨a0,a1,a2,a3,a4,a5,a6⟩,⟨e0,e1,e2,e3,e4,e5,e6⟩,⟨f0,f1,f2,f3,f4,f5,f6⟩,⟨g0,g1,g2,g3,g4,g5,g6⟩⟩:=hl.node4 hi.out
 go_wp2_with fail
 have hbx:0<=bitM x/\bitM x<=1:=by unfold bitM;split <;> omega
 have hwx:=w64 (1-bitM x) (by omega) (by omega)
 refine (kbit_p x _).mono ?_
 rintro e w' ⟨rfl,rfl⟩;go_wp2_with fail
 have hPo:=hP
 have bT:=hP.held (.cells #[V Z (bitM x)] 3)
 replace hK:=hK.trans (Keep.alloc (.cells #[V Z (bitM x)] 3) hP.lt hP.le)
 replace hP:=hP.alloc (.cells #[V Z (bitM x)] 3)
 have c_bT:=bT.cells
 replace hl:=hl.extL ((Ext.refl _).alloc (.cells #[V Z (bitM x)] 3)) hPo.lt
 clear hPo;clear a0 a1 a2 a3 a4 a5 a6 e0 e1 e2 e3 e4 e5 e6 f0 f1 f2 f3 f4 f5 f6 g0 g1 g2 g3 g4 g5 g6
 rw [show kesT 0 x=(bitM x) from rfl] at hO
 replace hP:=hP.drew;replace hK:=hK.drew;replace bT:=bT.drew
 replace hl:=hl.extL (Ext.refl _).drew hP.lt
 have hS:∀ w',RegsAt [2,3,4] w' p b rs->HeldP w' p w2.heap.size (.cells #[V Z (bitM x)] 3)->(w'.cell? ⟨b,k*7+14,none⟩=some (V Z r0.kind)/\w'.cell? ⟨b,k*7+14+1,none⟩=some (V Z r0.base)/\w'.cell? ⟨b,k*7+14+2,none⟩=some (V Z r0.loc)/\w'.cell? ⟨b,k*7+14+3,none⟩=some (V Z r0.n)/\w'.cell? ⟨b,k*7+14+4,none⟩=some (V Z r0.wr)/\w'.cell? ⟨b,k*7+14+5,none⟩=some (V Z r0.rd)/\w'.cell? ⟨b,k*7+14+6,none⟩=some (V Z r0.top))/\(∀ i,w'.cell? ⟨w2.heap.size,i,none⟩=(#[V Z (bitM x)]:Array Value)[i]?):=fun w' h1 h2=>by
  obtain⟨y0,y1,y2,y3,y4,y5,y6⟩:=(h1.node4 hi.out).2.2.1
  exact⟨⟨y0,y1,y2,y3,y4,y5,y6⟩,h2.cells⟩
 go_region_held2 (fun w'=>(w'.cell? ⟨b,k*7+14,none⟩=some (V Z r0.kind)/\w'.cell? ⟨b,k*7+14+1,none⟩=some (V Z r0.base)/\w'.cell? ⟨b,k*7+14+2,none⟩=some (V Z r0.loc)/\w'.cell? ⟨b,k*7+14+3,none⟩=some (V Z r0.n)/\w'.cell? ⟨b,k*7+14+4,none⟩=some (V Z r0.wr)/\w'.cell? ⟨b,k*7+14+5,none⟩=some (V Z r0.rd)/\w'.cell? ⟨b,k*7+14+6,none⟩=some (V Z r0.top))/\(∀ i,w'.cell? ⟨w2.heap.size,i,none⟩=(#[V Z (bitM x)]:Array Value)[i]?)) (exact hS _ hl bT)
  (first
    | (go_at_call 229
       refine tstepL hO hK (reg_write_p B p S r0 me (bitM x) _ hP hr0 ⟨hm0,by omega⟩) (fun _ h=>⟨rfl,h⟩) ?_
       clear hO hK hP;intro u S w3 hlf _ hP hk hK hO;replace hN:=Nat.lt_of_le_of_lt hlf hN;replace hl:=hl.keep hk;replace bT:=bT.keep hk
       clear hk hlf))
 rename_i hh
 clear hh c_bT
 generalize htx:(bitM x)=t at *
 go_wp2_with fail
 go_loopw [] (fun wr=>∃ (n:Nat) (S1:TS),Plays B wr p S1/\KeepP B p w wr/\HeldP wr p w2.heap.size (.cells #[V Z t] 3)/\RegsAt [2,3,4] wr p b rs/\Hid (Owes R encU B p w ((kesSpin q1 r1 0 t me n).run S1))/\S1.left<n) (fun wr=>leftW 1 3 wr p)
 case atStart=>exact⟨N,S,hP,hK,bT,hl,hO,hN⟩
 case round =>
  clear hS hP hK bT hl hO hN
  obtain⟨n,S1,hP,hK,bT,hl,hO,hN⟩:=hrel
  have hO:=hO.out
  have hlw:=Hd hP.left
  cases n with
  | zero=>omega
  | succ n =>
    unfold kesSpin at hO
    obtain⟨⟨a0,a1,a2,a3,a4,a5,a6⟩,⟨e0,e1,e2,e3,e4,e5,e6⟩,⟨f0,f1,f2,f3,f4,f5,f6⟩,⟨g0,g1,g2,g3,g4,g5,g6⟩⟩:=hl.node4 hi.out
    go_wp2_with fail
    refine tstepL hO hK (reg_read_p B p S1 q1 me _ hP hq1 ⟨hm0,by omega⟩) (fun _ h=>⟨rfl,h⟩) ?_
    clear hO hK hP;intro v S2 w4 _ hlf hP hk hK hO
    replace hlf:=hlf (asks_regR _ _ ht1)
    replace hl:=hl.keep hk;replace bT:=bT.keep hk;clear a0 a1 a2 a3 a4 a5 a6 e0 e1 e2 e3 e4 e5 e6 f0 f1 f2 f3 f4 f5 f6 g0 g1 g2 g3 g4 g5 g6 hk
    by_cases hv:v=0
    · rw [if_pos hv] at hO
      subst hv
      have hf:R (.returned (encU ())) w4:=hO.done hP hK
      clear hO hP hK hl bT;go_wp2_with fail
      first | exact hf | (refine bodyPost_ret (results_none rfl _ _ _) rfl ?_;exact hf)
    · rw [if_neg hv] at hO
      have hv2:(v==0)=false:=by rw [beq_eq_false_iff_ne];exact hv
      obtain⟨⟨a0,a1,a2,a3,a4,a5,a6⟩,⟨e0,e1,e2,e3,e4,e5,e6⟩,⟨f0,f1,f2,f3,f4,f5,f6⟩,⟨g0,g1,g2,g3,g4,g5,g6⟩⟩:=hl.node4 hi.out
      clear hv;go_wp2_with fail
      refine tstepL hO hK (reg_read_p B p S2 r1 me _ hP hr1 ⟨hm0,by omega⟩) (fun _ h=>⟨rfl,h⟩) ?_
      clear hO hK hP;intro y S3 w5 hlf2 _ hP hk hK hO;replace hl:=hl.keep hk;replace bT:=bT.keep hk;clear a0 a1 a2 a3 a4 a5 a6 e0 e1 e2 e3 e4 e5 e6 f0 f1 f2 f3 f4 f5 f6 g0 g1 g2 g3 g4 g5 g6 hk;have c_bT:=bT.cells;go_wp2_with fail
      refine (kbit_p y _).mono ?_
      rintro e w' ⟨rfl,rfl⟩;go_wp2_with fail
      refine (kfree0_p (bitM y) t _ _ (c_bT 0)).mono ?_
      rintro e w' ⟨rfl,rfl⟩
      by_cases hy:kesFree 0 t y=true
      · rw [if_pos hy] at hO
        have hy2:(bitM y != t)=true:=by unfold kesFree at hy;simpa using hy
        have hf:R (.returned (encU ())) w5:=hO.done hP hK
        clear hO hP hK hl bT hy;go_wp2_with fail
        first | exact hf | (refine bodyPost_ret (results_none rfl _ _ _) rfl ?_;exact hf)
      · rw [if_neg hy] at hO
        have hy2:(bitM y != t)=false:=by unfold kesFree at hy;simpa using hy
        obtain⟨⟨a0,a1,a2,a3,a4,a5,a6⟩,⟨e0,e1,e2,e3,e4,e5,e6⟩,⟨f0,f1,f2,f3,f4,f5,f6⟩,⟨g0,g1,g2,g3,g4,g5,g6⟩⟩:=hl.node4 hi.out
        clear hy c_bT;go_wp2_with fail
        refine (cells_pm q1 me _ hq1 ht1 ⟨hm0,by omega⟩).mono ?_
        rintro e w6 ⟨cc,rfl,hcc,hx⟩
        replace hl:=hl.extL hx hP.lt;replace bT:=bT.ext hx hP.lt;replace hK:=hK.trans (Keep.of_ext hx hP.lt hP.le);replace hP:=hP.ext hx;clear a0 a1 a2 a3 a4 a5 a6 e0 e1 e2 e3 e4 e5 e6 f0 f1 f2 f3 f4 f5 f6 g0 g1 g2 g3 g4 g5 g6 hx
        have hlw2:=Hd hP.left
        have hOh:=Hd hO;clear hO;go_wp2_with fail
        refine⟨⟨n,S3,hP,hK,bT,hl,hOh,by omega⟩,?_⟩
        rw [hlw.out,hlw2.out]
        omega
set_option maxRecDepth 100000 in
set_option maxHeartbeats 1000000 in
theorem kesn_enter_p1 (B p N:Nat)(S:TS)(q0 q1 r0 r1:Reg)(side me:Int)(b c k:Nat)(rs:List Reg)(w:World)(h:Plays B w p S)(hl:RegsAt [2,3,4] w p b rs)(hi:rs[k]?=some q0/\rs[k+1]?=some q1/\rs[k+2]?=some r0/\rs[k+3]?=some r1)(hq0:q0.ok)(hq1:q1.ok)(hr0:r0.ok)(hr1:r1.ok)
  (hm0:0<=me)(hm1:me<q0.n)(hm2:me<q1.n)(hm3:me<r0.n)(hm4:me<r1.n)(ht1:q0.told me)(_ht2:r0.told me)(hN:S.left<N)(hs:bitM side=1)(hc4:4<=c)(hc5:c<=9223372036854775807) :
  Calls Tryz.prog 233 #[.pointer (some ⟨p,0,none⟩),.slice (some ⟨b,k*7,none⟩) 4 c,V Z side,V Z me] w (Post encU B p w ((kesEnter N q1 q0 r1 r0 1 me).run S)):=by
 generalize hR:Post encU B p w ((kesEnter N q1 q0 r1 r0 1 me).run S)=R
 have hO:Owes R encU B p w ((kesEnter N q1 q0 r1 r0 1 me).run S):=hR▸owes _ _ _ _ _
 clear hR;replace hi:=Hd hi
 have hmf:∀ (fn:Fn) (first cap:Array Value) (w:World),(Instr.makeFunc fn first cap).run Tryz.prog w=.ok (.func fn first cap) w:=fun _ _ _ _=>rfl
 have hK:=Keep.refl [2,3,4] B p w
 have hP:=h;clear h;unfold kesEnter at hO
 obtain⟨⟨a0,a1,a2,a3,a4,a5,a6⟩,⟨e0,e1,e2,e3,e4,e5,e6⟩,⟨f0,f1,f2,f3,f4,f5,f6⟩,⟨g0,g1,g2,g3,g4,g5,g6⟩⟩:=hl.node4 hi.out
 have hc6:(2:Int)<=(c:Int):=by omega
 have hc7:(4:Int)<=(c:Int):=by omega
 have hb:=kbit_p side w
 rw [hs] at hb;clear hs
 go_enter Tryz.func233,Tryz.ntmps233
 go_wp2_with fail
 refine hb.mono ?_
 rintro e w' ⟨rfl,rfl⟩;clear hb;go_wp2_with fail
 go_quiet (fail)
 have hx:=(Ext.refl w).drewN nq
 replace hl:=hl.extL hx hP.lt;replace hK:=hK.trans (Keep.of_ext hx hP.lt hP.le);replace hP:=hP.ext hx;clear a0 a1 a2 a3 a4 a5 a6 e0 e1 e2 e3 e4 e5 e6 f0 f1 f2 f3 f4 f5 f6 g0 g1 g2 g3 g4 g5 g6 hx
 generalize w.drewN nq=wz at *
 obtain⟨⟨a0,a1,a2,a3,a4,a5,a6⟩,⟨e0,e1,e2,e3,e4,e5,e6⟩,⟨f0,f1,f2,f3,f4,f5,f6⟩,⟨g0,g1,g2,g3,g4,g5,g6⟩⟩:=hl.node4 hi.out
 go_wp2_with fail
 refine tstepL hO hK (reg_write_p B p S q1 me 1 _ hP hq1 ⟨hm0,by omega⟩) (fun _ h=>⟨rfl,h⟩) ?_
 clear hO hK hP;intro u S w1 hlf _ hP hk hK hO;replace hN:=Nat.lt_of_le_of_lt hlf hN;replace hl:=hl.keep hk;clear a0 a1 a2 a3 a4 a5 a6 e0 e1 e2 e3 e4 e5 e6 f0 f1 f2 f3 f4 f5 f6 g0 g1 g2 g3 g4 g5 g6 hk hlf
 obtain⟨⟨a0,a1,a2,a3,a4,a5,a6⟩,⟨e0,e1,e2,e3,e4,e5,e6⟩,⟨f0,f1,f2,f3,f4,f5,f6⟩,⟨g0,g1,g2,g3,g4,g5,g6⟩⟩:=hl.node4 hi.out
 go_wp2_with fail
 refine tstepL hO hK (reg_read_p B p S r0 me _ hP hr0 ⟨hm0,by omega⟩) (fun _ h=>⟨rfl,h⟩) ?_
 clear hO hK hP;intro x S w2 hlf _ hP hk hK hO;replace hN:=Nat.lt_of_le_of_lt hlf hN;replace hl:=hl.keep hk;clear a0 a1 a2 a3 a4 a5 a6 e0 e1 e2 e3 e4 e5 e6 f0 f1 f2 f3 f4 f5 f6 g0 g1 g2 g3 g4 g5 g6 hk hlf
 obtain⟨⟨a0,a1,a2,a3,a4,a5,a6⟩,⟨e0,e1,e2,e3,e4,e5,e6⟩,⟨f0,f1,f2,f3,f4,f5,f6⟩,⟨g0,g1,g2,g3,g4,g5,g6⟩⟩:=hl.node4 hi.out
 go_wp2_with fail
 have hbx:0<=bitM x/\bitM x<=1:=by unfold bitM;split <;> omega
 have hwx:=w64 (1-bitM x) (by omega) (by omega)
 refine (kbit_p x _).mono ?_
 rintro e w' ⟨rfl,rfl⟩;go_wp2_with fail
 have hPo:=hP
 have bT:=hP.held (.cells #[V Z (1-bitM x)] 3)
 replace hK:=hK.trans (Keep.alloc (.cells #[V Z (1-bitM x)] 3) hP.lt hP.le)
 replace hP:=hP.alloc (.cells #[V Z (1-bitM x)] 3)
 have c_bT:=bT.cells
 replace hl:=hl.extL ((Ext.refl _).alloc (.cells #[V Z (1-bitM x)] 3)) hPo.lt
 clear hPo;clear a0 a1 a2 a3 a4 a5 a6 e0 e1 e2 e3 e4 e5 e6 f0 f1 f2 f3 f4 f5 f6 g0 g1 g2 g3 g4 g5 g6
 rw [show kesT 1 x=(1-bitM x) from rfl] at hO
 replace hP:=hP.drew;replace hK:=hK.drew;replace bT:=bT.drew
 replace hl:=hl.extL (Ext.refl _).drew hP.lt
 have hS:∀ w',RegsAt [2,3,4] w' p b rs->HeldP w' p w2.heap.size (.cells #[V Z (1-bitM x)] 3)->(w'.cell? ⟨b,k*7+14+7,none⟩=some (V Z r1.kind)/\w'.cell? ⟨b,k*7+14+7+1,none⟩=some (V Z r1.base)/\w'.cell? ⟨b,k*7+14+7+2,none⟩=some (V Z r1.loc)/\w'.cell? ⟨b,k*7+14+7+3,none⟩=some (V Z r1.n)/\w'.cell? ⟨b,k*7+14+7+4,none⟩=some (V Z r1.wr)/\w'.cell? ⟨b,k*7+14+7+5,none⟩=some (V Z r1.rd)/\w'.cell? ⟨b,k*7+14+7+6,none⟩=some (V Z r1.top))/\(∀ i,w'.cell? ⟨w2.heap.size,i,none⟩=(#[V Z (1-bitM x)]:Array Value)[i]?):=fun w' h1 h2=>by
  obtain⟨y0,y1,y2,y3,y4,y5,y6⟩:=(h1.node4 hi.out).2.2.2
  exact⟨⟨y0,y1,y2,y3,y4,y5,y6⟩,h2.cells⟩
 go_region_held2 (fun w'=>(w'.cell? ⟨b,k*7+14+7,none⟩=some (V Z r1.kind)/\w'.cell? ⟨b,k*7+14+7+1,none⟩=some (V Z r1.base)/\w'.cell? ⟨b,k*7+14+7+2,none⟩=some (V Z r1.loc)/\w'.cell? ⟨b,k*7+14+7+3,none⟩=some (V Z r1.n)/\w'.cell? ⟨b,k*7+14+7+4,none⟩=some (V Z r1.wr)/\w'.cell? ⟨b,k*7+14+7+5,none⟩=some (V Z r1.rd)/\w'.cell? ⟨b,k*7+14+7+6,none⟩=some (V Z r1.top))/\(∀ i,w'.cell? ⟨w2.heap.size,i,none⟩=(#[V Z (1-bitM x)]:Array Value)[i]?)) (exact hS _ hl bT)
  (first
    | (go_at_call 229
       refine tstepL hO hK (reg_write_p B p S r1 me (1-bitM x) _ hP hr1 ⟨hm0,by omega⟩) (fun _ h=>⟨rfl,h⟩) ?_
       clear hO hK hP;intro u S w3 hlf _ hP hk hK hO;replace hN:=Nat.lt_of_le_of_lt hlf hN;replace hl:=hl.keep hk;replace bT:=bT.keep hk
       clear hk hlf))
 rename_i hh
 clear hh c_bT
 generalize htx:(1-bitM x)=t at *
 go_wp2_with fail
 go_loopw [] (fun wr=>∃ (n:Nat) (S1:TS),Plays B wr p S1/\KeepP B p w wr/\HeldP wr p w2.heap.size (.cells #[V Z t] 3)/\RegsAt [2,3,4] wr p b rs/\Hid (Owes R encU B p w ((kesSpin q0 r0 1 t me n).run S1))/\S1.left<n) (fun wr=>leftW 1 3 wr p)
 case atStart=>exact⟨N,S,hP,hK,bT,hl,hO,hN⟩
 case round =>
  clear hS hP hK bT hl hO hN
  obtain⟨n,S1,hP,hK,bT,hl,hO,hN⟩:=hrel
  have hO:=hO.out
  have hlw:=Hd hP.left
  cases n with
  | zero=>omega
  | succ n =>
    unfold kesSpin at hO
    obtain⟨⟨a0,a1,a2,a3,a4,a5,a6⟩,⟨e0,e1,e2,e3,e4,e5,e6⟩,⟨f0,f1,f2,f3,f4,f5,f6⟩,⟨g0,g1,g2,g3,g4,g5,g6⟩⟩:=hl.node4 hi.out
    go_wp2_with fail
    refine tstepL hO hK (reg_read_p B p S1 q0 me _ hP hq0 ⟨hm0,by omega⟩) (fun _ h=>⟨rfl,h⟩) ?_
    clear hO hK hP;intro v S2 w4 _ hlf hP hk hK hO
    replace hlf:=hlf (asks_regR _ _ ht1)
    replace hl:=hl.keep hk;replace bT:=bT.keep hk;clear a0 a1 a2 a3 a4 a5 a6 e0 e1 e2 e3 e4 e5 e6 f0 f1 f2 f3 f4 f5 f6 g0 g1 g2 g3 g4 g5 g6 hk
    by_cases hv:v=0
    · rw [if_pos hv] at hO
      subst hv
      have hf:R (.returned (encU ())) w4:=hO.done hP hK
      clear hO hP hK hl bT;go_wp2_with fail
      first | exact hf | (refine bodyPost_ret (results_none rfl _ _ _) rfl ?_;exact hf)
    · rw [if_neg hv] at hO
      have hv2:(v==0)=false:=by rw [beq_eq_false_iff_ne];exact hv
      obtain⟨⟨a0,a1,a2,a3,a4,a5,a6⟩,⟨e0,e1,e2,e3,e4,e5,e6⟩,⟨f0,f1,f2,f3,f4,f5,f6⟩,⟨g0,g1,g2,g3,g4,g5,g6⟩⟩:=hl.node4 hi.out
      clear hv;go_wp2_with fail
      refine tstepL hO hK (reg_read_p B p S2 r0 me _ hP hr0 ⟨hm0,by omega⟩) (fun _ h=>⟨rfl,h⟩) ?_
      clear hO hK hP;intro y S3 w5 hlf2 _ hP hk hK hO;replace hl:=hl.keep hk;replace bT:=bT.keep hk;clear a0 a1 a2 a3 a4 a5 a6 e0 e1 e2 e3 e4 e5 e6 f0 f1 f2 f3 f4 f5 f6 g0 g1 g2 g3 g4 g5 g6 hk;have c_bT:=bT.cells;go_wp2_with fail
      refine (kbit_p y _).mono ?_
      rintro e w' ⟨rfl,rfl⟩;go_wp2_with fail
      refine (kfree1_p (bitM y) t _ _ (c_bT 0)).mono ?_
      rintro e w' ⟨rfl,rfl⟩
      by_cases hy:kesFree 1 t y=true
      · rw [if_pos hy] at hO
        have hy2:(bitM y==t)=true:=by unfold kesFree at hy;simpa using hy
        have hf:R (.returned (encU ())) w5:=hO.done hP hK
        clear hO hP hK hl bT hy;go_wp2_with fail
        first | exact hf | (refine bodyPost_ret (results_none rfl _ _ _) rfl ?_;exact hf)
      · rw [if_neg hy] at hO
        have hy2:(bitM y==t)=false:=by unfold kesFree at hy;simpa using hy
        obtain⟨⟨a0,a1,a2,a3,a4,a5,a6⟩,⟨e0,e1,e2,e3,e4,e5,e6⟩,⟨f0,f1,f2,f3,f4,f5,f6⟩,⟨g0,g1,g2,g3,g4,g5,g6⟩⟩:=hl.node4 hi.out
        clear hy c_bT;go_wp2_with fail
        refine (cells_pm q0 me _ hq0 ht1 ⟨hm0,by omega⟩).mono ?_
        rintro e w6 ⟨cc,rfl,hcc,hx⟩
        replace hl:=hl.extL hx hP.lt;replace bT:=bT.ext hx hP.lt;replace hK:=hK.trans (Keep.of_ext hx hP.lt hP.le);replace hP:=hP.ext hx;clear a0 a1 a2 a3 a4 a5 a6 e0 e1 e2 e3 e4 e5 e6 f0 f1 f2 f3 f4 f5 f6 g0 g1 g2 g3 g4 g5 g6 hx
        have hlw2:=Hd hP.left
        have hOh:=Hd hO;clear hO;go_wp2_with fail
        refine⟨⟨n,S3,hP,hK,bT,hl,hOh,by omega⟩,?_⟩
        rw [hlw.out,hlw2.out]
        omega
theorem kesn_leave_p (B p:Nat)(S:TS)(q0 q1 r0 r1:Reg)(side me:Int)(b c k:Nat)(rs:List Reg)(w:World)(h:Plays B w p S)(hl:RegsAt [2,3,4] w p b rs)(hi:rs[k]?=some q0/\rs[k+1]?=some q1/\rs[k+2]?=some r0/\rs[k+3]?=some r1)(hq0:q0.ok)(hq1:q1.ok)
  (hm0:0<=me)(hm1:me<q0.n)(hm2:me<q1.n) :
  Calls Tryz.prog 234 #[.pointer (some ⟨p,0,none⟩),.slice (some ⟨b,k*7,none⟩) 4 c,V Z side,V Z me] w (Post encU B p w ((regW (if bitM side=1 then q1 else q0) me 0).run S)):=by
 replace hi:=Hd hi
 have hb:=kbit_p' side w
 obtain⟨⟨a0,a1,a2,a3,a4,a5,a6⟩,⟨e0,e1,e2,e3,e4,e5,e6⟩,-,-⟩:=hl.node4 hi.out
 have hs:bitM side=0∨bitM side=1:=by unfold bitM;split <;> simp
 rcases hs with hs | hs
 · rw [hs] at hb ⊢
   rw [if_neg (by omega)]
   generalize hR:Post encU B p w ((regW q0 me 0).run S)=R
   have hO:Owes R encU B p w ((regW q0 me 0).run S):=hR▸owes _ _ _ _ _
   clear hR
   go_enter Tryz.func234,Tryz.ntmps234
   go_wp2_with fail
   refine hb.mono ?_
   rintro e w' ⟨rfl,rfl⟩;go_wp2_with fail
   clear a0 a1 a2 a3 a4 a5 a6 e0 e1 e2 e3 e4 e5 e6 hl hb
   refine tlast hO (Keep.refl _ _ _ _) (reg_write_p B p S q0 me 0 _ h hq0 ⟨hm0,hm1⟩) (fun _ h=>⟨rfl,h⟩) ?_
   intro v S1 w1 hr hP1 hk1 hK1 hO1
   have hf:=hO1.done hP1 hK1
   clear hO1 hP1 hK1 hr hk1 hO h;go_wp2_with fail
   first | exact hf | (refine bodyPost_ret (results_none rfl _ _ _) rfl ?_;exact hf)
 · rw [hs] at hb ⊢
   rw [if_pos rfl]
   generalize hR:Post encU B p w ((regW q1 me 0).run S)=R
   have hO:Owes R encU B p w ((regW q1 me 0).run S):=hR▸owes _ _ _ _ _
   clear hR
   go_enter Tryz.func234,Tryz.ntmps234
   go_wp2_with fail
   refine hb.mono ?_
   rintro e w' ⟨rfl,rfl⟩;go_wp2_with fail
   clear a0 a1 a2 a3 a4 a5 a6 e0 e1 e2 e3 e4 e5 e6 hl hb
   refine tlast hO (Keep.refl _ _ _ _) (reg_write_p B p S q1 me 0 _ h hq1 ⟨hm0,hm2⟩) (fun _ h=>⟨rfl,h⟩) ?_
   intro v S1 w1 hr hP1 hk1 hK1 hO1
   have hf:=hO1.done hP1 hK1
   clear hO1 hP1 hK1 hr hk1 hO h;go_wp2_with fail
   first | exact hf | (refine bodyPost_ret (results_none rfl _ _ _) rfl ?_;exact hf)
set_option maxRecDepth 100000 in
set_option maxHeartbeats 1000000 in
theorem kesn_zero_r (B p N:Nat)(o:Bool)(S:TS)(q0 q1 r0 r1:Reg)(me:Int)(b c k:Nat)(rs:List Reg)(w:World)(h:RAt B w p o S)(hl:RegsAt [3,4,5] w p b rs)(hi:rs[k]?=some q0/\rs[k+1]?=some q1/\rs[k+2]?=some r0/\rs[k+3]?=some r1)(hq0:q0.ok)(hq1:q1.ok)(hr0:r0.ok)(hr1:r1.ok)
  (hm0:0<=me)(hm1:me<q0.n)(hm2:me<q1.n)(hm3:me<r0.n)(hm4:me<r1.n)(ht1:q1.told me)(_ht2:r1.told me)(hN:S.left<N) :
  Calls Tryz.prog 309 #[.pointer (some ⟨p,0,none⟩),.slice (some ⟨b,k*7,none⟩) 4 c,V Z me] w (RPost encU B p w (kesEnter N q0 q1 r0 r1 0 me) o S):=by
 generalize hR:RPost encU B p w (kesEnter N q0 q1 r0 r1 0 me) o S=R
 have hO:ROwes R encU B p w (kesEnter N q0 q1 r0 r1 0 me) o S:=hR▸rowes _ _ _ _ _ _ _
 clear hR;replace hi:=Hd hi
 have hK:=Keep.refl [3,4,5] B p w
 have hP:=h;clear h;unfold kesEnter at hO
 obtain⟨⟨a0,a1,a2,a3,a4,a5,a6⟩,⟨e0,e1,e2,e3,e4,e5,e6⟩,⟨f0,f1,f2,f3,f4,f5,f6⟩,⟨g0,g1,g2,g3,g4,g5,g6⟩⟩:=hl.node4r hi.out
 go_enter Tryz.func309,Tryz.ntmps309
 go_wp2_with fail
 refine rstepL hO hK (reg_write_r B p o S q0 me 1 _ hP hq0 ⟨hm0,by omega⟩) ?_
 clear hO hK hP;intro u o S w1 hlf _ hP hk hK hO;replace hN:=Nat.lt_of_le_of_lt hlf hN;replace hl:=hl.keep hk;clear a0 a1 a2 a3 a4 a5 a6 e0 e1 e2 e3 e4 e5 e6 f0 f1 f2 f3 f4 f5 f6 g0 g1 g2 g3 g4 g5 g6 hk hlf
 obtain⟨⟨a0,a1,a2,a3,a4,a5,a6⟩,⟨e0,e1,e2,e3,e4,e5,e6⟩,⟨f0,f1,f2,f3,f4,f5,f6⟩,⟨g0,g1,g2,g3,g4,g5,g6⟩⟩:=hl.node4r hi.out
 obtain⟨_,_,_,_,_,hcc⟩:=hP.cell
 cases o with
 | true =>
   have hf:R (.returned (encU ())) w1:=hO.over () hP hK
   clear hO hP hK hl;go_wp2_with fail
   first | exact hf | (refine bodyPost_ret (results_none rfl _ _ _) rfl ?_;exact hf)
 | false =>
   go_wp2_with fail
   clear hcc
   refine rstepL hO hK (reg_read_r B p false S r1 me _ hP hr1 ⟨hm0,by omega⟩) ?_
   clear hO hK hP;intro x o S w2 hlf _ hP hk hK hO;replace hN:=Nat.lt_of_le_of_lt hlf hN;replace hl:=hl.keep hk;clear a0 a1 a2 a3 a4 a5 a6 e0 e1 e2 e3 e4 e5 e6 f0 f1 f2 f3 f4 f5 f6 g0 g1 g2 g3 g4 g5 g6 hk hlf
   obtain⟨⟨a0,a1,a2,a3,a4,a5,a6⟩,⟨e0,e1,e2,e3,e4,e5,e6⟩,⟨f0,f1,f2,f3,f4,f5,f6⟩,⟨g0,g1,g2,g3,g4,g5,g6⟩⟩:=hl.node4r hi.out
   have hbx:0<=bitM x/\bitM x<=1:=by unfold bitM;split <;> omega
   have hwx:=w64 (1-bitM x) (by omega) (by omega)
   go_wp2_with fail
   refine (bit_r x _).mono ?_
   rintro e w' ⟨rfl,rfl⟩
   rw [show kesT 0 x=(bitM x) from rfl] at hO
   obtain⟨_,_,_,_,_,hcc⟩:=hP.cell
   generalize htx:(bitM x)=t at hO ⊢
   go_upto_if 28 with fail
   go_cut [6] (fun s6 wx=>s6=V Z t/\∃ o1 S1,RAt B wx p o1 S1/\KeepR B p w wx/\RegsAt [3,4,5] wx p b rs/\Hid (ROwes R encU B p w (kesSpin q1 r1 0 t me N) o1 S1)/\S1.left<N)
   case first =>
    clear hcc
    cases o with
    | true =>
      clear a0 a1 a2 a3 a4 a5 a6 e0 e1 e2 e3 e4 e5 e6 f0 f1 f2 f3 f4 f5 f6 g0 g1 g2 g3 g4 g5 g6;go_wp2_with fail
      go_meet
      exact⟨rfl,true,S,hP,hK,hl,hO.any _,hN⟩
    | false =>
      go_wp2_with fail
      refine rstepL hO hK (reg_write_r B p false S r0 me t _ hP hr0 ⟨hm0,by omega⟩) ?_
      clear hO hK hP;intro u o S3 w3 hlf _ hP hk hK hO;replace hl:=hl.keep hk;clear a0 a1 a2 a3 a4 a5 a6 e0 e1 e2 e3 e4 e5 e6 f0 f1 f2 f3 f4 f5 f6 g0 g1 g2 g3 g4 g5 g6 hk;go_wp2_with fail
      go_meet
      exact⟨rfl,o,S3,hP,hK,hl,hO,by omega⟩
   case rest =>
    clear a0 a1 a2 a3 a4 a5 a6 e0 e1 e2 e3 e4 e5 e6 f0 f1 f2 f3 f4 f5 f6 g0 g1 g2 g3 g4 g5 g6 hP hK hl hO hN hcc
    obtain⟨rfl,o1,S1,hP,hK,hl,hO,hN⟩:=hcut
    go_wp2_with fail
    go_loopw [] (fun wr=>∃ (n:Nat) (o2:Bool) (S2:TS),RAt B wr p o2 S2/\KeepR B p w wr/\RegsAt [3,4,5] wr p b rs/\Hid (ROwes R encU B p w (kesSpin q1 r1 0 t me n) o2 S2)/\(o2=false->S2.left<n)) (fun wr=>leftR wr p)
    case atStart=>exact⟨N,o1,S1,hP,hK,hl,hO,fun _=>hN⟩
    case round =>
     clear hP hK hl hO hN
     obtain⟨n,o2,S2,hP,hK,hl,hO,hN⟩:=hrel
     have hO:=hO.out
     have hlw:=Hd hP.leftR
     obtain⟨_,_,_,_,_,hcc⟩:=hP.cell
     cases o2 with
     | true =>
       have hf:R (.returned (encU ())) wr:=hO.over () hP hK
       clear hO hP hK hl hN;go_wp2_with fail
       first | exact hf | (refine bodyPost_ret (results_none rfl _ _ _) rfl ?_;exact hf)
     | false =>
       have hN:=hN rfl
       cases n with
       | zero=>omega
       | succ n =>
         unfold kesSpin at hO
         obtain⟨⟨a0,a1,a2,a3,a4,a5,a6⟩,⟨e0,e1,e2,e3,e4,e5,e6⟩,⟨f0,f1,f2,f3,f4,f5,f6⟩,⟨g0,g1,g2,g3,g4,g5,g6⟩⟩:=hl.node4r hi.out
         go_wp2_with fail
         clear hcc
         refine rstepL hO hK (reg_read_r B p false S2 q1 me _ hP hq1 ⟨hm0,by omega⟩) ?_
         clear hO hK hP;intro v o3 S3 w4 hlf hlt hP hk hK hO;replace hl:=hl.keep hk;clear a0 a1 a2 a3 a4 a5 a6 e0 e1 e2 e3 e4 e5 e6 f0 f1 f2 f3 f4 f5 f6 g0 g1 g2 g3 g4 g5 g6 hk
         obtain⟨_,_,_,_,_,hcc⟩:=hP.cell
         by_cases hv:v=0
         · rw [if_pos hv] at hO
           subst hv
           have hf:R (.returned (encU ())) w4:=hO.ret hP hK
           clear hO hP hK hl hcc;go_wp2_with fail
           first | exact hf | (refine bodyPost_ret (results_none rfl _ _ _) rfl ?_;exact hf)
         · rw [if_neg hv] at hO
           have hv2:(v==0)=false:=by rw [beq_eq_false_iff_ne];exact hv
           clear hv
           cases o3 with
           | true =>
             have hlw2:=Hd hP.leftR
             have hOh:=Hd hO;clear hO;go_wp2_with fail
             refine⟨⟨n,true,S3,hP,hK,hl,hOh.out.any _,fun h=>by cases h⟩,?_⟩
             rw [hlw.out,hlw2.out]
             simp
             omega
           | false =>
             replace hlt:=(hlt rfl).2 (asks_regR _ _ ht1)
             obtain⟨⟨a0,a1,a2,a3,a4,a5,a6⟩,⟨e0,e1,e2,e3,e4,e5,e6⟩,⟨f0,f1,f2,f3,f4,f5,f6⟩,⟨g0,g1,g2,g3,g4,g5,g6⟩⟩:=hl.node4r hi.out
             go_wp2_with fail
             clear hcc
             refine rstepL hO hK (reg_read_r B p false S3 r1 me _ hP hr1 ⟨hm0,by omega⟩) ?_
             clear hO hK hP;intro y o4 S4 w5 hlf4 _ hP hk hK hO;replace hl:=hl.keep hk;clear a0 a1 a2 a3 a4 a5 a6 e0 e1 e2 e3 e4 e5 e6 f0 f1 f2 f3 f4 f5 f6 g0 g1 g2 g3 g4 g5 g6 hk;go_wp2_with fail
             refine (bit_r y _).mono ?_
             rintro e w' ⟨rfl,rfl⟩
             by_cases hy:kesFree 0 t y=true
             · rw [if_pos hy] at hO
               have hy2:(bitM y != t)=true:=by unfold kesFree at hy;simpa using hy
               have hf:R (.returned (encU ())) w5:=hO.ret hP hK
               clear hO hP hK hl hy;go_wp2_with fail
               first | exact hf | (refine bodyPost_ret (results_none rfl _ _ _) rfl ?_;exact hf)
             · rw [if_neg hy] at hO
               have hy2:(bitM y != t)=false:=by unfold kesFree at hy;simpa using hy
               have hlw2:=Hd hP.leftR
               have hOh:=Hd hO;clear hO hy;go_wp2_with fail
               refine⟨⟨n,o4,S4,hP,hK,hl,hOh,fun _=>by omega⟩,?_⟩
               rw [hlw.out,hlw2.out]
               simp only [Bool.false_eq_true,if_false]
               split <;> omega
set_option maxRecDepth 100000 in
set_option maxHeartbeats 1000000 in
theorem kesn_one_r (B p N:Nat)(o:Bool)(S:TS)(q0 q1 r0 r1:Reg)(me:Int)(b c k:Nat)(rs:List Reg)(w:World)(h:RAt B w p o S)(hl:RegsAt [3,4,5] w p b rs)(hi:rs[k]?=some q0/\rs[k+1]?=some q1/\rs[k+2]?=some r0/\rs[k+3]?=some r1)(hq0:q0.ok)(hq1:q1.ok)(hr0:r0.ok)(hr1:r1.ok)
  (hm0:0<=me)(hm1:me<q0.n)(hm2:me<q1.n)(hm3:me<r0.n)(hm4:me<r1.n)(ht1:q0.told me)(_ht2:r0.told me)(hN:S.left<N) :
  Calls Tryz.prog 310 #[.pointer (some ⟨p,0,none⟩),.slice (some ⟨b,k*7,none⟩) 4 c,V Z me] w (RPost encU B p w (kesEnter N q1 q0 r1 r0 1 me) o S):=by
 generalize hR:RPost encU B p w (kesEnter N q1 q0 r1 r0 1 me) o S=R
 have hO:ROwes R encU B p w (kesEnter N q1 q0 r1 r0 1 me) o S:=hR▸rowes _ _ _ _ _ _ _
 clear hR;replace hi:=Hd hi
 have hK:=Keep.refl [3,4,5] B p w
 have hP:=h;clear h;unfold kesEnter at hO
 obtain⟨⟨a0,a1,a2,a3,a4,a5,a6⟩,⟨e0,e1,e2,e3,e4,e5,e6⟩,⟨f0,f1,f2,f3,f4,f5,f6⟩,⟨g0,g1,g2,g3,g4,g5,g6⟩⟩:=hl.node4r hi.out
 go_enter Tryz.func310,Tryz.ntmps310
 go_wp2_with fail
 refine rstepL hO hK (reg_write_r B p o S q1 me 1 _ hP hq1 ⟨hm0,by omega⟩) ?_
 clear hO hK hP;intro u o S w1 hlf _ hP hk hK hO;replace hN:=Nat.lt_of_le_of_lt hlf hN;replace hl:=hl.keep hk;clear a0 a1 a2 a3 a4 a5 a6 e0 e1 e2 e3 e4 e5 e6 f0 f1 f2 f3 f4 f5 f6 g0 g1 g2 g3 g4 g5 g6 hk hlf
 obtain⟨⟨a0,a1,a2,a3,a4,a5,a6⟩,⟨e0,e1,e2,e3,e4,e5,e6⟩,⟨f0,f1,f2,f3,f4,f5,f6⟩,⟨g0,g1,g2,g3,g4,g5,g6⟩⟩:=hl.node4r hi.out
 obtain⟨_,_,_,_,_,hcc⟩:=hP.cell
 cases o with
 | true =>
   have hf:R (.returned (encU ())) w1:=hO.over () hP hK
   clear hO hP hK hl;go_wp2_with fail
   first | exact hf | (refine bodyPost_ret (results_none rfl _ _ _) rfl ?_;exact hf)
 | false =>
   go_wp2_with fail
   clear hcc
   refine rstepL hO hK (reg_read_r B p false S r0 me _ hP hr0 ⟨hm0,by omega⟩) ?_
   clear hO hK hP;intro x o S w2 hlf _ hP hk hK hO;replace hN:=Nat.lt_of_le_of_lt hlf hN;replace hl:=hl.keep hk;clear a0 a1 a2 a3 a4 a5 a6 e0 e1 e2 e3 e4 e5 e6 f0 f1 f2 f3 f4 f5 f6 g0 g1 g2 g3 g4 g5 g6 hk hlf
   obtain⟨⟨a0,a1,a2,a3,a4,a5,a6⟩,⟨e0,e1,e2,e3,e4,e5,e6⟩,⟨f0,f1,f2,f3,f4,f5,f6⟩,⟨g0,g1,g2,g3,g4,g5,g6⟩⟩:=hl.node4r hi.out
   have hbx:0<=bitM x/\bitM x<=1:=by unfold bitM;split <;> omega
   have hwx:=w64 (1-bitM x) (by omega) (by omega)
   go_wp2_with fail
   refine (bit_r x _).mono ?_
   rintro e w' ⟨rfl,rfl⟩
   rw [show kesT 1 x=(1-bitM x) from rfl] at hO
   obtain⟨_,_,_,_,_,hcc⟩:=hP.cell
   generalize htx:(1-bitM x)=t at hO ⊢
   go_upto_if 29 with fail
   go_cut [6] (fun s6 wx=>s6=V Z t/\∃ o1 S1,RAt B wx p o1 S1/\KeepR B p w wx/\RegsAt [3,4,5] wx p b rs/\Hid (ROwes R encU B p w (kesSpin q0 r0 1 t me N) o1 S1)/\S1.left<N)
   case first =>
    clear hcc
    cases o with
    | true =>
      clear a0 a1 a2 a3 a4 a5 a6 e0 e1 e2 e3 e4 e5 e6 f0 f1 f2 f3 f4 f5 f6 g0 g1 g2 g3 g4 g5 g6;go_wp2_with fail
      go_meet
      exact⟨rfl,true,S,hP,hK,hl,hO.any _,hN⟩
    | false =>
      go_wp2_with fail
      refine rstepL hO hK (reg_write_r B p false S r1 me t _ hP hr1 ⟨hm0,by omega⟩) ?_
      clear hO hK hP;intro u o S3 w3 hlf _ hP hk hK hO;replace hl:=hl.keep hk;clear a0 a1 a2 a3 a4 a5 a6 e0 e1 e2 e3 e4 e5 e6 f0 f1 f2 f3 f4 f5 f6 g0 g1 g2 g3 g4 g5 g6 hk;go_wp2_with fail
      go_meet
      exact⟨rfl,o,S3,hP,hK,hl,hO,by omega⟩
   case rest =>
    clear a0 a1 a2 a3 a4 a5 a6 e0 e1 e2 e3 e4 e5 e6 f0 f1 f2 f3 f4 f5 f6 g0 g1 g2 g3 g4 g5 g6 hP hK hl hO hN hcc
    obtain⟨rfl,o1,S1,hP,hK,hl,hO,hN⟩:=hcut
    go_wp2_with fail
    go_loopw [] (fun wr=>∃ (n:Nat) (o2:Bool) (S2:TS),RAt B wr p o2 S2/\KeepR B p w wr/\RegsAt [3,4,5] wr p b rs/\Hid (ROwes R encU B p w (kesSpin q0 r0 1 t me n) o2 S2)/\(o2=false->S2.left<n)) (fun wr=>leftR wr p)
    case atStart=>exact⟨N,o1,S1,hP,hK,hl,hO,fun _=>hN⟩
    case round =>
     clear hP hK hl hO hN
     obtain⟨n,o2,S2,hP,hK,hl,hO,hN⟩:=hrel
     have hO:=hO.out
     have hlw:=Hd hP.leftR
     obtain⟨_,_,_,_,_,hcc⟩:=hP.cell
     cases o2 with
     | true =>
       have hf:R (.returned (encU ())) wr:=hO.over () hP hK
       clear hO hP hK hl hN;go_wp2_with fail
       first | exact hf | (refine bodyPost_ret (results_none rfl _ _ _) rfl ?_;exact hf)
     | false =>
       have hN:=hN rfl
       cases n with
       | zero=>omega
       | succ n =>
         unfold kesSpin at hO
         obtain⟨⟨a0,a1,a2,a3,a4,a5,a6⟩,⟨e0,e1,e2,e3,e4,e5,e6⟩,⟨f0,f1,f2,f3,f4,f5,f6⟩,⟨g0,g1,g2,g3,g4,g5,g6⟩⟩:=hl.node4r hi.out
         go_wp2_with fail
         clear hcc
         refine rstepL hO hK (reg_read_r B p false S2 q0 me _ hP hq0 ⟨hm0,by omega⟩) ?_
         clear hO hK hP;intro v o3 S3 w4 hlf hlt hP hk hK hO;replace hl:=hl.keep hk;clear a0 a1 a2 a3 a4 a5 a6 e0 e1 e2 e3 e4 e5 e6 f0 f1 f2 f3 f4 f5 f6 g0 g1 g2 g3 g4 g5 g6 hk
         obtain⟨_,_,_,_,_,hcc⟩:=hP.cell
         by_cases hv:v=0
         · rw [if_pos hv] at hO
           subst hv
           have hf:R (.returned (encU ())) w4:=hO.ret hP hK
           clear hO hP hK hl hcc;go_wp2_with fail
           first | exact hf | (refine bodyPost_ret (results_none rfl _ _ _) rfl ?_;exact hf)
         · rw [if_neg hv] at hO
           have hv2:(v==0)=false:=by rw [beq_eq_false_iff_ne];exact hv
           clear hv
           cases o3 with
           | true =>
             have hlw2:=Hd hP.leftR
             have hOh:=Hd hO;clear hO;go_wp2_with fail
             refine⟨⟨n,true,S3,hP,hK,hl,hOh.out.any _,fun h=>by cases h⟩,?_⟩
             rw [hlw.out,hlw2.out]
             simp
             omega
           | false =>
             replace hlt:=(hlt rfl).2 (asks_regR _ _ ht1)
             obtain⟨⟨a0,a1,a2,a3,a4,a5,a6⟩,⟨e0,e1,e2,e3,e4,e5,e6⟩,⟨f0,f1,f2,f3,f4,f5,f6⟩,⟨g0,g1,g2,g3,g4,g5,g6⟩⟩:=hl.node4r hi.out
             go_wp2_with fail
             clear hcc
             refine rstepL hO hK (reg_read_r B p false S3 r0 me _ hP hr0 ⟨hm0,by omega⟩) ?_
             clear hO hK hP;intro y o4 S4 w5 hlf4 _ hP hk hK hO;replace hl:=hl.keep hk;clear a0 a1 a2 a3 a4 a5 a6 e0 e1 e2 e3 e4 e5 e6 f0 f1 f2 f3 f4 f5 f6 g0 g1 g2 g3 g4 g5 g6 hk;go_wp2_with fail
             refine (bit_r y _).mono ?_
             rintro e w' ⟨rfl,rfl⟩
             by_cases hy:kesFree 1 t y=true
             · rw [if_pos hy] at hO
               have hy2:(bitM y==t)=true:=by unfold kesFree at hy;simpa using hy
               have hf:R (.returned (encU ())) w5:=hO.ret hP hK
               clear hO hP hK hl hy;go_wp2_with fail
               first | exact hf | (refine bodyPost_ret (results_none rfl _ _ _) rfl ?_;exact hf)
             · rw [if_neg hy] at hO
               have hy2:(bitM y==t)=false:=by unfold kesFree at hy;simpa using hy
               have hlw2:=Hd hP.leftR
               have hOh:=Hd hO;clear hO hy;go_wp2_with fail
               refine⟨⟨n,o4,S4,hP,hK,hl,hOh,fun _=>by omega⟩,?_⟩
               rw [hlw.out,hlw2.out]
               simp only [Bool.false_eq_true,if_false]
               split <;> omega
theorem kesn_enter_p (B p N:Nat)(S:TS)(q0 q1 r0 r1:Reg)(side me:Int)(b c k:Nat)(rs:List Reg)(w:World)(h:Plays B w p S)(hl:RegsAt [2,3,4] w p b rs)(hi:rs[k]?=some q0/\rs[k+1]?=some q1/\rs[k+2]?=some r0/\rs[k+3]?=some r1)(hq0:q0.ok)(hq1:q1.ok)(hr0:r0.ok)(hr1:r1.ok)
  (hm0:0<=me)(hm1:me<q0.n)(hm2:me<q1.n)(hm3:me<r0.n)(hm4:me<r1.n)(ht1:q0.told me)(ht2:q1.told me)(ht3:r0.told me)(ht4:r1.told me)(hN:S.left<N)(hc4:4<=c)(hc5:c<=9223372036854775807) :
  Calls Tryz.prog 233 #[.pointer (some ⟨p,0,none⟩),.slice (some ⟨b,k*7,none⟩) 4 c,V Z side,V Z me] w (Post encU B p w ((kesM N q0 q1 r0 r1 side me).run S)):=by
 unfold kesM
 rcases bitM_or side with hs | hs
 · rw [if_neg (by omega)]
   exact kesn_enter_p0 B p N S q0 q1 r0 r1 side me b c k rs w h hl hi hq0 hq1 hr0 hr1 hm0 hm1 hm2 hm3 hm4 ht2 ht4 hN hs hc4 hc5
 · rw [if_pos hs]
   exact kesn_enter_p1 B p N S q0 q1 r0 r1 side me b c k rs w h hl hi hq0 hq1 hr0 hr1 hm0 hm1 hm2 hm3 hm4 ht1 ht3 hN hs hc4 hc5
theorem kesn_enter_r (B p N:Nat)(o:Bool)(S:TS)(q0 q1 r0 r1:Reg)(side me:Int)(b c k:Nat)(rs:List Reg)(w:World)(h:RAt B w p o S)(hl:RegsAt [3,4,5] w p b rs)(hi:rs[k]?=some q0/\rs[k+1]?=some q1/\rs[k+2]?=some r0/\rs[k+3]?=some r1)(hq0:q0.ok)(hq1:q1.ok)(hr0:r0.ok)(hr1:r1.ok)
  (hm0:0<=me)(hm1:me<q0.n)(hm2:me<q1.n)(hm3:me<r0.n)(hm4:me<r1.n)(ht1:q0.told me)(ht2:q1.told me)(ht3:r0.told me)(ht4:r1.told me)(hN:S.left<N) :
  Calls Tryz.prog 265 #[.pointer (some ⟨p,0,none⟩),.slice (some ⟨b,k*7,none⟩) 4 c,V Z side,V Z me] w (RPost encU B p w (kesM N q0 q1 r0 r1 side me) o S):=by
 unfold kesM
 by_cases hs:side=0
 · have hb:bitM side=0:=by unfold bitM;rw [if_pos hs]
   rw [if_neg (by omega)]
   have hz:=kesn_zero_r B p N o S q0 q1 r0 r1 me b c k rs w h hl hi hq0 hq1 hr0 hr1 hm0 hm1 hm2 hm3 hm4 ht2 ht4 hN
   generalize hR:RPost encU B p w (kesEnter N q0 q1 r0 r1 0 me) o S=R
   have hO:ROwes R encU B p w (kesEnter N q0 q1 r0 r1 0 me) o S:=hR▸rowes _ _ _ _ _ _ _
   clear hR;clear hb
   go_enter Tryz.func265,Tryz.ntmps265
   go_wp2_with fail
   refine hz.mono fun e w' hp=>?_
   have hf:=hO e w' hp
   obtain⟨a,o',S',rfl,_⟩:=hp
   clear hO hz h hl;go_wp2_with fail
   first | exact hf | (refine bodyPost_ret (results_none rfl _ _ _) rfl ?_;exact hf)
 · have hb:bitM side=1:=by unfold bitM;rw [if_neg hs]
   have hs2:(side==0)=false:=by rw [beq_eq_false_iff_ne];exact hs
   rw [if_pos hb]
   have hz:=kesn_one_r B p N o S q0 q1 r0 r1 me b c k rs w h hl hi hq0 hq1 hr0 hr1 hm0 hm1 hm2 hm3 hm4 ht1 ht3 hN
   generalize hR:RPost encU B p w (kesEnter N q1 q0 r1 r0 1 me) o S=R
   have hO:ROwes R encU B p w (kesEnter N q1 q0 r1 r0 1 me) o S:=hR▸rowes _ _ _ _ _ _ _
   clear hR;clear hb hs
   go_enter Tryz.func265,Tryz.ntmps265
   go_wp2_with fail
   refine hz.mono fun e w' hp=>?_
   have hf:=hO e w' hp
   obtain⟨a,o',S',rfl,_⟩:=hp
   clear hO hz h hl;go_wp2_with fail
   first | exact hf | (refine bodyPost_ret (results_none rfl _ _ _) rfl ?_;exact hf)
theorem kesn_leave_r (B p:Nat)(o:Bool)(S:TS)(q0 q1 r0 r1:Reg)(side me:Int)(b c k:Nat)(rs:List Reg)(w:World)(h:RAt B w p o S)(hl:RegsAt [3,4,5] w p b rs)(hi:rs[k]?=some q0/\rs[k+1]?=some q1/\rs[k+2]?=some r0/\rs[k+3]?=some r1)(hq0:q0.ok)(hq1:q1.ok)
  (hm0:0<=me)(hm1:me<q0.n)(hm2:me<q1.n) :
  Calls Tryz.prog 271 #[.pointer (some ⟨p,0,none⟩),.slice (some ⟨b,k*7,none⟩) 4 c,V Z side,V Z me] w (RPost encU B p w (kesL q0 q1 side me) o S):=by
 replace hi:=Hd hi
 have hb:=bit_r side w
 unfold kesL
 obtain⟨⟨a0,a1,a2,a3,a4,a5,a6⟩,⟨e0,e1,e2,e3,e4,e5,e6⟩,-,-⟩:=hl.node4r hi.out
 rcases bitM_or side with hs | hs
 · rw [hs] at hb ⊢
   rw [if_neg (by omega)]
   have hz:=reg_write_r B p o S q0 me 0 w h hq0 ⟨hm0,hm1⟩
   generalize hR:RPost encU B p w (regW q0 me 0) o S=R
   have hO:ROwes R encU B p w (regW q0 me 0) o S:=hR▸rowes _ _ _ _ _ _ _
   clear hR
   go_enter Tryz.func271,Tryz.ntmps271
   go_wp2_with fail
   refine hb.mono ?_
   rintro e w' ⟨rfl,rfl⟩;go_wp2_with fail
   clear a0 a1 a2 a3 a4 a5 a6 e0 e1 e2 e3 e4 e5 e6 hl hb
   refine hz.mono fun e w' hp=>?_
   have hf:=hO e w' hp
   obtain⟨a,o',S',rfl,_⟩:=hp
   clear hO hz h;go_wp2_with fail
   first | exact hf | (refine bodyPost_ret (results_none rfl _ _ _) rfl ?_;exact hf)
 · rw [hs] at hb ⊢
   rw [if_pos rfl]
   have hz:=reg_write_r B p o S q1 me 0 w h hq1 ⟨hm0,hm2⟩
   generalize hR:RPost encU B p w (regW q1 me 0) o S=R
   have hO:ROwes R encU B p w (regW q1 me 0) o S:=hR▸rowes _ _ _ _ _ _ _
   clear hR
   go_enter Tryz.func271,Tryz.ntmps271
   go_wp2_with fail
   refine hb.mono ?_
   rintro e w' ⟨rfl,rfl⟩;go_wp2_with fail
   clear a0 a1 a2 a3 a4 a5 a6 e0 e1 e2 e3 e4 e5 e6 hl hb
   refine hz.mono fun e w' hp=>?_
   have hf:=hO e w' hp
   obtain⟨a,o',S',rfl,_⟩:=hp
   clear hO hz h;go_wp2_with fail
   first | exact hf | (refine bodyPost_ret (results_none rfl _ _ _) rfl ?_;exact hf)
set_option maxRecDepth 100000 in
set_option maxHeartbeats 1000000 in
theorem darbn_enter_r0 (B p N:Nat)(o:Bool)(S:TS)(q0 q1 rt:Reg)(side me:Int)(b c k:Nat)(rs:List Reg)(w:World)(h:RAt B w p o S)(hl:RegsAt [3,4,5] w p b rs)(hi:rs[k]?=some q0/\rs[k+1]?=some q1/\rs[k+2]?=some rt)(hq0:q0.ok)(hq1:q1.ok)(hrt:rt.ok)
  (hm0:0<=me)(hm1:me<q0.n)(hm2:me<q1.n)(hm3:me<rt.n)(ht1:q1.told me)(hN:S.left<N)(hs:bitM side=0) :
  Calls Tryz.prog 266 #[.pointer (some ⟨p,0,none⟩),.slice (some ⟨b,k*7,none⟩) 3 c,V Z side,V Z me] w (RPost encU B p w (arbEnter N q0 q1 rt 0 me) o S):=by
 generalize hR:RPost encU B p w (arbEnter N q0 q1 rt 0 me) o S=R
 have hO:ROwes R encU B p w (arbEnter N q0 q1 rt 0 me) o S:=hR▸rowes _ _ _ _ _ _ _
 clear hR
 have hK:=Keep.refl [3,4,5] B p w
 have hP:=h;clear h;unfold arbEnter at hO;replace hi:=Hd hi
 have hb:=bit_r side w
 rw [hs] at hb;clear hs
 go_enter Tryz.func266,Tryz.ntmps266
 go_wp2_with fail
 refine hb.mono ?_
 rintro e w' ⟨rfl,rfl⟩;clear hb;have hOh:=Hd hO;clear hO
 obtain⟨a0,a1,a2,a3,a4,a5,a6⟩:=(hl.node3 hi.out).1
 go_wp2_with fail
 replace hO:=hOh.out;clear hOh a0 a1 a2 a3 a4 a5 a6
 refine rstepL hO hK (reg_write_r B p o S q0 me 1 _ hP hq0 ⟨hm0,by omega⟩) ?_
 clear hO hK hP;intro u o1 S1 w1 hlf _ hP hk hK hO;replace hN:=Nat.lt_of_le_of_lt hlf hN;replace hl:=hl.keep hk;clear hk hlf
 obtain⟨_,_,_,_,_,hcc⟩:=hP.cell
 cases o1 with
 | true =>
   have hf:R (.returned (encU ())) w1:=hO.over () hP hK
   have hPh:=Hd hP
   clear hO hP hK;go_wp2_with fail
   go_loopw [] (fun wr=>w1=wr) (fun _=>0)
   case atStart=>rfl
   case round =>
    subst hrel;go_wp2_with fail
    first | exact hf | (refine bodyPost_ret (results_none rfl _ _ _) rfl ?_;exact hf)
 | false =>
   have hOh:=Hd hO;clear hO
   obtain⟨a0,a1,a2,a3,a4,a5,a6⟩:=(hl.node3 hi.out).2.2
   go_wp2_with fail
   replace hO:=hOh.out;clear hOh a0 a1 a2 a3 a4 a5 a6 hcc
   refine rstepL hO hK (reg_write_r B p false S1 rt me 0 _ hP hrt ⟨hm0,by omega⟩) ?_
   clear hO hK hP;intro u o2 S2 w2 hlf _ hP hk hK hO;replace hN:=Nat.lt_of_le_of_lt hlf hN;replace hl:=hl.keep hk;clear hk hlf;have hOh:=Hd hO;clear hO;go_wp2_with fail
   go_loopw [] (fun wr=>∃ (n:Nat) (o3:Bool) (S3:TS),RAt B wr p o3 S3/\KeepR B p w wr/\RegsAt [3,4,5] wr p b rs/\Hid (ROwes R encU B p w (arbSpin q1 rt 0 me n) o3 S3)/\(o3=false->S3.left<n)) (fun wr=>leftR wr p)
   case atStart=>exact⟨N,o2,S2,hP,hK,hl,hOh,fun _=>hN⟩
   case round =>
    clear hP hK hl hOh hN
    obtain⟨n,o3,S3,hP,hK,hl,hO,hN⟩:=hrel
    replace hO:=hO.out
    have hlw:=Hd hP.leftR
    obtain⟨_,_,_,_,_,hcc⟩:=hP.cell
    cases o3 with
    | true =>
      have hf:R (.returned (encU ())) wr:=hO.over () hP hK
      clear hO hP hK hN;go_wp2_with fail
      first | exact hf | (refine bodyPost_ret (results_none rfl _ _ _) rfl ?_;exact hf)
    | false =>
      have hN:=hN rfl
      cases n with
      | zero=>omega
      | succ n =>
        rw [arbSpin_succ] at hO;have hOh:=Hd hO;clear hO
        obtain⟨a0,a1,a2,a3,a4,a5,a6⟩:=(hl.node3 hi.out).2.1
        go_wp2_with fail
        replace hO:=hOh.out;clear hOh hcc a0 a1 a2 a3 a4 a5 a6
        refine rstepL hO hK (reg_read_r B p false S3 q1 me _ hP hq1 ⟨hm0,by omega⟩) ?_
        clear hO hK hP;intro x o4 S4 w4 hlf hlt hP hk hK hO;replace hl:=hl.keep hk;clear hk
        by_cases hx:x=0
        · have dx:(x==0)=true:=by simpa using hx
          rw [if_pos hx] at hO
          have hf:R (.returned (encU ())) w4:=hO.ret hP hK
          clear hO hP hK hx;go_wp2_with fail
          first | exact hf | (refine bodyPost_ret (results_none rfl _ _ _) rfl ?_;exact hf)
        · have dx:(x==0)=false:=by simpa using hx
          rw [if_neg hx] at hO;clear hx
          obtain⟨_,_,_,_,_,hcc⟩:=hP.cell
          cases o4 with
          | true =>
            have hOh:=Hd (hO.any (arbSpin q1 rt 0 me n))
            have hlw2:=Hd hP.leftR
            clear hO;go_wp2_with fail
            refine⟨⟨n,true,S4,hP,hK,hl,hOh,nofun⟩,?_⟩
            rw [hlw.out,hlw2.out]
            simp
            omega
          | false =>
            have hlt:=(hlt rfl).2 (asks_regR _ _ ht1)
            have hOh:=Hd hO;clear hO
            obtain⟨a0,a1,a2,a3,a4,a5,a6⟩:=(hl.node3 hi.out).2.2
            go_wp2_with fail
            replace hO:=hOh.out;clear hOh hcc a0 a1 a2 a3 a4 a5 a6
            refine rstepL hO hK (reg_read_r B p false S4 rt me _ hP hrt ⟨hm0,by omega⟩) ?_
            clear hO hK hP;intro y o5 S5 w5 hlf2 _ hP hk hK hO;replace hl:=hl.keep hk;clear hk
            by_cases hy:y=0
            · have dy:(y != 0)=false:=by simpa using hy
              rw [if_pos hy] at hO;clear hy;have hOh:=Hd hO
              have hlw2:=Hd hP.leftR
              clear hO;go_wp2_with fail
              refine⟨⟨n,o5,S5,hP,hK,hl,hOh,fun _=>by omega⟩,?_⟩
              rw [hlw.out,hlw2.out]
              cases o5 <;> simp <;> omega
            · have dy:(y != 0)=true:=by simpa using hy
              rw [if_neg hy] at hO
              have hf:R (.returned (encU ())) w5:=hO.ret hP hK
              clear hO hP hK hy;go_wp2_with fail
              first | exact hf | (refine bodyPost_ret (results_none rfl _ _ _) rfl ?_;exact hf)
set_option maxRecDepth 100000 in
set_option maxHeartbeats 1000000 in
theorem darbn_enter_r1 (B p N:Nat)(o:Bool)(S:TS)(q0 q1 rt:Reg)(side me:Int)(b c k:Nat)(rs:List Reg)(w:World)(h:RAt B w p o S)(hl:RegsAt [3,4,5] w p b rs)(hi:rs[k]?=some q0/\rs[k+1]?=some q1/\rs[k+2]?=some rt)(hq0:q0.ok)(hq1:q1.ok)(hrt:rt.ok)
  (hm0:0<=me)(hm1:me<q0.n)(hm2:me<q1.n)(hm3:me<rt.n)(ht1:q0.told me)(hN:S.left<N)(hs:bitM side=1) :
  Calls Tryz.prog 266 #[.pointer (some ⟨p,0,none⟩),.slice (some ⟨b,k*7,none⟩) 3 c,V Z side,V Z me] w (RPost encU B p w (arbEnter N q1 q0 rt 1 me) o S):=by
 generalize hR:RPost encU B p w (arbEnter N q1 q0 rt 1 me) o S=R
 have hO:ROwes R encU B p w (arbEnter N q1 q0 rt 1 me) o S:=hR▸rowes _ _ _ _ _ _ _
 clear hR
 have hK:=Keep.refl [3,4,5] B p w
 have hP:=h;clear h;unfold arbEnter at hO;replace hi:=Hd hi
 have hb:=bit_r side w
 rw [hs] at hb;clear hs
 go_enter Tryz.func266,Tryz.ntmps266
 go_wp2_with fail
 refine hb.mono ?_
 rintro e w' ⟨rfl,rfl⟩;clear hb;have hOh:=Hd hO;clear hO
 obtain⟨a0,a1,a2,a3,a4,a5,a6⟩:=(hl.node3 hi.out).2.1
 go_wp2_with fail
 replace hO:=hOh.out;clear hOh a0 a1 a2 a3 a4 a5 a6
 refine rstepL hO hK (reg_write_r B p o S q1 me 1 _ hP hq1 ⟨hm0,by omega⟩) ?_
 clear hO hK hP;intro u o1 S1 w1 hlf _ hP hk hK hO;replace hN:=Nat.lt_of_le_of_lt hlf hN;replace hl:=hl.keep hk;clear hk hlf
 obtain⟨_,_,_,_,_,hcc⟩:=hP.cell
 cases o1 with
 | true =>
   have hf:R (.returned (encU ())) w1:=hO.over () hP hK
   have hPh:=Hd hP
   clear hO hP hK;go_wp2_with fail
   go_loopw [] (fun wr=>w1=wr) (fun _=>0)
   case atStart=>rfl
   case round =>
    subst hrel;go_wp2_with fail
    first | exact hf | (refine bodyPost_ret (results_none rfl _ _ _) rfl ?_;exact hf)
 | false =>
   have hOh:=Hd hO;clear hO
   obtain⟨a0,a1,a2,a3,a4,a5,a6⟩:=(hl.node3 hi.out).2.2
   go_wp2_with fail
   replace hO:=hOh.out;clear hOh a0 a1 a2 a3 a4 a5 a6 hcc
   refine rstepL hO hK (reg_write_r B p false S1 rt me 1 _ hP hrt ⟨hm0,by omega⟩) ?_
   clear hO hK hP;intro u o2 S2 w2 hlf _ hP hk hK hO;replace hN:=Nat.lt_of_le_of_lt hlf hN;replace hl:=hl.keep hk;clear hk hlf;have hOh:=Hd hO;clear hO;go_wp2_with fail
   go_loopw [] (fun wr=>∃ (n:Nat) (o3:Bool) (S3:TS),RAt B wr p o3 S3/\KeepR B p w wr/\RegsAt [3,4,5] wr p b rs/\Hid (ROwes R encU B p w (arbSpin q0 rt 1 me n) o3 S3)/\(o3=false->S3.left<n)) (fun wr=>leftR wr p)
   case atStart=>exact⟨N,o2,S2,hP,hK,hl,hOh,fun _=>hN⟩
   case round =>
    clear hP hK hl hOh hN
    obtain⟨n,o3,S3,hP,hK,hl,hO,hN⟩:=hrel
    replace hO:=hO.out
    have hlw:=Hd hP.leftR
    obtain⟨_,_,_,_,_,hcc⟩:=hP.cell
    cases o3 with
    | true =>
      have hf:R (.returned (encU ())) wr:=hO.over () hP hK
      clear hO hP hK hN;go_wp2_with fail
      first | exact hf | (refine bodyPost_ret (results_none rfl _ _ _) rfl ?_;exact hf)
    | false =>
      have hN:=hN rfl
      cases n with
      | zero=>omega
      | succ n =>
        rw [arbSpin_succ] at hO;have hOh:=Hd hO;clear hO
        obtain⟨a0,a1,a2,a3,a4,a5,a6⟩:=(hl.node3 hi.out).1
        go_wp2_with fail
        replace hO:=hOh.out;clear hOh hcc a0 a1 a2 a3 a4 a5 a6
        refine rstepL hO hK (reg_read_r B p false S3 q0 me _ hP hq0 ⟨hm0,by omega⟩) ?_
        clear hO hK hP;intro x o4 S4 w4 hlf hlt hP hk hK hO;replace hl:=hl.keep hk;clear hk
        by_cases hx:x=0
        · have dx:(x==0)=true:=by simpa using hx
          rw [if_pos hx] at hO
          have hf:R (.returned (encU ())) w4:=hO.ret hP hK
          clear hO hP hK hx;go_wp2_with fail
          first | exact hf | (refine bodyPost_ret (results_none rfl _ _ _) rfl ?_;exact hf)
        · have dx:(x==0)=false:=by simpa using hx
          rw [if_neg hx] at hO;clear hx
          obtain⟨_,_,_,_,_,hcc⟩:=hP.cell
          cases o4 with
          | true =>
            have hOh:=Hd (hO.any (arbSpin q0 rt 1 me n))
            have hlw2:=Hd hP.leftR
            clear hO;go_wp2_with fail
            refine⟨⟨n,true,S4,hP,hK,hl,hOh,nofun⟩,?_⟩
            rw [hlw.out,hlw2.out]
            simp
            omega
          | false =>
            have hlt:=(hlt rfl).2 (asks_regR _ _ ht1)
            have hOh:=Hd hO;clear hO
            obtain⟨a0,a1,a2,a3,a4,a5,a6⟩:=(hl.node3 hi.out).2.2
            go_wp2_with fail
            replace hO:=hOh.out;clear hOh hcc a0 a1 a2 a3 a4 a5 a6
            refine rstepL hO hK (reg_read_r B p false S4 rt me _ hP hrt ⟨hm0,by omega⟩) ?_
            clear hO hK hP;intro y o5 S5 w5 hlf2 _ hP hk hK hO;replace hl:=hl.keep hk;clear hk
            by_cases hy:y=1
            · have dy:(y != 1)=false:=by simpa using hy
              rw [if_pos hy] at hO;clear hy;have hOh:=Hd hO
              have hlw2:=Hd hP.leftR
              clear hO;go_wp2_with fail
              refine⟨⟨n,o5,S5,hP,hK,hl,hOh,fun _=>by omega⟩,?_⟩
              rw [hlw.out,hlw2.out]
              cases o5 <;> simp <;> omega
            · have dy:(y != 1)=true:=by simpa using hy
              rw [if_neg hy] at hO
              have hf:R (.returned (encU ())) w5:=hO.ret hP hK
              clear hO hP hK hy;go_wp2_with fail
              first | exact hf | (refine bodyPost_ret (results_none rfl _ _ _) rfl ?_;exact hf)
theorem darbn_enter_r (B p N:Nat)(o:Bool)(S:TS)(q0 q1 rt:Reg)(side me:Int)(b c k:Nat)(rs:List Reg)(w:World)(h:RAt B w p o S)(hl:RegsAt [3,4,5] w p b rs)(hi:rs[k]?=some q0/\rs[k+1]?=some q1/\rs[k+2]?=some rt)(hq0:q0.ok)(hq1:q1.ok)(hrt:rt.ok)
  (hm0:0<=me)(hm1:me<q0.n)(hm2:me<q1.n)(hm3:me<rt.n)(ht0:q0.told me)(ht1:q1.told me)(hN:S.left<N) :
  Calls Tryz.prog 266 #[.pointer (some ⟨p,0,none⟩),.slice (some ⟨b,k*7,none⟩) 3 c,V Z side,V Z me] w (RPost encU B p w (arbM N q0 q1 rt side me) o S):=by
 unfold arbM
 rcases bitM_or side with hs | hs
 · rw [if_neg (by omega)]
   exact darbn_enter_r0 B p N o S q0 q1 rt side me b c k rs w h hl hi hq0 hq1 hrt hm0 hm1 hm2 hm3 ht1 hN hs
 · rw [if_pos hs]
   exact darbn_enter_r1 B p N o S q0 q1 rt side me b c k rs w h hl hi hq0 hq1 hrt hm0 hm1 hm2 hm3 ht0 hN hs
theorem darbn_leave_r (B p:Nat)(o:Bool)(S:TS)(q0 q1 rt:Reg)(side me:Int)(b c k:Nat)(rs:List Reg)(w:World)(h:RAt B w p o S)(hl:RegsAt [3,4,5] w p b rs)(hi:rs[k]?=some q0/\rs[k+1]?=some q1/\rs[k+2]?=some rt)(hq0:q0.ok)(hq1:q1.ok)
  (hm0:0<=me)(hm1:me<q0.n)(hm2:me<q1.n) :
  Calls Tryz.prog 271 #[.pointer (some ⟨p,0,none⟩),.slice (some ⟨b,k*7,none⟩) 3 c,V Z side,V Z me] w (RPost encU B p w (kesL q0 q1 side me) o S):=by
 have hb:=bit_r side w
 unfold kesL
 replace hi:=Hd hi
 rcases bitM_or side with hs | hs
 · rw [hs] at hb ⊢
   rw [if_neg (by omega)]
   have hz:=reg_write_r B p o S q0 me 0 w h hq0 ⟨hm0,by omega⟩
   generalize hR:RPost encU B p w (regW q0 me 0) o S=R
   have hO:ROwes R encU B p w (regW q0 me 0) o S:=hR▸rowes _ _ _ _ _ _ _
   clear hR
   go_enter Tryz.func271,Tryz.ntmps271
   go_wp2_with fail
   refine hb.mono ?_
   rintro e w' ⟨rfl,rfl⟩
   obtain⟨a0,a1,a2,a3,a4,a5,a6⟩:=(hl.node3 hi.out).1
   go_wp2_with fail
   clear a0 a1 a2 a3 a4 a5 a6 hl hb
   refine hz.mono fun e w' hp=>?_
   have hf:=hO e w' hp
   obtain⟨a,o',S',rfl,_⟩:=hp
   clear hO hz h;go_wp2_with fail
   first | exact hf | (refine bodyPost_ret (results_none rfl _ _ _) rfl ?_;exact hf)
 · rw [hs] at hb ⊢
   rw [if_pos rfl]
   have hz:=reg_write_r B p o S q1 me 0 w h hq1 ⟨hm0,by omega⟩
   generalize hR:RPost encU B p w (regW q1 me 0) o S=R
   have hO:ROwes R encU B p w (regW q1 me 0) o S:=hR▸rowes _ _ _ _ _ _ _
   clear hR
   go_enter Tryz.func271,Tryz.ntmps271
   go_wp2_with fail
   refine hb.mono ?_
   rintro e w' ⟨rfl,rfl⟩
   obtain⟨a0,a1,a2,a3,a4,a5,a6⟩:=(hl.node3 hi.out).2.1
   go_wp2_with fail
   clear a0 a1 a2 a3 a4 a5 a6 hl hb
   refine hz.mono fun e w' hp=>?_
   have hf:=hO e w' hp
   obtain⟨a,o',S',rfl,_⟩:=hp
   clear hO hz h;go_wp2_with fail
   first | exact hf | (refine bodyPost_ret (results_none rfl _ _ _) rfl ?_;exact hf)
set_option maxRecDepth 100000 in
theorem append_all {ops:Array Oper}{rest:List Oper}{o:Oper}{a:Act}{Q:Exit->Act->World->Prop}{w:World}(hgd:o.guard=none)(s x:Operand)
  (ho:o.op=.call { callee:=.builtin .append,args:=#[s,x],argTypes:=#[25,25] })
  (ad:Addr)(c:Nat)(L:List Int)(hL:Ints w (.slice (some ad) L.length c) L)(hs:a.eval s=.slice (some ⟨w.heap.size,0,none⟩) 0 0)(hx:a.eval x=.slice (some ad) L.length c)
  (hlen:L.length<1000000)
  (h:∀ v' w',IntRow w' w.heap.size v' L->Ext w w'->wpList Tryz.prog ops Q rest (a.put o.dst v') w') :
  wpList Tryz.prog ops Q (o :: rest) a (w.alloc (.cells #[] 3)):=by
 obtain⟨i0,hi,hz0,hz1,hz2⟩:=info_parts info_int
 have hown:(w.alloc (.cells #[] 3)).ownsRow w.heap.size 3 1 (.slice (some ⟨w.heap.size,0,none⟩) 0 0) 0 [] :=
  ⟨rfl,.inr ⟨w.heap.size,0,#[],rfl,Nat.le_refl _,heap_alloc_new _ _,Nat.le_refl _,Nat.zero_le _,rfl,rfl⟩⟩
 refine wpList_append_own_at _ hgd s x 25 ho w.heap.size 3 i0 (V Z 0) 1 8 Tryz.underlying25 hi hz0 hz1 hz2 rfl (by decide) _ 0 [] hs hown ad L.length c (L.map (V Z)) hx (by simp) ?_ (by simp [Value.oneCell']) (by unfold maxLen;omega) (by omega) (by simp) fun v' w' h1 h2 _ _=>?_
 · intro j u hu
   obtain⟨A',c',he,_,_,h3⟩:=hL.ext ((Ext.refl w).alloc (.cells #[] 3))
   rw [List.getElem?_map] at hu
   cases hj:L[j]? with
   | none=>rw [hj] at hu;cases hu
   | some y =>
     rw [hj] at hu
     obtain⟨b,off,rfl,_,hc⟩:=h3 (fun e=>by rw [e] at hj;cases hj)
     injection he with e1 e2 e3
     injection e1 with e1
     subst e1
     rw [Addr.add_lit]
     rw [hc j y hj]
     simpa using hu
 · rw [List.nil_append,Nat.zero_add] at h1
   exact h v' w' h1 (Below.grown ((Ext.refl w).alloc (.cells #[] 3)) h2 (by simp) (fun k hk=>by simp [Value.ownBlock] at hk;omega))
set_option maxRecDepth 100000 in
theorem clone_x (a:Addr)(c:Nat)(L:List Int)(w:World)(h:Ints w (.slice (some a) L.length c) L)(hl:L.length<1000000) :
  Calls Tryz.prog 85 #[.slice (some a) L.length c] w fun e w'=>∃ v',e=.returned v'/\IntRow w' w.heap.size v' L/\Ext w w':=by
 have hcmp:∀ (n:Nat) (w:World),(binOp .eql 25 (.slice (some a) n c) (.slice none 0 0)).run Tryz.prog w=.ok (.bool false) w:=fun _ _=>rfl
 go_enter Tryz.func85,Tryz.ntmps85
 go_wp2_with (at_builtin;refine append_all rfl _ _ rfl a c L h rfl rfl hl ?_)
 intro v' w' h1 h2;go_wp2_with fail
 go_ret
 exact⟨v',rfl,h1,h2⟩
set_option maxRecDepth 100000 in
theorem clone_nil (c:Nat)(w:World):Calls Tryz.prog 85 #[.slice none 0 c] w fun e w'=>e=.returned (.slice none 0 0)/\w=w':=by
 have hcmp:∀ (n:Nat) (w:World),(binOp .eql 25 (.slice none n c) (.slice none 0 0)).run Tryz.prog w=.ok (.bool true) w:=fun _ _=>rfl
 go_enter Tryz.func85,Tryz.ntmps85
 go_wp2_with fail
 go_ret
 exact⟨rfl,rfl⟩
theorem clone_any (A:Option Addr)(c:Nat)(L:List Int)(w:World)(h:Ints w (.slice A L.length c) L)(hl:L.length<1000000) :
  Calls Tryz.prog 85 #[.slice A L.length c] w fun e w'=>∃ v',e=.returned v'/\IntRow w' w.heap.size v' L/\Ext w w':=by
 cases A with
 | some a=>exact clone_x a c L w h hl
 | none =>
   have hL:L=[]:=by
    obtain⟨A',c',he,_,_,h3⟩:=h
    by_cases e:L=[]
    · exact e
    · obtain⟨b,off,rfl,_⟩:=h3 e
      cases he
   subst hL
   refine (clone_nil c w).mono ?_
   rintro e w' ⟨rfl,rfl⟩
   exact⟨_,rfl,IntRow.nil _ _,Ext.refl _⟩
set_option maxRecDepth 100000 in
theorem tshort_p (A:Option Addr)(c:Nat)(L:List Int)(w:World)(h:Ints w (.slice A L.length c) L)(q1:L.length<=c)(_q2:c<=9223372036854775807)(_q3:L.length<1000000) :
  Calls Tryz.prog 87 #[.slice A L.length c] w fun e w'=>∃ v',e=.returned v'/\IntRow w' w.heap.size v' (shortL L)/\Ext w w':=by
 go_enter Tryz.func87,Tryz.ntmps87
 go_wp2_with fail
 go_loopw [3] (fun v wr=>∃ n:Nat,v=V Z n/\n<=L.length/\Hid (shortN L n=shortN L L.length)/\w=wr) (fun v _=>(intOf v).toNat)
 case atStart=>exact⟨L.length,rfl,by omega,rfl,rfl⟩
 case round =>
  obtain⟨n,rfl,hn,hs,rfl⟩:=hrel
  have hlen:∀ m,m<=L.length->(L.take m).length=m:=fun m hm=>by rw [List.length_take];omega
  cases n with
  | zero =>
    have hf:L.take 0=shortL L:=by unfold shortL;rw [<- hs.out];rfl
    have hT:=clone_any A c (L.take 0) w (by have:=h.take 0 (by omega);rw [hlen 0 (by omega)];exact this) (by simp)
    rw [hlen 0 (by omega),hf] at hT
    clear hs h hf hlen;go_wp2_with fail
    refine hT.mono ?_
    rintro e w1 ⟨v',rfl,h1,h2⟩
    go_wp2_with fail
    go_ret
    exact⟨v',rfl,h1,h2⟩
  | succ n =>
    obtain⟨b,off,rfl,hb,hcell⟩:=h.at_ (show n<L.length by omega)
    by_cases e:L.getD n 0=0
    · have hs2:Hid (shortN L n=shortN L L.length):=Hd (by rw [<- hs.out];show _=(if L.getD n 0=0 then shortN L n else n+1);rw [if_pos e])
      rw [e] at hcell;clear hs e h hlen;go_wp2_with fail
      exact⟨⟨n,rfl,by omega,hs2,by trivial⟩,by simp [intOf]⟩
    · have e3:=Hd (show shortN L L.length=n+1 from by rw [<- hs.out];show (if L.getD n 0=0 then shortN L n else n+1)=_;rw [if_neg e])
      have hf:L.take (n+1)=shortL L:=by unfold shortL;rw [e3.out]
      have hT:=clone_any (some ⟨b,off,none⟩) c (L.take (n+1)) w (by have:=h.take (n+1) (by omega);rw [hlen (n+1) (by omega)];exact this) (by rw [hlen (n+1) (by omega)];omega)
      rw [hlen (n+1) (by omega),hf] at hT
      have e2:(L.getD n 0==0)=false:=by rw [beq_eq_false_iff_ne];exact e
      generalize L.getD n 0=E at *
      clear hs e h hf hlen;go_wp2_with fail
      refine hT.mono ?_
      rintro e w1 ⟨v',rfl,h1,h2⟩
      go_wp2_with fail
      go_ret
      exact⟨v',rfl,h1,h2⟩
structure Near (W:World) (b n:Nat) (t:TypeId) (w:World):Prop where
 os:w.os=W.os
 tape:w.tape=W.tape
 output:w.output=W.output
 size:W.heap.size<=w.heap.size
 rest:∀ k,k<W.heap.size->k≠b->w.heap[k]?=W.heap[k]?
 blk:∃ cs,w.heap[b]?=some (.cells cs t (0,0))/\cs.size=n
section
variable {W w w':World} {b n:Nat} {t:TypeId}
theorem Near.new {cs:Array Value}(h:W.heap[b]?=some (.cells cs t (0,0)))(hn:cs.size=n):Near W b n t W:=⟨rfl,rfl,rfl,Nat.le_refl _,fun _ _ _=>rfl,cs,h,hn⟩
theorem Near.ext (h:Near W b n t w)(hx:Ext w w'):Near W b n t w':=by
 obtain⟨cs,h1,h2⟩:=h.blk
 exact⟨hx.os.trans h.os,hx.tape.trans h.tape,hx.output.trans h.output,Nat.le_trans h.size hx.size,fun k hk hb=>(Below.block hx k (Nat.lt_of_lt_of_le hk h.size)).trans (h.rest k hk hb),cs,(Below.block hx b (Array.getElem?_eq_some_iff.1 h1).1).trans h1,h2⟩
theorem Near.drew (h:Near W b n t w):Near W b n t w.drew:=h.ext (Ext.refl w).drew
theorem Near.set (h:Near W b n t w)(i:Nat)(u:Value):Near W b n t (w.setCell ⟨b,i,none⟩ u):=by
 obtain⟨cs,h1,h2⟩:=h.blk
 refine⟨h.os,h.tape,h.output,by have:=h.size;simpa using this,fun k hk hb=>(heap_setCell_ne _ _ hb).trans (h.rest k hk hb),_,heap_setCell h1 u,by simpa using h2⟩
theorem Near.cell (h:Near W b n t w){k i:Nat}(hk:k<W.heap.size)(hb:k≠b):w.cell? ⟨k,i,none⟩=W.cell? ⟨k,i,none⟩:=World.cell?_of_block (w:=W) (a:=⟨k,i,none⟩) (h.rest k hk hb)
theorem Near.frozen (h:Near W b n t w)(i:Nat):w.frozen? ⟨b,i,none⟩=false:=by
 obtain⟨cs,h1,h2⟩:=h.blk
 exact frozen_of_heap h1 i
theorem Near.below {B:Nat}{w0:World}(h:Near W b n t w)(h0:Below B w0 W)(hb:B<=b)(hB:B<=W.heap.size):Below B w0 w :=
 h0.trans ⟨h.os,h.tape,h.output,h.size,fun k hk=>h.rest k (by omega) (by omega)⟩
def cellD (w:World) (b i:Nat):Value:=(w.cell? ⟨b,i,none⟩).getD undef
theorem Near.four (h:Near W b 4 t w):∀ i,w.cell? ⟨b,i,none⟩=(#[cellD w b 0,cellD w b 1,cellD w b 2,cellD w b 3]:Array Value)[i]?:=by
 obtain⟨cs,h1,h2⟩:=h.blk
 intro i
 have e:=cell_of_heap h1
 unfold cellD
 rw [e,e,e,e,e]
 match i with
 | 0=>simp [h2]
 | 1=>simp [h2]
 | 2=>simp [h2]
 | 3=>simp [h2]
 | i+4=>simp [h2]
theorem Near.five (h:Near W b 5 t w):∀ i,w.cell? ⟨b,i,none⟩=(#[cellD w b 0,cellD w b 1,cellD w b 2,cellD w b 3,cellD w b 4]:Array Value)[i]?:=by
 obtain⟨cs,h1,h2⟩:=h.blk
 intro i
 have e:=cell_of_heap h1
 unfold cellD
 rw [e,e,e,e,e,e]
 match i with
 | 0=>simp [h2]
 | 1=>simp [h2]
 | 2=>simp [h2]
 | 3=>simp [h2]
 | 4=>simp [h2]
 | i+5=>simp [h2]
end
set_option maxRecDepth 100000 in
theorem new_r (a:Addr)(c:Nat)(L:List Int)(Aa:Option Addr)(n ca:Nat)(w:World)(h:Ints w (.slice (some a) L.length c) L)(hl:L.length<=32768) :
  Calls Tryz.prog 27 #[.slice (some a) L.length c,.slice Aa n ca] w fun e w'=>∃ p vL,e=.returned (.pointer (some ⟨p,0,none⟩))/\w.heap.size<=p/\w'.heap[p]?=some (.cells #[.slice Aa n ca,V Z 0,.bool false,.slice none 0 0,.slice none 0 0,vL] 49 (0,0))/\IntRow w' w.heap.size vL L/\Ext w w':=by
 have hh:=Hd h
 go_enter Tryz.func27,Tryz.ntmps27
 go_wp2_with (at_builtin;refine append_all rfl _ _ rfl a c L hh.out rfl rfl (by omega) ?_)
 intro v' w' h1 h2
 obtain⟨A',c',rfl,hc1,hc2⟩:=h1.ints.slice
 have h1h:=Hd h1
 clear h1 h;go_wp2_with fail
 go_ret
 exact⟨w'.heap.size,_,rfl,h2.size,heap_alloc_new _ _,row_ext h1h.out ((Ext.refl _).alloc _),h2.alloc _⟩
def locOf (L:List Int) (i:Nat):Int:=L.getD i 0
def TS0 (L ans:List Int):TS:=⟨ans,[],[],locOf L⟩
theorem new_at (a:Addr)(c:Nat)(L:List Int)(Aa:Option Addr)(ca:Nat)(ans:List Int)(w:World)(h:Ints w (.slice (some a) L.length c) L)(ha:Ints w (.slice Aa ans.length ca) ans)(hl:L.length<=32768)(hn:ans.length<=maxAns)
  (hb:∀ b,(Value.slice Aa ans.length ca).ownBlock=some b->b<w.heap.size) :
  Calls Tryz.prog 27 #[.slice (some a) L.length c,.slice Aa ans.length ca] w fun e w'=>∃ p,e=.returned (.pointer (some ⟨p,0,none⟩))/\RAt w.heap.size w' p false (TS0 L ans)/\Ext w w':=by
 refine (new_r a c L Aa ans.length ca w h hl).mono ?_
 rintro e w' ⟨p,vL,rfl,hp,hh,hr,hx⟩
 refine⟨p,rfl,⟨0,_,_,_,_,L,{ ge:=hp,heap:=hh,ans:=ha.ext hx,ansB:=hb,rowL:=hr,rowC:=World.ownsRow_nil _ _ _ _,rowN:=World.ownsRow_nil _ _ _ _,loc:=fun _=>rfl,locN:=hl,accN:=Nat.zero_le _,ansN:=hn,ntsN:=Nat.zero_le _ },by simp [TS0],by simp [TS0]⟩,hx⟩
set_option maxRecDepth 100000 in
theorem new_nil (c:Nat)(Aa:Option Addr)(n ca:Nat)(w:World) :
  Calls Tryz.prog 27 #[.slice none 0 c,.slice Aa n ca] w fun e w'=>∃ p vL,e=.returned (.pointer (some ⟨p,0,none⟩))/\w.heap.size<=p/\w'.heap[p]?=some (.cells #[.slice Aa n ca,V Z 0,.bool false,.slice none 0 0,.slice none 0 0,vL] 49 (0,0))/\IntRow w' w.heap.size vL []/\Ext w w':=by
 go_enter Tryz.func27,Tryz.ntmps27
 go_wp2_with fail
 go_ret
 have hown:(w.alloc (.cells #[] 3)).ownsRow w.heap.size 3 1 (.slice (some ⟨w.heap.size,0,none⟩) 0 0) 0 [] :=
  ⟨rfl,.inr ⟨w.heap.size,0,#[],rfl,Nat.le_refl _,heap_alloc_new _ _,Nat.le_refl _,Nat.zero_le _,rfl,rfl⟩⟩
 refine⟨w.heap.size+1,_,rfl,Nat.le_succ _,?_,row_ext hown ((Ext.refl _).alloc _),((Ext.refl _).alloc _).alloc _⟩
 have hz:(w.alloc (.cells #[] 3)).heap.size=w.heap.size+1:=by simp
 rw [<- hz]
 exact heap_alloc_new _ _
theorem new_any (A:Option Addr)(c:Nat)(L:List Int)(Aa:Option Addr)(ca:Nat)(ans:List Int)(w:World)(h:Ints w (.slice A L.length c) L)(ha:Ints w (.slice Aa ans.length ca) ans)(hl:L.length<=32768)(hn:ans.length<=maxAns)
  (hb:∀ b,(Value.slice Aa ans.length ca).ownBlock=some b->b<w.heap.size) :
  Calls Tryz.prog 27 #[.slice A L.length c,.slice Aa ans.length ca] w fun e w'=>∃ p,e=.returned (.pointer (some ⟨p,0,none⟩))/\RAt w.heap.size w' p false (TS0 L ans)/\Ext w w':=by
 cases A with
 | some a=>exact new_at a c L Aa ca ans w h ha hl hn hb
 | none =>
   have hL:L=[]:=by
    obtain⟨A',c',he,_,_,h3⟩:=h
    by_cases e:L=[]
    · exact e
    · obtain⟨b,off,rfl,_⟩:=h3 e
      cases he
   subst hL
   refine (new_nil c Aa ans.length ca w).mono ?_
   rintro e w' ⟨p,vL,rfl,hp,hh,hr,hx⟩
   exact⟨p,rfl,⟨0,_,_,_,_,[],{ ge:=hp,heap:=hh,ans:=ha.ext hx,ansB:=hb,rowL:=hr,rowC:=World.ownsRow_nil _ _ _ _,rowN:=World.ownsRow_nil _ _ _ _,loc:=fun _=>rfl,locN:=hl,accN:=Nat.zero_le _,ansN:=hn,ntsN:=Nat.zero_le _ },by simp [TS0],by simp [TS0]⟩,hx⟩
@[go_sem] theorem build_out (x:Bool) (A1 A2 A3:Option Addr) (n1 n2 n3 c1 c2 c3:Nat) (w:World):(Instr.build 30 #[(0,.bool x),(1,.slice A1 n1 c1),(2,.slice A2 n2 c2),(3,.slice A3 n3 c3)]).run Tryz.prog w=.ok (.agg #[.bool x,.slice A1 n1 c1,.slice A2 n2 c2,.slice A3 n3 c3]) w:=run_build w 30 _ _ (by kernel_rfl)
@[go_sem] theorem as_stop (v:Value) (w:World):(Instr.typeAssert (.iface 92 v) 20 92 true).run Tryz.prog w=.ok (.tuple #[v,.bool true]) w:=by kernel_rfl
@[go_sem] theorem ne_mem (a:Addr) (w:World):(binOp .neq 33 (.pointer (some a)) (.pointer (some a))).run Tryz.prog w=.ok (.bool false) w:=by
 have hs:(Tryz.prog.info? 90).isSome=true:=by kernel_rfl
 obtain⟨j,hj⟩:=Option.isSome_iff_exists.1 hs
 have h:∀ d:Nat,(Op.equalIn (d+1) 33 (.pointer (some a)) (.pointer (some a))).run Tryz.prog w=.ok true w:=fun d=>by
  simp [Op.equalIn,run_underlying Tryz.underlying33,sizeOf,typeInfo,hj,run_sameAddr_same]
 simp only [binOp]
 simp [Op.equal,Op.maxDepth,h 9999]
section
variable {B p b bo:Nat} {w w' W:World} {S:TS} {st:Int} {vA vL vC vN vs:Value} {L:List Int}
theorem PMem.setO (h:PMem B w p S st vA vL vC vN L)(hn:¬ ownR [2,3,4] w p b)(hb:B<=b)(i:Nat)(u:Value):PMem B (w.setCell ⟨b,i,none⟩ u) p S st vA vL vC vN L:=by
 have hp:p≠b:=fun e=>hn (.inl e.symm)
 refine { h with heap:=(heap_setCell_ne _ _ hp).trans h.heap,ans:=ints_set h.ans _ _ ?_,rowL:=row_set h.rowL ?_,rowC:=row_set h.rowC ?_,rowN:=row_set h.rowN ?_ }
 · intro k hk e
   have:=h.ansB k hk
   simp only at e
   omega
 · exact fun e=>hn (ownR_at (i:=2) h.heap (by simp) rfl e)
 · exact fun e=>hn (ownR_at (i:=3) h.heap (by simp) rfl e)
 · exact fun e=>hn (ownR_at (i:=4) h.heap (by simp) rfl e)
theorem Held.setO {ix:List Nat}{k:Nat}{o:Obj}(h:Held ix w p k o)(hk:k≠b)(hn:¬ ownR ix w p b)(i:Nat)(u:Value):Held ix (w.setCell ⟨b,i,none⟩ u) p k o :=
 ⟨(heap_setCell_ne _ _ hk).trans h.1,fun h'=>h.2 ((ownR_same (heap_setCell_ne _ _ (fun e=>hn (.inl e.symm))) k).1 h')⟩
theorem end_out {d x0:Bool}{x1 x2 x3:Value}(HM:PMem B W p S st vA vL vC vN L)(ho:W.heap[bo]?=some (.cells #[.bool x0,x1,x2,x3] 30 (0,0)))(h2:Ext W w')(h1:IntRow w' W.heap.size vs (shortL L)) :
  ((((w'.setCell ⟨bo,0,none⟩ (.bool d)).setCell ⟨bo,1,none⟩ vC).setCell ⟨bo,2,none⟩ vN).setCell ⟨bo,3,none⟩ vs).heap[bo]?=some (.cells #[.bool d,vC,vN,vs] 30 (0,0)) /\
    Outs ((((w'.setCell ⟨bo,0,none⟩ (.bool d)).setCell ⟨bo,1,none⟩ vC).setCell ⟨bo,2,none⟩ vN).setCell ⟨bo,3,none⟩ vs) (.agg #[.bool d,vC,vN,vs]) d S:=by
 have hlt:=(Array.getElem?_eq_some_iff.1 ho).1
 have e0:=(Below.block h2 bo hlt).trans ho
 have rC:=row_ext HM.rowC h2
 have rN:=row_ext HM.rowN h2
 have nC:=row_not rC e0 (by decide)
 have nN:=row_not rN e0 (by decide)
 have hv:∀ k,vs.ownBlock=some k->k≠bo:=fun k hk=>by have:=(h1.lt k hk).1;omega
 have e4:=heap_setCell (i:=3) (heap_setCell (i:=2) (heap_setCell (i:=1) (heap_setCell (i:=0) e0 (.bool d)) vC) vN) vs
 refine⟨e4,outs_of (L:=L) (row_set (row_set (row_set (row_set rC nC) nC) nC) nC) (row_set (row_set (row_set (row_set rN nN) nN) nN) nN) (ints_set (ints_set (ints_set (ints_set h1.ints _ _ hv) _ _ hv) _ _ hv) _ _ hv) HM.loc HM.locN⟩
end
theorem row_base {w:World}{B B' e size n:Nat}{v:Value}{xs:List Value}(h:w.ownsRow B' e size v n xs)(hB:B<=B'):w.ownsRow B e size v n xs:=by
 obtain⟨h1,h2⟩:=h
 rcases h2 with h2 | ⟨g,cap,cur,rfl,hg,r⟩
 · exact⟨h1,.inl h2⟩
 · exact⟨h1,.inr ⟨g,cap,cur,rfl,Nat.le_trans hB hg,r⟩⟩
theorem four_boxes (w:World)(o1 o2 o3 o4:Obj):Ext w ((((w.alloc o1).alloc o2).alloc o3).alloc o4)/\((((w.alloc o1).alloc o2).alloc o3).alloc o4).heap[w.heap.size]?=some o1/\((((w.alloc o1).alloc o2).alloc o3).alloc o4).heap[w.heap.size+1]?=some o2 /\
  ((((w.alloc o1).alloc o2).alloc o3).alloc o4).heap[w.heap.size+1+1]?=some o3/\((((w.alloc o1).alloc o2).alloc o3).alloc o4).heap[w.heap.size+1+1+1]?=some o4:=by
 refine⟨((((Ext.refl w).alloc o1).alloc o2).alloc o3).alloc o4,?_,?_,?_,?_⟩
 · exact (Below.block ((((Ext.refl (w.alloc o1)).alloc o2).alloc o3).alloc o4) _ (by simp)).trans (heap_alloc_new w o1)
 · have:=heap_alloc_new (w.alloc o1) o2
   rw [World.size_alloc] at this
   exact (Below.block (((Ext.refl ((w.alloc o1).alloc o2)).alloc o3).alloc o4) _ (by simp)).trans this
 · have:=heap_alloc_new ((w.alloc o1).alloc o2) o3
   rw [World.size_alloc,World.size_alloc] at this
   exact (Below.block ((Ext.refl (((w.alloc o1).alloc o2).alloc o3)).alloc o4) _ (by simp)).trans this
 · have:=heap_alloc_new (((w.alloc o1).alloc o2).alloc o3) o4
   rw [World.size_alloc,World.size_alloc,World.size_alloc] at this
   exact this
structure SameW (w w':World):Prop where
 os:w'.os=w.os
 tape:w'.tape=w.tape
 output:w'.output=w.output
 size:w'.heap.size=w.heap.size
 blocks:∀ k:Nat,w'.heap[k]?=w.heap[k]?
theorem SameW.drew (w:World):SameW w w.drew:=⟨rfl,rfl,rfl,rfl,fun _=>rfl⟩
theorem SameW.drew2 {w w':World}(h:SameW w w'):SameW w w'.drew:=⟨h.os,h.tape,h.output,h.size,h.blocks⟩
theorem SameW.refl (w:World):SameW w w:=⟨rfl,rfl,rfl,rfl,fun _=>rfl⟩
theorem SameW.ext {w w':World}(h:SameW w w'):Ext w w':=⟨h.os,h.tape,h.output,Nat.le_of_eq h.size.symm,fun k _=>h.blocks k⟩
theorem SameW.set {w w':World}{b:Nat}{cs:Array Value}{t:TypeId}(h:SameW w w')(g:w.heap[b]?=some (.cells cs t (0,0))){i:Nat}{v:Value}(hv:cs[i]?=some v):SameW w (w'.setCell ⟨b,i,none⟩ v):=by
 refine⟨h.os,h.tape,h.output,by rw [<- h.size];simp,fun k=>?_⟩
 by_cases e:k=b
 · subst e
   rw [heap_setCell ((h.blocks k).trans g) v,g]
   congr 2
   apply Array.ext_getElem?
   intro j
   rw [Array.getElem?_setIfInBounds]
   split
   · rename_i e
     subst e
     rw [hv]
     split
     · rfl
     · rename_i h2
       rw [Array.getElem?_eq_none (by omega)] at hv
       cases hv
   · rfl
 · rw [heap_setCell_ne _ _ e]
   exact h.blocks k
theorem play_start {w W w':World}{p:Nat}{Aa:Option Addr}{ca:Nat}{ans L:List Int}{v':Value}(hx:Ext w W)(hp:w.heap.size<=p)(g:W.heap[p]?=some (.cells #[V Z 1,.slice Aa ans.length ca,.slice none 0 0,.slice none 0 0,.slice none 0 0] 90 (0,0)))
  (h2:Ext W w')(h1:IntRow w' W.heap.size v' L)(hl:L.length<=32768)(ha:Ints w (.slice Aa ans.length ca) ans)(hn:ans.length<=maxAns)(hb:∀ b,(Value.slice Aa ans.length ca).ownBlock=some b->b<w.heap.size) :
  Plays w.heap.size (w'.setCell ⟨p,2,none⟩ v') p (TS0 L ans)/\(∀ b o,W.heap[b]?=some o->b≠p->HeldP (w'.setCell ⟨p,2,none⟩ v') p b o)/\Ext w (w'.setCell ⟨p,2,none⟩ v'):=by
 have hlt:=(Array.getElem?_eq_some_iff.1 g).1
 have g':=heap_setCell (i:=2) ((Below.block h2 p hlt).trans g) v'
 have hv:∀ k,v'.ownBlock=some k->W.heap.size<=k:=fun k hk=>(h1.lt k hk).1
 have ha':=(ha.ext hx).ext h2
 refine⟨⟨Nat.zero_le _,.slice Aa ans.length ca,v',.slice none 0 0,.slice none 0 0,L,{ ge:=hp,heap:=g',ans:=ints_set ha' _ _ ?_,ansB:=hb,rowL:=row_base (row_set h1 ?_) hx.size,rowC:=World.ownsRow_nil _ _ _ _,rowN:=World.ownsRow_nil _ _ _ _,loc:=fun _=>rfl,locN:=hl,accN:=Nat.zero_le _,ansN:=hn,ntsN:=Nat.zero_le _ }⟩,?_,(hx.trans h2).setCell hp _⟩
 · intro k hk e
   have:=hb k hk
   simp only at e
   omega
 · intro e
   have:=hv p e
   omega
 · intro b o hb ho
   have hbl:=(Array.getElem?_eq_some_iff.1 hb).1
   refine⟨(heap_setCell_ne _ _ ho).trans ((Below.block h2 b hbl).trans hb),fun h'=>?_⟩
   rcases h' with e | ⟨i,hi,v,hv1,hv2⟩
   · exact ho e
   · rw [cell_of_heap g'] at hv1
     simp only [List.mem_cons,List.not_mem_nil,or_false] at hi
     rcases hi with rfl | rfl | rfl
     · obtain rfl:v'=v:=by simpa using hv1
       have:=hv b hv2
       omega
     · obtain rfl:Value.slice none 0 0=v:=by simpa using hv1
       simp [Value.ownBlock] at hv2
     · obtain rfl:Value.slice none 0 0=v:=by simpa using hv1
       simp [Value.ownBlock] at hv2
theorem take_snoc_eq {a b:List Int}{k:Nat}(ha:k<a.length)(hb:k<b.length)(h:a.take k=b.take k):(a.take (k+1)=b.take (k+1))↔a.getD k 0=b.getD k 0:=by
 rw [List.take_succ_eq_append_getElem ha,List.take_succ_eq_append_getElem hb,h]
 rw [List.append_cancel_left_eq]
 simp [List.getD,List.getElem?_eq_getElem ha,List.getElem?_eq_getElem hb]
theorem ints_r (v1 v2:Value)(a b:List Int)(w:World)(h1:Ints w v1 a)(h2:Ints w v2 b) :
  Calls Tryz.prog 61 #[v1,v2] w fun e w'=>e=.returned (.bool (decide (a=b)))/\Drew w w':=by
 obtain⟨A,c,rfl,q1,q2⟩:=h1.slice
 obtain⟨B,d,rfl,q3,q4⟩:=h2.slice
 by_cases hl:a.length=b.length
 · have H:Hid (a.length=b.length):=hl
   rw [<- hl] at h2 q3 ⊢
   have l1:a.length<=9223372036854775807:=by omega
   clear hl
   go_enter Tryz.func61,Tryz.ntmps61
   go_wp2_with fail
   go_loopw [5] (fun i wr=>∃ j:Nat,i=V Z j/\j<=a.length/\Hid (a.take j=b.take j)/\Drew w wr) (fun i _=>a.length-(intOf i).toNat)
   case atStart=>exact⟨0,rfl,by omega,by simp [Hid],Drew.rfl' _⟩
   case round =>
    obtain⟨j,rfl,hj,ht,hd⟩:=hrel
    by_cases hlt:j<a.length
    · obtain⟨b1,o1,rfl,hb1,hc1⟩:=h1.at_ hlt
      obtain⟨b2,o2,rfl,hb2,hc2⟩:=h2.at_ hlt
      obtain⟨n,rfl⟩:=hd
      have hlt2:j<b.length:=by rw [<- H.out];exact hlt
      have T:=Hd (take_snoc_eq hlt hlt2 ht.out)
      rw [List.getD_eq_getElem?_getD,List.getElem?_eq_getElem hlt,Option.getD_some] at hc1
      rw [List.getD_eq_getElem?_getD,List.getElem?_eq_getElem hlt2,Option.getD_some] at hc2
      clear h1 h2
      by_cases hx:a[j]=b[j]
      · have d1:(a[j]==b[j])=true:=by rw [beq_iff_eq];exact hx
        have d2:(a[j] != b[j])=false:=by rw [bne_eq_false_iff_eq];exact hx
        have HX:=Hd hx
        clear hx;go_wp2_with fail
        go_quiet (fail)
        go_wp2_with fail
        refine⟨⟨j+1,by go_num,by omega,T.out.2 (by simpa [List.getD,hlt,hlt2] using HX.out),Drew.mk' _ _⟩,?_⟩
        simp [intOf];omega
      · have d1:(a[j]==b[j])=false:=by rw [beq_eq_false_iff_ne];exact hx
        have d2:(a[j] != b[j])=true:=by rw [bne_iff_ne];exact hx
        have HX:=Hd hx
        clear hx;go_wp2_with fail
        go_quiet (fail)
        go_wp2_with fail
        go_ret
        refine⟨ret_bool ?_,(Drew.mk' _ _).trans (Drew.mk' _ _)⟩
        symm
        rw [decide_eq_false_iff_not]
        rintro rfl
        exact HX.out rfl
    · obtain rfl:j=a.length:=by omega
      have E:Hid (a=b):=by
       have:=ht.out
       rw [List.take_length,H.out,List.take_length] at this
       exact this
      go_wp2_with fail
      go_ret
      refine⟨ret_bool ?_,hd⟩
      simp [E.out]
 · have d1:((a.length:Int) != (b.length:Int))=true:=by rw [bne_iff_ne];omega
   have H:Hid (decide (a=b)=false):=by
    unfold Hid
    rw [decide_eq_false_iff_not]
    intro he
    exact hl (by rw [he])
   clear hl
   go_enter Tryz.func61,Tryz.ntmps61
   go_wp2_with fail
   go_ret
   exact⟨ret_bool H.out.symm,Drew.rfl' _⟩
set_option maxRecDepth 100000 in
set_option maxHeartbeats 1000000 in
theorem same_r (va vb:Value)(d:Bool)(S:TS)(w:World)(ha:Outs w va d S)(hb:Outs w vb d S) :
  Calls Tryz.prog 33 #[va,vb] w fun e w'=>e=.returned (.bool true)/\Ext w w':=by
 obtain⟨A,c,A',c',vs,L,rfl,ha⟩:=ha
 obtain⟨D,k,D',k',vt,M,rfl,hb⟩:=hb
 have hs:=shortL_eq (L:=L) (L':=M) (fun i=>(ha.is i).symm.trans (hb.is i))
 unfold outV
 obtain⟨As,cs,rfl,r1,r2⟩:=ha.locs.slice
 obtain⟨Bs,ds,rfl,r3,r4⟩:=hb.locs.slice
 have q1:=ha.accc;have q2:=ha.ntsc;have q3:=hb.accc;have q4:=hb.ntsc
 have hX:=Ext.refl w
 have b1:=Blk.new w (.cells #[.bool d,.slice A S.acc.length c,.slice A' S.nts.length c',.slice As (shortL L).length cs] 30)
 replace hX:=hX.alloc (.cells #[.bool d,.slice A S.acc.length c,.slice A' S.nts.length c',.slice As (shortL L).length cs] 30)
 have b2:=Blk.new (w.alloc (.cells #[.bool d,.slice A S.acc.length c,.slice A' S.nts.length c',.slice As (shortL L).length cs] 30)) (.cells #[.bool d,.slice D S.acc.length k,.slice D' S.nts.length k',.slice Bs (shortL M).length ds] 30)
 simp only [World.size_alloc] at b2
 replace b1:=b1.alloc (.cells #[.bool d,.slice D S.acc.length k,.slice D' S.nts.length k',.slice Bs (shortL M).length ds] 30)
 replace hX:=hX.alloc (.cells #[.bool d,.slice D S.acc.length k,.slice D' S.nts.length k',.slice Bs (shortL M).length ds] 30)
 have c_b1:=b1.cells;have c_b2:=b2.cells
 have ha1:=Hd (ha.ext hX)
 have hb1:=Hd (hb.ext hX)
 have hdd:(d != d)=false:=by cases d <;> rfl
 have hsh:=Hd hs
 clear ha hb hs
 go_enter Tryz.func33,Tryz.ntmps33
 go_wp2_with fail
 refine (ints_r _ _ _ _ _ ha1.out.locs hb1.out.locs).mono ?_
 rintro e w1 ⟨rfl,hd1⟩
 rw [show decide (shortL L=shortL M)=true from by rw [hsh.out];simp]
 have hx1:=hd1.ext
 have ha2:=Hd (ha1.out.ext hx1)
 have hb2:=Hd (hb1.out.ext hx1)
 clear c_b1 c_b2 ha1 hb1 hsh;replace b1:=b1.ext hx1;replace b2:=b2.ext hx1;replace hX:=hX.trans hx1;clear hx1 hd1;have c_b1:=b1.cells;have c_b2:=b2.cells;go_wp2_with fail
 go_loopw [5] (fun i wr=>∃ j:Nat,i=V Z j/\j<=S.acc.length/\Drew w1 wr) (fun i _=>S.acc.length-(intOf i).toNat)
 case atStart=>exact⟨0,rfl,by omega,Drew.rfl' _⟩
 case round =>
  obtain⟨j,rfl,hj,n,rfl⟩:=hrel
  by_cases hl:j<S.acc.length
  · obtain⟨x,hxj⟩:∃ x,S.acc[j]?=some x:=⟨_,List.getElem?_eq_getElem hl⟩
    obtain⟨p1,rfl,hp1,e1,e2,e3⟩:=ha2.out.accs.at_ hxj
    obtain⟨p2,rfl,hp2,e4,e5,e6⟩:=hb2.out.accs.at_ hxj
    obtain⟨x1,x2,x3⟩:=x
    simp only at e1 e2 e3 e4 e5 e6
    clear hxj;go_wp2_with fail
    go_quiet (fail)
    go_wp2_with fail
    refine⟨⟨j+1,by go_num,by omega,by first | exact Drew.mk' _ _ | exact (Drew.mk' w1 n).trans (Drew.mk' _ _)⟩,?_⟩
    simp [intOf];omega
  · have hD:Drew w1 (w1.drewN n):=Drew.mk' _ _
    go_wp2_with fail
    go_loopw [6] (fun i wr=>∃ j:Nat,i=V Z j/\j<=S.nts.length/\Drew w1 wr) (fun i _=>S.nts.length-(intOf i).toNat)
    case atStart=>exact⟨0,rfl,by omega,hD⟩
    case round =>
     obtain⟨j,rfl,hj,n,rfl⟩:=hrel
     by_cases hl:j<S.nts.length
     · obtain⟨x,hxj⟩:∃ x,S.nts[j]?=some x:=⟨_,List.getElem?_eq_getElem hl⟩
       obtain⟨p1,rfl,hp1,e1,e2⟩:=ha2.out.nts.at_ hxj
       obtain⟨p2,rfl,hp2,e4,e5⟩:=hb2.out.nts.at_ hxj
       obtain⟨x1,x2⟩:=x
       simp only at e1 e2 e4 e5
       clear hxj;go_wp2_with fail
       go_quiet (fail)
       go_wp2_with fail
       refine⟨⟨j+1,by go_num,by omega,by first | exact Drew.mk' _ _ | exact (Drew.mk' w1 n).trans (Drew.mk' _ _)⟩,?_⟩
       simp [intOf];omega
     · go_wp2_with fail
       go_ret
       exact⟨rfl,hX.trans (Drew.mk' w1 n).ext⟩
end Go.Proofs.YtbaajjkopdjbgaaGreat
namespace Go.Proofs.YtbaajjkopdjbgaaGreat
open Go.RowKit Go.WideShapes Go.ChangeShapes
section
variable {H:Type} {enc:TypeId × Value->H} {P:Program}
theorem post_of_below {f:Func}{s:ChangeSpec}{apart fresh handsOn again:Bool}{W W':World}{args:Array Value}{v:Value}{ds gs:List (DataW H)}{before pa pv:List MemPlace}
  (hW:DataW.Whole enc P f.params.toList s.vars apart W args.toList ds gs before)
  (hres:∀ (b:Nat) (sp:Nat->Bool) (hd:Bool),DataW.TrodAll enc P W' b sp hd f.resultTypes.toList (v.resultList f.resultTypes.size) (s.fn H (ds++gs)).results [])
  (hargs:∀ sp:Nat->Bool,(∀ p∈before,sp p.block=true)->DataW.TrodAll enc P W' 0 sp true f.params.toList args.toList (s.fn H (ds++gs)).args pa)
  (hvars:∀ sp:Nat->Bool,(∀ p∈before,sp p.block=true)->DataW.TrodVars enc P W' sp s.vars (s.fn H (ds++gs)).vars pv)
  (hps:before=pa++pv)(hb:Below W.heap.size W W')
  (hok:∀ (j:Nat) (t:TypeId) (r:Value),f.resultTypes[j]?=some t->(v.resultList f.resultTypes.size)[j]?=some r->Value.okWide P W' .any 0 t r) :
  s.post enc P f apart fresh handsOn again W args v W':=by
 have hlt:∀ p∈before,p.block<W.heap.size:=fun p hp=>hW.lt p hp
 have hold:∀ p∈before,(fun b=>decide (b<W.heap.size)) p.block=true:=fun p hp=>by simpa using hlt p hp
 refine⟨ds,gs,before,[],pa,pv,hW,hres _ _ _,hargs _ hold,hvars _ hold,World.keptBut_mono (fun p hp=>⟨hp,?_⟩) (hb.frame (·∈before)),fun _=>?_⟩
 · rw [hps,List.mem_append] at hp
   exact Or.inr hp
 · obtain⟨_,_,_,_,_,hz,hn⟩:=hW
   refine⟨hok,_,_,([]++pa)++pv,⟨[]++pa,pv,trodAll_append (hargs _ (fun _ _=>rfl)) (hres _ _ _),hvars _ (fun _ _=>rfl),rfl,?_,?_⟩,?_⟩
   · intro b off hp
     have hin:MemPlace.cell b off∈before:=by rw [hps];simpa using hp
     rw [hb.frozen (hlt _ hin)]
     exact hz b off hin
   · intro ha
     have:=hn ha
     rw [hps] at this
     simpa using this
   · intro p hp _
     rw [hps]
     simpa using hp
end
section
variable {H:Type} {enc:TypeId × Value->H} {P:Program}
theorem trodAll_stays (hl:laidOutB P=true):∀ (ts:List TypeId),(∀ t∈ts,P.readableRec t=true/\t<P.types.size)->∀ {W W':World} {sp:Nat->Bool} {vs:List Value} {ds:List (DataW H)} {ps:List MemPlace},
  DataW.TrodAll enc P W 0 (fun _=>true) true ts vs ds ps->(∀ p∈ps,W.sameAt W' p)->(∀ p∈ps,sp p.block=true)->DataW.TrodAll enc P W' 0 sp true ts vs ds ps
 | [],_,W,W',sp,vs,ds,ps,h,_,_=>by
   cases vs <;> cases ds <;> simp_all [DataW.TrodAll]
 | t :: ts,ht,W,W',sp,vs,ds,ps,h,hs,hsp=>by
   obtain⟨v,vs',d,ds',p,q,rfl,rfl,rfl,hp,hq⟩:=trodAll_cons h
   have h1:=ht t (by simp)
   refine trodAll_cons_mk (WideElems.Trod_stays hl h1.1 h1.2 hp (fun x hx=>hs x (by simp [hx])) (fun x hx=>hsp x (by simp [hx]))) ?_
   exact trodAll_stays hl ts (fun t' h'=>ht t' (by simp [h'])) hq (fun x hx=>hs x (by simp [hx])) (fun x hx=>hsp x (by simp [hx]))
theorem trodAll_length:∀ (ts:List TypeId) {W:World} {b:Nat} {sp:Nat->Bool} {held:Bool} {vs:List Value} {ds:List (DataW H)} {ps:List MemPlace},DataW.TrodAll enc P W b sp held ts vs ds ps->ds.length=ts.length
 | [],W,b,sp,held,vs,ds,ps,h=>by cases vs <;> cases ds <;> simp_all [DataW.TrodAll]
 | t :: ts,W,b,sp,held,vs,ds,ps,h=>by
   obtain⟨v,vs',d,ds',p,q,rfl,rfl,rfl,hp,hq⟩:=trodAll_cons h
   simp [trodAll_length ts hq]
theorem law_post {f:Func}{s:ChangeSpec}{W W':World}{args:Array Value}{ds gs:List (DataW H)}{before:List MemPlace}{tb:TypeId}
  (hl:laidOutB P=true)(hr:∀ t∈f.params.toList,P.readableRec t=true/\t<P.types.size)(hres:f.resultTypes=#[tb])(htb:P.underlying tb=some .bool)
  (hvars:s.vars=[])(hspec:∀ ds:List (DataW H),ds.length=f.params.size->s.fn H ds={ results:=[.lit (.bool true)],args:=ds })
  (hW:DataW.Whole enc P f.params.toList s.vars false W args.toList ds gs before)(hx:Ext W W') :
  s.post enc P f false true false false W args (.bool true) W':=by
 have hWlt:∀ p∈before,p.block<W.heap.size:=fun p hp=>hW.lt p hp
 obtain⟨p,q,hA,hV,hpq,hfz,hnd⟩:=hW
 rw [hvars] at hV
 have hgs:gs=[]/\q=[]:=trodVars_none hV
 obtain⟨rfl,rfl⟩:=hgs
 have hlen:=trodAll_length _ hA
 have hsp:=hspec ds (by rw [hlen];simp)
 have hb:before=p:=by rw [hpq];simp
 subst hb
 have hn:f.resultTypes.size=1:=by rw [hres];rfl
 have hlo:(Value.bool true).resultList f.resultTypes.size=[Value.bool true]:=by rw [hn];rfl
 have e0:ds++([]:List (DataW H))=ds:=List.append_nil _
 refine post_of_below (pa:=before) (pv:=[]) (ds:=ds) (gs:=[]) ⟨before,[],hA,by rw [hvars];exact hV,hpq,hfz,hnd⟩ ?_ ?_ ?_ hpq hx ?_
 · intro b sp hd
   rw [e0,hsp,hlo,hres]
   exact trodAll_cons_mk (shut_bool htb _) trodAll_mk0
 · intro sp hsp'
   rw [e0,hsp]
   exact trodAll_stays hl _ hr hA (fun p hp=>Below.same hx (hWlt p hp)) hsp'
 · intro sp _
   rw [e0,hsp,hvars]
   rfl
 · intro j t r ht hr'
   rw [hres] at ht
   rw [hlo] at hr'
   cases j with
   | zero =>
     obtain rfl:tb=t:=by simpa using ht
     obtain rfl:Value.bool true=r:=by simpa using hr'
     exact okWide_bool_mk htb _
   | succ j=>simp at ht
end
end Go.Proofs.YtbaajjkopdjbgaaGreat
