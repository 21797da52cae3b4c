/-
  RwRowSaid: part 4 of its proof.
-/
import Derived.Test.YtbaajjkopdjbgaaGreatJRwRowSaid3
import Derived.Maps.AppendAt
import Derived.Defers
import Derived.Recover
import Derived.LaidEqlPtr
import Derived.Deep.RegionHeld3
import Derived.Deep.QuietTactic
import Derived.BigQuiet
import Derived.ProofKit
import Derived.OpenShut
import Derived.Deep.DeepHandedRow
import Derived.WideKeyArgs
import Derived.Carry
import Derived.ChangeSame
import Derived.Lib.SmallJoins
import Derived.Test.YtbaajjkopdjbgaaGreatRows
import Derived.Deep.DeepCutAuto
import Derived.Laws.EntriesVeiled
open Go.Value renaming int -> V
open Go.IntKind renaming i64 -> Z
namespace Go.Proofs.YtbaajjkopdjbgaaGreat
open Go.RowKit Kv
theorem RegsAt.node3 {ix:List Nat}{p b k:Nat}{w:World}{rs:List Reg}{x y z:Reg}(h:RegsAt ix w p b rs)(hi:rs[k]?=some x/\rs[k+1]?=some y/\rs[k+2]?=some z) :
  RegCells w b (k*7) x/\RegCells w b (k*7+7) y/\RegCells w b (k*7+14) z:=by
 have h1:=h.nth hi.2.1
 have h2:=h.nth hi.2.2
 rw [show (k+1)*7=k*7+7 from by omega] at h1
 rw [show (k+2)*7=k*7+14 from by omega] at h2
 exact⟨h.nth hi.1,h1,h2⟩
set_option maxRecDepth 100000 in
set_option maxHeartbeats 1000000 in
theorem arbn_enter_p0 (B p N:Nat)(S:TS)(q0 q1 rt:Reg)(side me:Int)(b c k:Nat)(rs:List Reg)(w:World)(h:Plays B w p S)(hl:RegsAt [2,3,4] w p b rs)(hi:rs[k]?=some q0/\rs[k+1]?=some q1/\rs[k+2]?=some rt)(hq0:q0.ok)(hq1:q1.ok)(hrt:rt.ok)
  (hm0:0<=me)(hm1:me<q0.n)(hm2:me<q1.n)(hm3:me<rt.n)(ht1:q1.told me)(hN:S.left<N)(hs:bitM side=0) :
  Calls Tryz.prog 236 #[.pointer (some ⟨p,0,none⟩),.slice (some ⟨b,k*7,none⟩) 3 c,V Z side,V Z me] w (Post encU B p w ((arbEnter N q0 q1 rt 0 me).run S)):=by
 generalize hR:Post encU B p w ((arbEnter N q0 q1 rt 0 me).run S)=R
 have hO:Owes R encU B p w ((arbEnter N q0 q1 rt 0 me).run S):=hR▸owes _ _ _ _ _
 clear hR;replace hi:=Hd hi;have hP:=h;clear h;unfold arbEnter at hO
 have hb:=abit_p side
 rw [hs] at hb;clear hs
 have hS:∀ w',RegsAt [2,3,4] w' p b rs->((w'.cell? ⟨b,k*7,none⟩=some (V Z q0.kind)/\w'.cell? ⟨b,k*7+1,none⟩=some (V Z q0.base)/\w'.cell? ⟨b,k*7+2,none⟩=some (V Z q0.loc)/\w'.cell? ⟨b,k*7+3,none⟩=some (V Z q0.n)/\w'.cell? ⟨b,k*7+4,none⟩=some (V Z q0.wr)/\w'.cell? ⟨b,k*7+5,none⟩=some (V Z q0.rd)/\w'.cell? ⟨b,k*7+6,none⟩=some (V Z q0.top))/\(w'.cell? ⟨b,k*7+7,none⟩=some (V Z q1.kind)/\w'.cell? ⟨b,k*7+7+1,none⟩=some (V Z q1.base)/\w'.cell? ⟨b,k*7+7+2,none⟩=some (V Z q1.loc)/\w'.cell? ⟨b,k*7+7+3,none⟩=some (V Z q1.n)/\w'.cell? ⟨b,k*7+7+4,none⟩=some (V Z q1.wr)/\w'.cell? ⟨b,k*7+7+5,none⟩=some (V Z q1.rd)/\w'.cell? ⟨b,k*7+7+6,none⟩=some (V Z q1.top))/\(w'.cell? ⟨b,k*7+14,none⟩=some (V Z rt.kind)/\w'.cell? ⟨b,k*7+14+1,none⟩=some (V Z rt.base)/\w'.cell? ⟨b,k*7+14+2,none⟩=some (V Z rt.loc)/\w'.cell? ⟨b,k*7+14+3,none⟩=some (V Z rt.n)/\w'.cell? ⟨b,k*7+14+4,none⟩=some (V Z rt.wr)/\w'.cell? ⟨b,k*7+14+5,none⟩=some (V Z rt.rd)/\w'.cell? ⟨b,k*7+14+6,none⟩=some (V Z rt.top))):=fun w' y=>by
  obtain⟨⟨a0,a1,a2,a3,a4,a5,a6⟩,⟨e0,e1,e2,e3,e4,e5,e6⟩,⟨f0,f1,f2,f3,f4,f5,f6⟩⟩:=y.node3 hi.out
  exact⟨⟨a0,a1,a2,a3,a4,a5,a6⟩,⟨e0,e1,e2,e3,e4,e5,e6⟩,⟨f0,f1,f2,f3,f4,f5,f6⟩⟩
 go_enter Tryz.func236,Tryz.ntmps236
 go_wp2_with fail
 have hOh:=Hd hO
 have hbh:=Hd hb
 clear hO hb
 go_upto_region 1 with fail
 go_cut [8,9] (fun s8 s9 wx=>∃ (x y:Nat),s8=.pointer (some ⟨x,0,none⟩)/\s9=.pointer (some ⟨y,0,none⟩)/\HeldP wx p x (.cells #[V Z q0.kind,V Z q0.base,V Z q0.loc,V Z q0.n,V Z q0.wr,V Z q0.rd,V Z q0.top,V Z q1.kind,V Z q1.base,V Z q1.loc,V Z q1.n,V Z q1.wr,V Z q1.rd,V Z q1.top] 211)/\HeldP wx p y (.cells #[V Z rt.kind,V Z rt.base,V Z rt.loc,V Z rt.n,V Z rt.wr,V Z rt.rd,V Z rt.top] 67)/\Plays B wx p S/\KeepP B p w wx/\RegsAt [2,3,4] wx p b rs)
 case first =>
  have hl2:=hl.extL (Ext.refl w).drew hP.lt
  obtain⟨⟨a0,a1,a2,a3,a4,a5,a6⟩,⟨e0,e1,e2,e3,e4,e5,e6⟩,⟨f0,f1,f2,f3,f4,f5,f6⟩⟩:=hl.node3 hi.out
  go_region_held2 (fun w'=>((w'.cell? ⟨b,k*7,none⟩=some (V Z q0.kind)/\w'.cell? ⟨b,k*7+1,none⟩=some (V Z q0.base)/\w'.cell? ⟨b,k*7+2,none⟩=some (V Z q0.loc)/\w'.cell? ⟨b,k*7+3,none⟩=some (V Z q0.n)/\w'.cell? ⟨b,k*7+4,none⟩=some (V Z q0.wr)/\w'.cell? ⟨b,k*7+5,none⟩=some (V Z q0.rd)/\w'.cell? ⟨b,k*7+6,none⟩=some (V Z q0.top))/\(w'.cell? ⟨b,k*7+7,none⟩=some (V Z q1.kind)/\w'.cell? ⟨b,k*7+7+1,none⟩=some (V Z q1.base)/\w'.cell? ⟨b,k*7+7+2,none⟩=some (V Z q1.loc)/\w'.cell? ⟨b,k*7+7+3,none⟩=some (V Z q1.n)/\w'.cell? ⟨b,k*7+7+4,none⟩=some (V Z q1.wr)/\w'.cell? ⟨b,k*7+7+5,none⟩=some (V Z q1.rd)/\w'.cell? ⟨b,k*7+7+6,none⟩=some (V Z q1.top))/\(w'.cell? ⟨b,k*7+14,none⟩=some (V Z rt.kind)/\w'.cell? ⟨b,k*7+14+1,none⟩=some (V Z rt.base)/\w'.cell? ⟨b,k*7+14+2,none⟩=some (V Z rt.loc)/\w'.cell? ⟨b,k*7+14+3,none⟩=some (V Z rt.n)/\w'.cell? ⟨b,k*7+14+4,none⟩=some (V Z rt.wr)/\w'.cell? ⟨b,k*7+14+5,none⟩=some (V Z rt.rd)/\w'.cell? ⟨b,k*7+14+6,none⟩=some (V Z rt.top)))) (first | with_reducible exact hS _ hl2 | go_keep) (fail)
  · rename_i hh
    clear hh
    obtain⟨b1,b2,hP2,hK2,hl3⟩:=two_held hP hl (.cells #[V Z q0.kind,V Z q0.base,V Z q0.loc,V Z q0.n,V Z q0.wr,V Z q0.rd,V Z q0.top,V Z q1.kind,V Z q1.base,V Z q1.loc,V Z q1.n,V Z q1.wr,V Z q1.rd,V Z q1.top] 211) (.cells #[V Z rt.kind,V Z rt.base,V Z rt.loc,V Z rt.n,V Z rt.wr,V Z rt.rd,V Z rt.top] 67)
    clear hS hl2 hl hP a0 a1 a2 a3 a4 a5 a6 e0 e1 e2 e3 e4 e5 e6 f0 f1 f2 f3 f4 f5 f6;go_wp2_with fail
    go_meet
    exact⟨_,_,rfl,rfl,b1,b2,hP2,hK2,hl3⟩
  · rename_i hh
    clear hh
    obtain⟨b2,b1,hP2,hK2,hl3⟩:=two_held hP hl (.cells #[V Z rt.kind,V Z rt.base,V Z rt.loc,V Z rt.n,V Z rt.wr,V Z rt.rd,V Z rt.top] 67) (.cells #[V Z q0.kind,V Z q0.base,V Z q0.loc,V Z q0.n,V Z q0.wr,V Z q0.rd,V Z q0.top,V Z q1.kind,V Z q1.base,V Z q1.loc,V Z q1.n,V Z q1.wr,V Z q1.rd,V Z q1.top] 211)
    clear hS hl2 hl hP a0 a1 a2 a3 a4 a5 a6 e0 e1 e2 e3 e4 e5 e6 f0 f1 f2 f3 f4 f5 f6;go_wp2_with fail
    go_meet
    exact⟨_,_,rfl,rfl,b1,b2,hP2,hK2,hl3⟩
 case rest =>
  clear hS hl hP
  obtain⟨x,y,rfl,rfl,bx,bt,hP,hK,-⟩:=hcut
  go_wp2_with fail
  refine (hbh.out _).mono ?_
  rintro e w' ⟨rfl,rfl⟩;have c_bx:=bx.cells;clear hbh;have hPo:=hP
  have bn:=hP.held (.cells #[V Z q1.kind,V Z q1.base,V Z q1.loc,V Z q1.n,V Z q1.wr,V Z q1.rd,V Z q1.top] 67)
  have hKn:=hK.trans (Keep.alloc (.cells #[V Z q1.kind,V Z q1.base,V Z q1.loc,V Z q1.n,V Z q1.wr,V Z q1.rd,V Z q1.top] 67) hP.lt hP.le)
  have hPn:=hP.alloc (.cells #[V Z q1.kind,V Z q1.base,V Z q1.loc,V Z q1.n,V Z q1.wr,V Z q1.rd,V Z q1.top] 67)
  have bxn:=bx.alloc (.cells #[V Z q1.kind,V Z q1.base,V Z q1.loc,V Z q1.n,V Z q1.wr,V Z q1.rd,V Z q1.top] 67) hP.lt
  have btn:=bt.alloc (.cells #[V Z q1.kind,V Z q1.base,V Z q1.loc,V Z q1.n,V Z q1.wr,V Z q1.rd,V Z q1.top] 67) hP.lt
  clear hP hK bx bt hPo;have c_bxn:=bxn.cells;go_wp2_with fail
  clear c_bx c_bxn
  generalize hzn:wc.heap.size=z at *
  generalize wc.alloc _=W at *
  clear hzn;have hP:=hPn;have hK:=hKn;have bx:=bxn;have bt:=btn;clear hPn hKn bxn btn;replace hO:=hOh.out;clear hOh
  refine tstepL hO hK (reg_write_p B p S q0 me 1 _ hP hq0 ⟨hm0,by omega⟩) (fun _ h=>⟨rfl,h⟩) ?_
  clear hO hK hP;intro u S2 w2 hlf _ hP hk hK hO;replace hN:=Nat.lt_of_le_of_lt hlf hN;replace bn:=bn.keep hk;replace bt:=bt.keep hk;have c_bt:=bt.cells;have hOh:=Hd hO;clear hk hlf bx hO;go_wp2_with fail
  replace hO:=hOh.out;clear hOh c_bt
  refine tstepL hO hK (reg_write_p B p S2 rt me 0 _ hP hrt ⟨hm0,hm3⟩) (fun _ h=>⟨rfl,h⟩) ?_
  clear hO hK hP;intro u S3 w3 hlf _ hP hk hK hO;replace hN:=Nat.lt_of_le_of_lt hlf hN;replace bn:=bn.keep hk;replace bt:=bt.keep hk;have hOh:=Hd hO;clear hk hlf hO;go_wp2_with fail
  go_loopw [] (fun wr=>∃ (n:Nat) (S4:TS),Plays B wr p S4/\KeepP B p w wr/\HeldP wr p z (.cells #[V Z q1.kind,V Z q1.base,V Z q1.loc,V Z q1.n,V Z q1.wr,V Z q1.rd,V Z q1.top] 67)/\HeldP wr p y (.cells #[V Z rt.kind,V Z rt.base,V Z rt.loc,V Z rt.n,V Z rt.wr,V Z rt.rd,V Z rt.top] 67)/\Hid (Owes R encU B p w ((arbSpin q1 rt 0 me n).run S4))/\S4.left<n) (fun wr=>leftW 1 3 wr p)
  case atStart=>exact⟨N,S3,hP,hK,bn,bt,hOh,hN⟩
  case round =>
   clear hP hK bn bt hOh hN
   obtain⟨n,S4,hP,hK,bn,bt,hO,hN⟩:=hrel
   replace hO:=hO.out
   have hlw:=Hd hP.left
   cases n with
   | zero=>omega
   | succ n =>
     rw [arbSpin_succ] at hO;have c_bn:=bn.cells;have hOh:=Hd hO;clear hO;go_wp2_with fail
     replace hO:=hOh.out;clear hOh c_bn
     refine tstepL hO hK (reg_read_p B p S4 q1 me _ hP hq1 ⟨hm0,by omega⟩) (fun _ h=>⟨rfl,h⟩) ?_
     clear hO hK hP;intro v S5 w4 _ hlf hP hk hK hO
     replace hlf:=hlf (asks_regR _ _ ht1)
     replace bn:=bn.keep hk;replace bt:=bt.keep hk;clear hk
     by_cases hv:v=0
     · rw [if_pos hv] at hO
       subst hv
       have hf:R (.returned (encU ())) w4:=hO.done hP hK
       clear hO hP hK bn bt;go_wp2_with fail
       first | exact hf | (refine bodyPost_ret (results_none rfl _ _ _) rfl ?_;exact hf)
     · rw [if_neg hv] at hO
       have hv2:(v==0)=false:=by rw [beq_eq_false_iff_ne];exact hv
       have c_bt:=bt.cells;have hOh:=Hd hO;clear hv hO;go_wp2_with fail
       replace hO:=hOh.out;clear hOh c_bt
       refine tstepL hO hK (reg_read_p B p S5 rt me _ hP hrt ⟨hm0,hm3⟩) (fun _ h=>⟨rfl,h⟩) ?_
       clear hO hK hP;intro y0 S6 w5 hlf2 _ hP hk hK hO;replace bn:=bn.keep hk;replace bt:=bt.keep hk;clear hk
       by_cases hy:y0=0
       · rw [if_pos hy] at hO
         have hy2:(y0 != 0)=false:=by simpa using hy
         have c_bn:=bn.cells;have hOh:=Hd hO;clear hy hO;go_wp2_with fail
         refine (cells_pm q1 me _ hq1 ht1 ⟨hm0,by omega⟩).mono ?_
         rintro e w6 ⟨cc,rfl,hcc,hx⟩
         replace bn:=bn.ext hx hP.lt;replace bt:=bt.ext hx hP.lt;replace hK:=hK.trans (Keep.of_ext hx hP.lt hP.le);replace hP:=hP.ext hx;clear hx c_bn
         have hlw2:=Hd hP.left
         go_wp2_with fail
         refine⟨⟨n,S6,hP,hK,bn,bt,hOh,by omega⟩,?_⟩
         rw [hlw.out,hlw2.out]
         omega
       · rw [if_neg hy] at hO
         have hy2:(y0 != 0)=true:=by simpa using hy
         have hf:R (.returned (encU ())) w5:=hO.done hP hK
         clear hO hP hK bn bt hy;go_wp2_with fail
         first | exact hf | (refine bodyPost_ret (results_none rfl _ _ _) rfl ?_;exact hf)
set_option maxRecDepth 100000 in
set_option maxHeartbeats 1000000 in
theorem arbn_enter_p1 (B p N:Nat)(S:TS)(q0 q1 rt:Reg)(side me:Int)(b c k:Nat)(rs:List Reg)(w:World)(h:Plays B w p S)(hl:RegsAt [2,3,4] w p b rs)(hi:rs[k]?=some q0/\rs[k+1]?=some q1/\rs[k+2]?=some rt)(hq0:q0.ok)(hq1:q1.ok)(hrt:rt.ok)
  (hm0:0<=me)(hm1:me<q0.n)(hm2:me<q1.n)(hm3:me<rt.n)(ht1:q0.told me)(hN:S.left<N)(hs:bitM side=1) :
  Calls Tryz.prog 236 #[.pointer (some ⟨p,0,none⟩),.slice (some ⟨b,k*7,none⟩) 3 c,V Z side,V Z me] w (Post encU B p w ((arbEnter N q1 q0 rt 1 me).run S)):=by
 generalize hR:Post encU B p w ((arbEnter N q1 q0 rt 1 me).run S)=R
 have hO:Owes R encU B p w ((arbEnter N q1 q0 rt 1 me).run S):=hR▸owes _ _ _ _ _
 clear hR;replace hi:=Hd hi;have hP:=h;clear h;unfold arbEnter at hO
 have hb:=abit_p side
 rw [hs] at hb;clear hs
 have hS:∀ w',RegsAt [2,3,4] w' p b rs->((w'.cell? ⟨b,k*7,none⟩=some (V Z q0.kind)/\w'.cell? ⟨b,k*7+1,none⟩=some (V Z q0.base)/\w'.cell? ⟨b,k*7+2,none⟩=some (V Z q0.loc)/\w'.cell? ⟨b,k*7+3,none⟩=some (V Z q0.n)/\w'.cell? ⟨b,k*7+4,none⟩=some (V Z q0.wr)/\w'.cell? ⟨b,k*7+5,none⟩=some (V Z q0.rd)/\w'.cell? ⟨b,k*7+6,none⟩=some (V Z q0.top))/\(w'.cell? ⟨b,k*7+7,none⟩=some (V Z q1.kind)/\w'.cell? ⟨b,k*7+7+1,none⟩=some (V Z q1.base)/\w'.cell? ⟨b,k*7+7+2,none⟩=some (V Z q1.loc)/\w'.cell? ⟨b,k*7+7+3,none⟩=some (V Z q1.n)/\w'.cell? ⟨b,k*7+7+4,none⟩=some (V Z q1.wr)/\w'.cell? ⟨b,k*7+7+5,none⟩=some (V Z q1.rd)/\w'.cell? ⟨b,k*7+7+6,none⟩=some (V Z q1.top))/\(w'.cell? ⟨b,k*7+14,none⟩=some (V Z rt.kind)/\w'.cell? ⟨b,k*7+14+1,none⟩=some (V Z rt.base)/\w'.cell? ⟨b,k*7+14+2,none⟩=some (V Z rt.loc)/\w'.cell? ⟨b,k*7+14+3,none⟩=some (V Z rt.n)/\w'.cell? ⟨b,k*7+14+4,none⟩=some (V Z rt.wr)/\w'.cell? ⟨b,k*7+14+5,none⟩=some (V Z rt.rd)/\w'.cell? ⟨b,k*7+14+6,none⟩=some (V Z rt.top))):=fun w' y=>by
  obtain⟨⟨a0,a1,a2,a3,a4,a5,a6⟩,⟨e0,e1,e2,e3,e4,e5,e6⟩,⟨f0,f1,f2,f3,f4,f5,f6⟩⟩:=y.node3 hi.out
  exact⟨⟨a0,a1,a2,a3,a4,a5,a6⟩,⟨e0,e1,e2,e3,e4,e5,e6⟩,⟨f0,f1,f2,f3,f4,f5,f6⟩⟩
 go_enter Tryz.func236,Tryz.ntmps236
 go_wp2_with fail
 have hOh:=Hd hO
 have hbh:=Hd hb
 clear hO hb
 go_upto_region 1 with fail
 go_cut [8,9] (fun s8 s9 wx=>∃ (x y:Nat),s8=.pointer (some ⟨x,0,none⟩)/\s9=.pointer (some ⟨y,0,none⟩)/\HeldP wx p x (.cells #[V Z q0.kind,V Z q0.base,V Z q0.loc,V Z q0.n,V Z q0.wr,V Z q0.rd,V Z q0.top,V Z q1.kind,V Z q1.base,V Z q1.loc,V Z q1.n,V Z q1.wr,V Z q1.rd,V Z q1.top] 211)/\HeldP wx p y (.cells #[V Z rt.kind,V Z rt.base,V Z rt.loc,V Z rt.n,V Z rt.wr,V Z rt.rd,V Z rt.top] 67)/\Plays B wx p S/\KeepP B p w wx/\RegsAt [2,3,4] wx p b rs)
 case first =>
  have hl2:=hl.extL (Ext.refl w).drew hP.lt
  obtain⟨⟨a0,a1,a2,a3,a4,a5,a6⟩,⟨e0,e1,e2,e3,e4,e5,e6⟩,⟨f0,f1,f2,f3,f4,f5,f6⟩⟩:=hl.node3 hi.out
  go_region_held2 (fun w'=>((w'.cell? ⟨b,k*7,none⟩=some (V Z q0.kind)/\w'.cell? ⟨b,k*7+1,none⟩=some (V Z q0.base)/\w'.cell? ⟨b,k*7+2,none⟩=some (V Z q0.loc)/\w'.cell? ⟨b,k*7+3,none⟩=some (V Z q0.n)/\w'.cell? ⟨b,k*7+4,none⟩=some (V Z q0.wr)/\w'.cell? ⟨b,k*7+5,none⟩=some (V Z q0.rd)/\w'.cell? ⟨b,k*7+6,none⟩=some (V Z q0.top))/\(w'.cell? ⟨b,k*7+7,none⟩=some (V Z q1.kind)/\w'.cell? ⟨b,k*7+7+1,none⟩=some (V Z q1.base)/\w'.cell? ⟨b,k*7+7+2,none⟩=some (V Z q1.loc)/\w'.cell? ⟨b,k*7+7+3,none⟩=some (V Z q1.n)/\w'.cell? ⟨b,k*7+7+4,none⟩=some (V Z q1.wr)/\w'.cell? ⟨b,k*7+7+5,none⟩=some (V Z q1.rd)/\w'.cell? ⟨b,k*7+7+6,none⟩=some (V Z q1.top))/\(w'.cell? ⟨b,k*7+14,none⟩=some (V Z rt.kind)/\w'.cell? ⟨b,k*7+14+1,none⟩=some (V Z rt.base)/\w'.cell? ⟨b,k*7+14+2,none⟩=some (V Z rt.loc)/\w'.cell? ⟨b,k*7+14+3,none⟩=some (V Z rt.n)/\w'.cell? ⟨b,k*7+14+4,none⟩=some (V Z rt.wr)/\w'.cell? ⟨b,k*7+14+5,none⟩=some (V Z rt.rd)/\w'.cell? ⟨b,k*7+14+6,none⟩=some (V Z rt.top)))) (first | with_reducible exact hS _ hl2 | go_keep) (fail)
  · rename_i hh
    clear hh
    obtain⟨b1,b2,hP2,hK2,hl3⟩:=two_held hP hl (.cells #[V Z q0.kind,V Z q0.base,V Z q0.loc,V Z q0.n,V Z q0.wr,V Z q0.rd,V Z q0.top,V Z q1.kind,V Z q1.base,V Z q1.loc,V Z q1.n,V Z q1.wr,V Z q1.rd,V Z q1.top] 211) (.cells #[V Z rt.kind,V Z rt.base,V Z rt.loc,V Z rt.n,V Z rt.wr,V Z rt.rd,V Z rt.top] 67)
    clear hS hl2 hl hP a0 a1 a2 a3 a4 a5 a6 e0 e1 e2 e3 e4 e5 e6 f0 f1 f2 f3 f4 f5 f6;go_wp2_with fail
    go_meet
    exact⟨_,_,rfl,rfl,b1,b2,hP2,hK2,hl3⟩
  · rename_i hh
    clear hh
    obtain⟨b2,b1,hP2,hK2,hl3⟩:=two_held hP hl (.cells #[V Z rt.kind,V Z rt.base,V Z rt.loc,V Z rt.n,V Z rt.wr,V Z rt.rd,V Z rt.top] 67) (.cells #[V Z q0.kind,V Z q0.base,V Z q0.loc,V Z q0.n,V Z q0.wr,V Z q0.rd,V Z q0.top,V Z q1.kind,V Z q1.base,V Z q1.loc,V Z q1.n,V Z q1.wr,V Z q1.rd,V Z q1.top] 211)
    clear hS hl2 hl hP a0 a1 a2 a3 a4 a5 a6 e0 e1 e2 e3 e4 e5 e6 f0 f1 f2 f3 f4 f5 f6;go_wp2_with fail
    go_meet
    exact⟨_,_,rfl,rfl,b1,b2,hP2,hK2,hl3⟩
 case rest =>
  clear hS hl hP
  obtain⟨x,y,rfl,rfl,bx,bt,hP,hK,-⟩:=hcut
  go_wp2_with fail
  refine (hbh.out _).mono ?_
  rintro e w' ⟨rfl,rfl⟩;have c_bx:=bx.cells;clear hbh;have hPo:=hP
  have bn:=hP.held (.cells #[V Z q0.kind,V Z q0.base,V Z q0.loc,V Z q0.n,V Z q0.wr,V Z q0.rd,V Z q0.top] 67)
  have hKn:=hK.trans (Keep.alloc (.cells #[V Z q0.kind,V Z q0.base,V Z q0.loc,V Z q0.n,V Z q0.wr,V Z q0.rd,V Z q0.top] 67) hP.lt hP.le)
  have hPn:=hP.alloc (.cells #[V Z q0.kind,V Z q0.base,V Z q0.loc,V Z q0.n,V Z q0.wr,V Z q0.rd,V Z q0.top] 67)
  have bxn:=bx.alloc (.cells #[V Z q0.kind,V Z q0.base,V Z q0.loc,V Z q0.n,V Z q0.wr,V Z q0.rd,V Z q0.top] 67) hP.lt
  have btn:=bt.alloc (.cells #[V Z q0.kind,V Z q0.base,V Z q0.loc,V Z q0.n,V Z q0.wr,V Z q0.rd,V Z q0.top] 67) hP.lt
  clear hP hK bx bt hPo;have c_bxn:=bxn.cells;go_wp2_with fail
  clear c_bx c_bxn
  generalize hzn:wc.heap.size=z at *
  generalize wc.alloc _=W at *
  clear hzn;have hP:=hPn;have hK:=hKn;have bx:=bxn;have bt:=btn;clear hPn hKn bxn btn;replace hO:=hOh.out;clear hOh
  refine tstepL hO hK (reg_write_p B p S q1 me 1 _ hP hq1 ⟨hm0,by omega⟩) (fun _ h=>⟨rfl,h⟩) ?_
  clear hO hK hP;intro u S2 w2 hlf _ hP hk hK hO;replace hN:=Nat.lt_of_le_of_lt hlf hN;replace bn:=bn.keep hk;replace bt:=bt.keep hk;have c_bt:=bt.cells;have hOh:=Hd hO;clear hk hlf bx hO;go_wp2_with fail
  replace hO:=hOh.out;clear hOh c_bt
  refine tstepL hO hK (reg_write_p B p S2 rt me 1 _ hP hrt ⟨hm0,hm3⟩) (fun _ h=>⟨rfl,h⟩) ?_
  clear hO hK hP;intro u S3 w3 hlf _ hP hk hK hO;replace hN:=Nat.lt_of_le_of_lt hlf hN;replace bn:=bn.keep hk;replace bt:=bt.keep hk;have hOh:=Hd hO;clear hk hlf hO;go_wp2_with fail
  go_loopw [] (fun wr=>∃ (n:Nat) (S4:TS),Plays B wr p S4/\KeepP B p w wr/\HeldP wr p z (.cells #[V Z q0.kind,V Z q0.base,V Z q0.loc,V Z q0.n,V Z q0.wr,V Z q0.rd,V Z q0.top] 67)/\HeldP wr p y (.cells #[V Z rt.kind,V Z rt.base,V Z rt.loc,V Z rt.n,V Z rt.wr,V Z rt.rd,V Z rt.top] 67)/\Hid (Owes R encU B p w ((arbSpin q0 rt 1 me n).run S4))/\S4.left<n) (fun wr=>leftW 1 3 wr p)
  case atStart=>exact⟨N,S3,hP,hK,bn,bt,hOh,hN⟩
  case round =>
   clear hP hK bn bt hOh hN
   obtain⟨n,S4,hP,hK,bn,bt,hO,hN⟩:=hrel
   replace hO:=hO.out
   have hlw:=Hd hP.left
   cases n with
   | zero=>omega
   | succ n =>
     rw [arbSpin_succ] at hO;have c_bn:=bn.cells;have hOh:=Hd hO;clear hO;go_wp2_with fail
     replace hO:=hOh.out;clear hOh c_bn
     refine tstepL hO hK (reg_read_p B p S4 q0 me _ hP hq0 ⟨hm0,by omega⟩) (fun _ h=>⟨rfl,h⟩) ?_
     clear hO hK hP;intro v S5 w4 _ hlf hP hk hK hO
     replace hlf:=hlf (asks_regR _ _ ht1)
     replace bn:=bn.keep hk;replace bt:=bt.keep hk;clear hk
     by_cases hv:v=0
     · rw [if_pos hv] at hO
       subst hv
       have hf:R (.returned (encU ())) w4:=hO.done hP hK
       clear hO hP hK bn bt;go_wp2_with fail
       first | exact hf | (refine bodyPost_ret (results_none rfl _ _ _) rfl ?_;exact hf)
     · rw [if_neg hv] at hO
       have hv2:(v==0)=false:=by rw [beq_eq_false_iff_ne];exact hv
       have c_bt:=bt.cells;have hOh:=Hd hO;clear hv hO;go_wp2_with fail
       replace hO:=hOh.out;clear hOh c_bt
       refine tstepL hO hK (reg_read_p B p S5 rt me _ hP hrt ⟨hm0,hm3⟩) (fun _ h=>⟨rfl,h⟩) ?_
       clear hO hK hP;intro y0 S6 w5 hlf2 _ hP hk hK hO;replace bn:=bn.keep hk;replace bt:=bt.keep hk;clear hk
       by_cases hy:y0=1
       · rw [if_pos hy] at hO
         have hy2:(y0 != 1)=false:=by simpa using hy
         have c_bn:=bn.cells;have hOh:=Hd hO;clear hy hO;go_wp2_with fail
         refine (cells_pm q0 me _ hq0 ht1 ⟨hm0,by omega⟩).mono ?_
         rintro e w6 ⟨cc,rfl,hcc,hx⟩
         replace bn:=bn.ext hx hP.lt;replace bt:=bt.ext hx hP.lt;replace hK:=hK.trans (Keep.of_ext hx hP.lt hP.le);replace hP:=hP.ext hx;clear hx c_bn
         have hlw2:=Hd hP.left
         go_wp2_with fail
         refine⟨⟨n,S6,hP,hK,bn,bt,hOh,by omega⟩,?_⟩
         rw [hlw.out,hlw2.out]
         omega
       · rw [if_neg hy] at hO
         have hy2:(y0 != 1)=true:=by simpa using hy
         have hf:R (.returned (encU ())) w5:=hO.done hP hK
         clear hO hP hK bn bt hy;go_wp2_with fail
         first | exact hf | (refine bodyPost_ret (results_none rfl _ _ _) rfl ?_;exact hf)
set_option maxRecDepth 100000 in
theorem arbn_leave_p0 (B p:Nat)(S:TS)(q0 q1 rt:Reg)(side me:Int)(b c k:Nat)(rs:List Reg)(w:World)(h:Plays B w p S)(hl:RegsAt [2,3,4] w p b rs)(hi:rs[k]?=some q0/\rs[k+1]?=some q1/\rs[k+2]?=some rt)(hq:q0.ok)
  (hm0:0<=me)(hm1:me<q0.n)(hs:bitM side=0) :
  Calls Tryz.prog 237 #[.pointer (some ⟨p,0,none⟩),.slice (some ⟨b,k*7,none⟩) 3 c,V Z side,V Z me] w (Post encU B p w ((regW q0 me 0).run S)):=by
 generalize hR:Post encU B p w ((regW q0 me 0).run S)=R
 have hO:Owes R encU B p w ((regW q0 me 0).run S):=hR▸owes _ _ _ _ _
 clear hR;replace hi:=Hd hi
 have hK:=Keep.refl [2,3,4] B p w
 have hP:=h;clear h
 have hb:=abit_p side
 rw [hs] at hb;clear hs
 have hS:∀ w',RegsAt [2,3,4] w' p b rs->((w'.cell? ⟨b,k*7,none⟩=some (V Z q0.kind)/\w'.cell? ⟨b,k*7+1,none⟩=some (V Z q0.base)/\w'.cell? ⟨b,k*7+2,none⟩=some (V Z q0.loc)/\w'.cell? ⟨b,k*7+3,none⟩=some (V Z q0.n)/\w'.cell? ⟨b,k*7+4,none⟩=some (V Z q0.wr)/\w'.cell? ⟨b,k*7+5,none⟩=some (V Z q0.rd)/\w'.cell? ⟨b,k*7+6,none⟩=some (V Z q0.top))/\(w'.cell? ⟨b,k*7+7,none⟩=some (V Z q1.kind)/\w'.cell? ⟨b,k*7+7+1,none⟩=some (V Z q1.base)/\w'.cell? ⟨b,k*7+7+2,none⟩=some (V Z q1.loc)/\w'.cell? ⟨b,k*7+7+3,none⟩=some (V Z q1.n)/\w'.cell? ⟨b,k*7+7+4,none⟩=some (V Z q1.wr)/\w'.cell? ⟨b,k*7+7+5,none⟩=some (V Z q1.rd)/\w'.cell? ⟨b,k*7+7+6,none⟩=some (V Z q1.top))/\(w'.cell? ⟨b,k*7+14,none⟩=some (V Z rt.kind)/\w'.cell? ⟨b,k*7+14+1,none⟩=some (V Z rt.base)/\w'.cell? ⟨b,k*7+14+2,none⟩=some (V Z rt.loc)/\w'.cell? ⟨b,k*7+14+3,none⟩=some (V Z rt.n)/\w'.cell? ⟨b,k*7+14+4,none⟩=some (V Z rt.wr)/\w'.cell? ⟨b,k*7+14+5,none⟩=some (V Z rt.rd)/\w'.cell? ⟨b,k*7+14+6,none⟩=some (V Z rt.top))):=fun w' y=>by
  obtain⟨⟨a0,a1,a2,a3,a4,a5,a6⟩,⟨e0,e1,e2,e3,e4,e5,e6⟩,⟨f0,f1,f2,f3,f4,f5,f6⟩⟩:=y.node3 hi.out
  exact⟨⟨a0,a1,a2,a3,a4,a5,a6⟩,⟨e0,e1,e2,e3,e4,e5,e6⟩,⟨f0,f1,f2,f3,f4,f5,f6⟩⟩
 go_enter Tryz.func237,Tryz.ntmps237
 go_wp2_with fail
 have hOh:=Hd hO
 have hbh:=Hd hb
 clear hO hb
 have hl2:=hl.extL (Ext.refl w).drew hP.lt
 obtain⟨⟨a0,a1,a2,a3,a4,a5,a6⟩,⟨e0,e1,e2,e3,e4,e5,e6⟩,⟨f0,f1,f2,f3,f4,f5,f6⟩⟩:=hl.node3 hi.out
 go_region_held2 (fun w'=>((w'.cell? ⟨b,k*7,none⟩=some (V Z q0.kind)/\w'.cell? ⟨b,k*7+1,none⟩=some (V Z q0.base)/\w'.cell? ⟨b,k*7+2,none⟩=some (V Z q0.loc)/\w'.cell? ⟨b,k*7+3,none⟩=some (V Z q0.n)/\w'.cell? ⟨b,k*7+4,none⟩=some (V Z q0.wr)/\w'.cell? ⟨b,k*7+5,none⟩=some (V Z q0.rd)/\w'.cell? ⟨b,k*7+6,none⟩=some (V Z q0.top))/\(w'.cell? ⟨b,k*7+7,none⟩=some (V Z q1.kind)/\w'.cell? ⟨b,k*7+7+1,none⟩=some (V Z q1.base)/\w'.cell? ⟨b,k*7+7+2,none⟩=some (V Z q1.loc)/\w'.cell? ⟨b,k*7+7+3,none⟩=some (V Z q1.n)/\w'.cell? ⟨b,k*7+7+4,none⟩=some (V Z q1.wr)/\w'.cell? ⟨b,k*7+7+5,none⟩=some (V Z q1.rd)/\w'.cell? ⟨b,k*7+7+6,none⟩=some (V Z q1.top))/\(w'.cell? ⟨b,k*7+14,none⟩=some (V Z rt.kind)/\w'.cell? ⟨b,k*7+14+1,none⟩=some (V Z rt.base)/\w'.cell? ⟨b,k*7+14+2,none⟩=some (V Z rt.loc)/\w'.cell? ⟨b,k*7+14+3,none⟩=some (V Z rt.n)/\w'.cell? ⟨b,k*7+14+4,none⟩=some (V Z rt.wr)/\w'.cell? ⟨b,k*7+14+5,none⟩=some (V Z rt.rd)/\w'.cell? ⟨b,k*7+14+6,none⟩=some (V Z rt.top)))) (first | with_reducible exact hS _ hl2 | go_keep) (fail)
 rename_i hh
 clear hh
 have bx:=(hP.held (.cells #[V Z q0.kind,V Z q0.base,V Z q0.loc,V Z q0.n,V Z q0.wr,V Z q0.rd,V Z q0.top,V Z q1.kind,V Z q1.base,V Z q1.loc,V Z q1.n,V Z q1.wr,V Z q1.rd,V Z q1.top] 211)).drew
 replace hK:=(hK.trans (Keep.alloc (.cells #[V Z q0.kind,V Z q0.base,V Z q0.loc,V Z q0.n,V Z q0.wr,V Z q0.rd,V Z q0.top,V Z q1.kind,V Z q1.base,V Z q1.loc,V Z q1.n,V Z q1.wr,V Z q1.rd,V Z q1.top] 211) hP.lt hP.le)).drew
 replace hP:=(hP.alloc (.cells #[V Z q0.kind,V Z q0.base,V Z q0.loc,V Z q0.n,V Z q0.wr,V Z q0.rd,V Z q0.top,V Z q1.kind,V Z q1.base,V Z q1.loc,V Z q1.n,V Z q1.wr,V Z q1.rd,V Z q1.top] 211)).drew
 clear hS hl2 hl a0 a1 a2 a3 a4 a5 a6 e0 e1 e2 e3 e4 e5 e6 f0 f1 f2 f3 f4 f5 f6;have c_bx:=bx.cells;go_wp2_with fail
 refine (hbh.out _).mono ?_
 rintro e w' ⟨rfl,rfl⟩;go_wp2_with fail
 replace hO:=hOh.out;clear hOh c_bx bx
 refine tlast hO hK (reg_write_p B p S q0 me 0 _ hP hq ⟨hm0,hm1⟩) (fun _ h=>⟨rfl,h⟩) ?_
 clear hO hK hP;intro u S2 w3 hr hP hk hK hO
 have hf:=hO.done hP hK
 clear hO hP hK hr hk;go_wp2_with fail
 first | exact hf | (refine bodyPost_ret (results_none rfl _ _ _) rfl ?_;exact hf)
set_option maxRecDepth 100000 in
theorem arbn_leave_p1 (B p:Nat)(S:TS)(q0 q1 rt:Reg)(side me:Int)(b c k:Nat)(rs:List Reg)(w:World)(h:Plays B w p S)(hl:RegsAt [2,3,4] w p b rs)(hi:rs[k]?=some q0/\rs[k+1]?=some q1/\rs[k+2]?=some rt)(hq:q1.ok)
  (hm0:0<=me)(hm1:me<q1.n)(hs:bitM side=1) :
  Calls Tryz.prog 237 #[.pointer (some ⟨p,0,none⟩),.slice (some ⟨b,k*7,none⟩) 3 c,V Z side,V Z me] w (Post encU B p w ((regW q1 me 0).run S)):=by
 generalize hR:Post encU B p w ((regW q1 me 0).run S)=R
 have hO:Owes R encU B p w ((regW q1 me 0).run S):=hR▸owes _ _ _ _ _
 clear hR;replace hi:=Hd hi
 have hK:=Keep.refl [2,3,4] B p w
 have hP:=h;clear h
 have hb:=abit_p side
 rw [hs] at hb;clear hs
 have hS:∀ w',RegsAt [2,3,4] w' p b rs->((w'.cell? ⟨b,k*7,none⟩=some (V Z q0.kind)/\w'.cell? ⟨b,k*7+1,none⟩=some (V Z q0.base)/\w'.cell? ⟨b,k*7+2,none⟩=some (V Z q0.loc)/\w'.cell? ⟨b,k*7+3,none⟩=some (V Z q0.n)/\w'.cell? ⟨b,k*7+4,none⟩=some (V Z q0.wr)/\w'.cell? ⟨b,k*7+5,none⟩=some (V Z q0.rd)/\w'.cell? ⟨b,k*7+6,none⟩=some (V Z q0.top))/\(w'.cell? ⟨b,k*7+7,none⟩=some (V Z q1.kind)/\w'.cell? ⟨b,k*7+7+1,none⟩=some (V Z q1.base)/\w'.cell? ⟨b,k*7+7+2,none⟩=some (V Z q1.loc)/\w'.cell? ⟨b,k*7+7+3,none⟩=some (V Z q1.n)/\w'.cell? ⟨b,k*7+7+4,none⟩=some (V Z q1.wr)/\w'.cell? ⟨b,k*7+7+5,none⟩=some (V Z q1.rd)/\w'.cell? ⟨b,k*7+7+6,none⟩=some (V Z q1.top))/\(w'.cell? ⟨b,k*7+14,none⟩=some (V Z rt.kind)/\w'.cell? ⟨b,k*7+14+1,none⟩=some (V Z rt.base)/\w'.cell? ⟨b,k*7+14+2,none⟩=some (V Z rt.loc)/\w'.cell? ⟨b,k*7+14+3,none⟩=some (V Z rt.n)/\w'.cell? ⟨b,k*7+14+4,none⟩=some (V Z rt.wr)/\w'.cell? ⟨b,k*7+14+5,none⟩=some (V Z rt.rd)/\w'.cell? ⟨b,k*7+14+6,none⟩=some (V Z rt.top))):=fun w' y=>by
  obtain⟨⟨a0,a1,a2,a3,a4,a5,a6⟩,⟨e0,e1,e2,e3,e4,e5,e6⟩,⟨f0,f1,f2,f3,f4,f5,f6⟩⟩:=y.node3 hi.out
  exact⟨⟨a0,a1,a2,a3,a4,a5,a6⟩,⟨e0,e1,e2,e3,e4,e5,e6⟩,⟨f0,f1,f2,f3,f4,f5,f6⟩⟩
 go_enter Tryz.func237,Tryz.ntmps237
 go_wp2_with fail
 have hOh:=Hd hO
 have hbh:=Hd hb
 clear hO hb
 have hl2:=hl.extL (Ext.refl w).drew hP.lt
 obtain⟨⟨a0,a1,a2,a3,a4,a5,a6⟩,⟨e0,e1,e2,e3,e4,e5,e6⟩,⟨f0,f1,f2,f3,f4,f5,f6⟩⟩:=hl.node3 hi.out
 go_region_held2 (fun w'=>((w'.cell? ⟨b,k*7,none⟩=some (V Z q0.kind)/\w'.cell? ⟨b,k*7+1,none⟩=some (V Z q0.base)/\w'.cell? ⟨b,k*7+2,none⟩=some (V Z q0.loc)/\w'.cell? ⟨b,k*7+3,none⟩=some (V Z q0.n)/\w'.cell? ⟨b,k*7+4,none⟩=some (V Z q0.wr)/\w'.cell? ⟨b,k*7+5,none⟩=some (V Z q0.rd)/\w'.cell? ⟨b,k*7+6,none⟩=some (V Z q0.top))/\(w'.cell? ⟨b,k*7+7,none⟩=some (V Z q1.kind)/\w'.cell? ⟨b,k*7+7+1,none⟩=some (V Z q1.base)/\w'.cell? ⟨b,k*7+7+2,none⟩=some (V Z q1.loc)/\w'.cell? ⟨b,k*7+7+3,none⟩=some (V Z q1.n)/\w'.cell? ⟨b,k*7+7+4,none⟩=some (V Z q1.wr)/\w'.cell? ⟨b,k*7+7+5,none⟩=some (V Z q1.rd)/\w'.cell? ⟨b,k*7+7+6,none⟩=some (V Z q1.top))/\(w'.cell? ⟨b,k*7+14,none⟩=some (V Z rt.kind)/\w'.cell? ⟨b,k*7+14+1,none⟩=some (V Z rt.base)/\w'.cell? ⟨b,k*7+14+2,none⟩=some (V Z rt.loc)/\w'.cell? ⟨b,k*7+14+3,none⟩=some (V Z rt.n)/\w'.cell? ⟨b,k*7+14+4,none⟩=some (V Z rt.wr)/\w'.cell? ⟨b,k*7+14+5,none⟩=some (V Z rt.rd)/\w'.cell? ⟨b,k*7+14+6,none⟩=some (V Z rt.top)))) (first | with_reducible exact hS _ hl2 | go_keep) (fail)
 rename_i hh
 clear hh
 have bx:=(hP.held (.cells #[V Z q0.kind,V Z q0.base,V Z q0.loc,V Z q0.n,V Z q0.wr,V Z q0.rd,V Z q0.top,V Z q1.kind,V Z q1.base,V Z q1.loc,V Z q1.n,V Z q1.wr,V Z q1.rd,V Z q1.top] 211)).drew
 replace hK:=(hK.trans (Keep.alloc (.cells #[V Z q0.kind,V Z q0.base,V Z q0.loc,V Z q0.n,V Z q0.wr,V Z q0.rd,V Z q0.top,V Z q1.kind,V Z q1.base,V Z q1.loc,V Z q1.n,V Z q1.wr,V Z q1.rd,V Z q1.top] 211) hP.lt hP.le)).drew
 replace hP:=(hP.alloc (.cells #[V Z q0.kind,V Z q0.base,V Z q0.loc,V Z q0.n,V Z q0.wr,V Z q0.rd,V Z q0.top,V Z q1.kind,V Z q1.base,V Z q1.loc,V Z q1.n,V Z q1.wr,V Z q1.rd,V Z q1.top] 211)).drew
 clear hS hl2 hl a0 a1 a2 a3 a4 a5 a6 e0 e1 e2 e3 e4 e5 e6 f0 f1 f2 f3 f4 f5 f6;have c_bx:=bx.cells;go_wp2_with fail
 refine (hbh.out _).mono ?_
 rintro e w' ⟨rfl,rfl⟩;go_wp2_with fail
 replace hO:=hOh.out;clear hOh c_bx bx
 refine tlast hO hK (reg_write_p B p S q1 me 0 _ hP hq ⟨hm0,hm1⟩) (fun _ h=>⟨rfl,h⟩) ?_
 clear hO hK hP;intro u S2 w3 hr hP hk hK hO
 have hf:=hO.done hP hK
 clear hO hP hK hr hk;go_wp2_with fail
 first | exact hf | (refine bodyPost_ret (results_none rfl _ _ _) rfl ?_;exact hf)
theorem arbn_enter_p (B p N:Nat)(S:TS)(q0 q1 rt:Reg)(side me:Int)(b c k:Nat)(rs:List Reg)(w:World)(h:Plays B w p S)(hl:RegsAt [2,3,4] w p b rs)(hi:rs[k]?=some q0/\rs[k+1]?=some q1/\rs[k+2]?=some rt)(hq0:q0.ok)(hq1:q1.ok)(hrt:rt.ok)
  (hm0:0<=me)(hm1:me<q0.n)(hm2:me<q1.n)(hm3:me<rt.n)(ht0:q0.told me)(ht1:q1.told me)(hN:S.left<N) :
  Calls Tryz.prog 236 #[.pointer (some ⟨p,0,none⟩),.slice (some ⟨b,k*7,none⟩) 3 c,V Z side,V Z me] w (Post encU B p w ((arbM N q0 q1 rt side me).run S)):=by
 unfold arbM
 rcases bitM_or side with hs | hs
 · rw [if_neg (by omega)]
   exact arbn_enter_p0 B p N S q0 q1 rt side me b c k rs w h hl hi hq0 hq1 hrt hm0 hm1 hm2 hm3 ht1 hN hs
 · rw [if_pos hs]
   exact arbn_enter_p1 B p N S q0 q1 rt side me b c k rs w h hl hi hq0 hq1 hrt hm0 hm1 hm2 hm3 ht0 hN hs
theorem arbn_leave_p (B p:Nat)(S:TS)(q0 q1 rt:Reg)(side me:Int)(b c k:Nat)(rs:List Reg)(w:World)(h:Plays B w p S)(hl:RegsAt [2,3,4] w p b rs)(hi:rs[k]?=some q0/\rs[k+1]?=some q1/\rs[k+2]?=some rt)(hq0:q0.ok)(hq1:q1.ok)
  (hm0:0<=me)(hm1:me<q0.n)(hm2:me<q1.n) :
  Calls Tryz.prog 237 #[.pointer (some ⟨p,0,none⟩),.slice (some ⟨b,k*7,none⟩) 3 c,V Z side,V Z me] w (Post encU B p w ((kesL q0 q1 side me).run S)):=by
 unfold kesL
 rcases bitM_or side with hs | hs
 · rw [hs,if_neg (by omega)]
   exact arbn_leave_p0 B p S q0 q1 rt side me b c k rs w h hl hi hq0 hm0 hm1 hs
 · rw [hs,if_pos rfl]
   exact arbn_leave_p1 B p S q0 q1 rt side me b c k rs w h hl hi hq1 hm0 hm2 hs
theorem RegsAt.node4r {ix:List Nat}{p b k:Nat}{w:World}{rs:List Reg}{x y z u:Reg}(h:RegsAt ix w p b rs)(hi:rs[k]?=some x/\rs[k+1]?=some y/\rs[k+2]?=some z/\rs[k+3]?=some u) :
  RegCells w b (k*7) x/\RegCells w b (k*7+7) y/\RegCells w b (k*7+14) z/\RegCells w b (k*7+21) u:=by
 have h1:=h.nth hi.2.1
 have h2:=h.nth hi.2.2.1
 have h3:=h.nth hi.2.2.2
 rw [show (k+1)*7=k*7+7 from by omega] at h1
 rw [show (k+2)*7=k*7+14 from by omega] at h2
 rw [show (k+3)*7=k*7+21 from by omega] at h3
 exact⟨h.nth hi.1,h1,h2,h3⟩
theorem RegsAt.node4 {ix:List Nat}{p b k:Nat}{w:World}{rs:List Reg}{x y z u:Reg}(h:RegsAt ix w p b rs)(hi:rs[k]?=some x/\rs[k+1]?=some y/\rs[k+2]?=some z/\rs[k+3]?=some u) :
  RegCells w b (k*7) x/\RegCells w b (k*7+7) y/\RegCells w b (k*7+14) z/\RegCells w b (k*7+14+7) u:=by
 obtain⟨h0,h1,h2,h3⟩:=h.node4r hi
 rw [show k*7+21=k*7+14+7 from by omega] at h3
 exact⟨h0,h1,h2,h3⟩
set_option maxRecDepth 100000 in
set_option maxHeartbeats 1000000 in
theorem kesn_enter_p0 (B p N:Nat)(S:TS)(q0 q1 r0 r1:Reg)(side me:Int)(b c k:Nat)(rs:List Reg)(w:World)(h:Plays B w p S)(hl:RegsAt [2,3,4] w p b rs)(hi:rs[k]?=some q0/\rs[k+1]?=some q1/\rs[k+2]?=some r0/\rs[k+3]?=some r1)(hq0:q0.ok)(hq1:q1.ok)(hr0:r0.ok)(hr1:r1.ok)
  (hm0:0<=me)(hm1:me<q0.n)(hm2:me<q1.n)(hm3:me<r0.n)(hm4:me<r1.n)(ht1:q1.told me)(_ht2:r1.told me)(hN:S.left<N)(hs:bitM side=0)(hc4:4<=c)(hc5:c<=9223372036854775807) :
  Calls Tryz.prog 233 #[.pointer (some ⟨p,0,none⟩),.slice (some ⟨b,k*7,none⟩) 4 c,V Z side,V Z me] w (Post encU B p w ((kesEnter N q0 q1 r0 r1 0 me).run S)):=by
 generalize hR:Post encU B p w ((kesEnter N q0 q1 r0 r1 0 me).run S)=R
 have hO:Owes R encU B p w ((kesEnter N q0 q1 r0 r1 0 me).run S):=hR▸owes _ _ _ _ _
 clear hR;replace hi:=Hd hi
 have hmf:∀ (fn:Fn) (first cap:Array Value) (w:World),(Instr.makeFunc fn first cap).run Tryz.prog w=.ok (.func fn first cap) w:=fun _ _ _ _=>rfl
 have hK:=Keep.refl [2,3,4] B p w
 have hP:=h;clear h;unfold kesEnter at hO
 obtain⟨⟨a0,a1,a2,a3,a4,a5,a6⟩,⟨e0,e1,e2,e3,e4,e5,e6⟩,⟨f0,f1,f2,f3,f4,f5,f6⟩,⟨g0,g1,g2,g3,g4,g5,g6⟩⟩:=hl.node4 hi.out
 have hc6:(2:Int)<=(c:Int):=by omega
 have hc7:(4:Int)<=(c:Int):=by omega
 have hb:=kbit_p side w
 rw [hs] at hb;clear hs
 go_enter Tryz.func233,Tryz.ntmps233
 go_wp2_with fail
 refine hb.mono ?_
 rintro e w' ⟨rfl,rfl⟩;clear hb;go_wp2_with fail
 go_quiet (fail)
 have hx:=(Ext.refl w).drewN nq
 replace hl:=hl.extL hx hP.lt;replace hK:=hK.trans (Keep.of_ext hx hP.lt hP.le);replace hP:=hP.ext hx;clear a0 a1 a2 a3 a4 a5 a6 e0 e1 e2 e3 e4 e5 e6 f0 f1 f2 f3 f4 f5 f6 g0 g1 g2 g3 g4 g5 g6 hx
 generalize w.drewN nq=wz at *
 obtain⟨⟨a0,a1,a2,a3,a4,a5,a6⟩,⟨e0,e1,e2,e3,e4,e5,e6⟩,⟨f0,f1,f2,f3,f4,f5,f6⟩,⟨g0,g1,g2,g3,g4,g5,g6⟩⟩:=hl.node4 hi.out
 go_wp2_with fail
 refine tstepL hO hK (reg_write_p B p S q0 me 1 _ hP hq0 ⟨hm0,by omega⟩) (fun _ h=>⟨rfl,h⟩) ?_
 clear hO hK hP;intro u S w1 hlf _ hP hk hK hO;replace hN:=Nat.lt_of_le_of_lt hlf hN;replace hl:=hl.keep hk;clear a0 a1 a2 a3 a4 a5 a6 e0 e1 e2 e3 e4 e5 e6 f0 f1 f2 f3 f4 f5 f6 g0 g1 g2 g3 g4 g5 g6 hk hlf
 obtain⟨⟨a0,a1,a2,a3,a4,a5,a6⟩,⟨e0,e1,e2,e3,e4,e5,e6⟩,⟨f0,f1,f2,f3,f4,f5,f6⟩,⟨g0,g1,g2,g3,g4,g5,g6⟩⟩:=hl.node4 hi.out
 go_wp2_with fail
 refine tstepL hO hK (reg_read_p B p S r1 me _ hP hr1 ⟨hm0,by omega⟩) (fun _ h=>⟨rfl,h⟩) ?_
 clear hO hK hP;intro x S w2 hlf _ hP hk hK hO;replace hN:=Nat.lt_of_le_of_lt hlf hN;replace hl:=hl.keep hk;clear a0 a1 a2 a3 a4 a5 a6 e0 e1 e2 e3 e4 e5 e6 f0 f1 f2 f3 f4 f5 f6 g0 g1 g2 g3 g4 g5 g6 hk hlf
 obtain⟨⟨a0,a1,a2,a3,a4,a5,a6⟩,⟨e0,e1,e2,e3,e4,e5,e6⟩,⟨f0,f1,f2,f3,f4,f5,f6⟩,⟨g0,g1,g2,g3,g4,g5,g6⟩⟩:=hl.node4 hi.out
 go_wp2_with fail
 have hbx:0<=bitM x/\bitM x<=1:=by unfold bitM;split <;> omega
 have hwx:=w64 (1-bitM x) (by omega) (by omega)
 refine (kbit_p x _).mono ?_
 rintro e w' ⟨rfl,rfl⟩;go_wp2_with fail
 have hPo:=hP
 have bT:=hP.held (.cells #[V Z (bitM x)] 3)
 replace hK:=hK.trans (Keep.alloc (.cells #[V Z (bitM x)] 3) hP.lt hP.le)
 replace hP:=hP.alloc (.cells #[V Z (bitM x)] 3)
 have c_bT:=bT.cells
 replace hl:=hl.extL ((Ext.refl _).alloc (.cells #[V Z (bitM x)] 3)) hPo.lt
 clear hPo;clear a0 a1 a2 a3 a4 a5 a6 e0 e1 e2 e3 e4 e5 e6 f0 f1 f2 f3 f4 f5 f6 g0 g1 g2 g3 g4 g5 g6
 rw [show kesT 0 x=(bitM x) from rfl] at hO
 replace hP:=hP.drew;replace hK:=hK.drew;replace bT:=bT.drew
 replace hl:=hl.extL (Ext.refl _).drew hP.lt
 have hS:∀ w',RegsAt [2,3,4] w' p b rs->HeldP w' p w2.heap.size (.cells #[V Z (bitM x)] 3)->(w'.cell? ⟨b,k*7+14,none⟩=some (V Z r0.kind)/\w'.cell? ⟨b,k*7+14+1,none⟩=some (V Z r0.base)/\w'.cell? ⟨b,k*7+14+2,none⟩=some (V Z r0.loc)/\w'.cell? ⟨b,k*7+14+3,none⟩=some (V Z r0.n)/\w'.cell? ⟨b,k*7+14+4,none⟩=some (V Z r0.wr)/\w'.cell? ⟨b,k*7+14+5,none⟩=some (V Z r0.rd)/\w'.cell? ⟨b,k*7+14+6,none⟩=some (V Z r0.top))/\(∀ i,w'.cell? ⟨w2.heap.size,i,none⟩=(#[V Z (bitM x)]:Array Value)[i]?):=fun w' h1 h2=>by
  obtain⟨y0,y1,y2,y3,y4,y5,y6⟩:=(h1.node4 hi.out).2.2.1
  exact⟨⟨y0,y1,y2,y3,y4,y5,y6⟩,h2.cells⟩
 go_region_held2 (fun w'=>(w'.cell? ⟨b,k*7+14,none⟩=some (V Z r0.kind)/\w'.cell? ⟨b,k*7+14+1,none⟩=some (V Z r0.base)/\w'.cell? ⟨b,k*7+14+2,none⟩=some (V Z r0.loc)/\w'.cell? ⟨b,k*7+14+3,none⟩=some (V Z r0.n)/\w'.cell? ⟨b,k*7+14+4,none⟩=some (V Z r0.wr)/\w'.cell? ⟨b,k*7+14+5,none⟩=some (V Z r0.rd)/\w'.cell? ⟨b,k*7+14+6,none⟩=some (V Z r0.top))/\(∀ i,w'.cell? ⟨w2.heap.size,i,none⟩=(#[V Z (bitM x)]:Array Value)[i]?)) (exact hS _ hl bT)
  (first
    | (go_at_call 229
       refine tstepL hO hK (reg_write_p B p S r0 me (bitM x) _ hP hr0 ⟨hm0,by omega⟩) (fun _ h=>⟨rfl,h⟩) ?_
       clear hO hK hP;intro u S w3 hlf _ hP hk hK hO;replace hN:=Nat.lt_of_le_of_lt hlf hN;replace hl:=hl.keep hk;replace bT:=bT.keep hk
       clear hk hlf))
 rename_i hh
 clear hh c_bT
 generalize htx:(bitM x)=t at *
 go_wp2_with fail
 go_loopw [] (fun wr=>∃ (n:Nat) (S1:TS),Plays B wr p S1/\KeepP B p w wr/\HeldP wr p w2.heap.size (.cells #[V Z t] 3)/\RegsAt [2,3,4] wr p b rs/\Hid (Owes R encU B p w ((kesSpin q1 r1 0 t me n).run S1))/\S1.left<n) (fun wr=>leftW 1 3 wr p)
 case atStart=>exact⟨N,S,hP,hK,bT,hl,hO,hN⟩
 case round =>
  clear hS hP hK bT hl hO hN
  obtain⟨n,S1,hP,hK,bT,hl,hO,hN⟩:=hrel
  have hO:=hO.out
  have hlw:=Hd hP.left
  cases n with
  | zero=>omega
  | succ n =>
    unfold kesSpin at hO
    obtain⟨⟨a0,a1,a2,a3,a4,a5,a6⟩,⟨e0,e1,e2,e3,e4,e5,e6⟩,⟨f0,f1,f2,f3,f4,f5,f6⟩,⟨g0,g1,g2,g3,g4,g5,g6⟩⟩:=hl.node4 hi.out
    go_wp2_with fail
    refine tstepL hO hK (reg_read_p B p S1 q1 me _ hP hq1 ⟨hm0,by omega⟩) (fun _ h=>⟨rfl,h⟩) ?_
    clear hO hK hP;intro v S2 w4 _ hlf hP hk hK hO
    replace hlf:=hlf (asks_regR _ _ ht1)
    replace hl:=hl.keep hk;replace bT:=bT.keep hk;clear a0 a1 a2 a3 a4 a5 a6 e0 e1 e2 e3 e4 e5 e6 f0 f1 f2 f3 f4 f5 f6 g0 g1 g2 g3 g4 g5 g6 hk
    by_cases hv:v=0
    · rw [if_pos hv] at hO
      subst hv
      have hf:R (.returned (encU ())) w4:=hO.done hP hK
      clear hO hP hK hl bT;go_wp2_with fail
      first | exact hf | (refine bodyPost_ret (results_none rfl _ _ _) rfl ?_;exact hf)
    · rw [if_neg hv] at hO
      have hv2:(v==0)=false:=by rw [beq_eq_false_iff_ne];exact hv
      obtain⟨⟨a0,a1,a2,a3,a4,a5,a6⟩,⟨e0,e1,e2,e3,e4,e5,e6⟩,⟨f0,f1,f2,f3,f4,f5,f6⟩,⟨g0,g1,g2,g3,g4,g5,g6⟩⟩:=hl.node4 hi.out
      clear hv;go_wp2_with fail
      refine tstepL hO hK (reg_read_p B p S2 r1 me _ hP hr1 ⟨hm0,by omega⟩) (fun _ h=>⟨rfl,h⟩) ?_
      clear hO hK hP;intro y S3 w5 hlf2 _ hP hk hK hO;replace hl:=hl.keep hk;replace bT:=bT.keep hk;clear a0 a1 a2 a3 a4 a5 a6 e0 e1 e2 e3 e4 e5 e6 f0 f1 f2 f3 f4 f5 f6 g0 g1 g2 g3 g4 g5 g6 hk;have c_bT:=bT.cells;go_wp2_with fail
      refine (kbit_p y _).mono ?_
      rintro e w' ⟨rfl,rfl⟩;go_wp2_with fail
      refine (kfree0_p (bitM y) t _ _ (c_bT 0)).mono ?_
      rintro e w' ⟨rfl,rfl⟩
      by_cases hy:kesFree 0 t y=true
      · rw [if_pos hy] at hO
        have hy2:(bitM y != t)=true:=by unfold kesFree at hy;simpa using hy
        have hf:R (.returned (encU ())) w5:=hO.done hP hK
        clear hO hP hK hl bT hy;go_wp2_with fail
        first | exact hf | (refine bodyPost_ret (results_none rfl _ _ _) rfl ?_;exact hf)
      · rw [if_neg hy] at hO
        have hy2:(bitM y != t)=false:=by unfold kesFree at hy;simpa using hy
        obtain⟨⟨a0,a1,a2,a3,a4,a5,a6⟩,⟨e0,e1,e2,e3,e4,e5,e6⟩,⟨f0,f1,f2,f3,f4,f5,f6⟩,⟨g0,g1,g2,g3,g4,g5,g6⟩⟩:=hl.node4 hi.out
        clear hy c_bT;go_wp2_with fail
        refine (cells_pm q1 me _ hq1 ht1 ⟨hm0,by omega⟩).mono ?_
        rintro e w6 ⟨cc,rfl,hcc,hx⟩
        replace hl:=hl.extL hx hP.lt;replace bT:=bT.ext hx hP.lt;replace hK:=hK.trans (Keep.of_ext hx hP.lt hP.le);replace hP:=hP.ext hx;clear a0 a1 a2 a3 a4 a5 a6 e0 e1 e2 e3 e4 e5 e6 f0 f1 f2 f3 f4 f5 f6 g0 g1 g2 g3 g4 g5 g6 hx
        have hlw2:=Hd hP.left
        have hOh:=Hd hO;clear hO;go_wp2_with fail
        refine⟨⟨n,S3,hP,hK,bT,hl,hOh,by omega⟩,?_⟩
        rw [hlw.out,hlw2.out]
        omega
set_option maxRecDepth 100000 in
set_option maxHeartbeats 1000000 in
theorem kesn_enter_p1 (B p N:Nat)(S:TS)(q0 q1 r0 r1:Reg)(side me:Int)(b c k:Nat)(rs:List Reg)(w:World)(h:Plays B w p S)(hl:RegsAt [2,3,4] w p b rs)(hi:rs[k]?=some q0/\rs[k+1]?=some q1/\rs[k+2]?=some r0/\rs[k+3]?=some r1)(hq0:q0.ok)(hq1:q1.ok)(hr0:r0.ok)(hr1:r1.ok)
  (hm0:0<=me)(hm1:me<q0.n)(hm2:me<q1.n)(hm3:me<r0.n)(hm4:me<r1.n)(ht1:q0.told me)(_ht2:r0.told me)(hN:S.left<N)(hs:bitM side=1)(hc4:4<=c)(hc5:c<=9223372036854775807) :
  Calls Tryz.prog 233 #[.pointer (some ⟨p,0,none⟩),.slice (some ⟨b,k*7,none⟩) 4 c,V Z side,V Z me] w (Post encU B p w ((kesEnter N q1 q0 r1 r0 1 me).run S)):=by
 generalize hR:Post encU B p w ((kesEnter N q1 q0 r1 r0 1 me).run S)=R
 have hO:Owes R encU B p w ((kesEnter N q1 q0 r1 r0 1 me).run S):=hR▸owes _ _ _ _ _
 clear hR;replace hi:=Hd hi
 have hmf:∀ (fn:Fn) (first cap:Array Value) (w:World),(Instr.makeFunc fn first cap).run Tryz.prog w=.ok (.func fn first cap) w:=fun _ _ _ _=>rfl
 have hK:=Keep.refl [2,3,4] B p w
 have hP:=h;clear h;unfold kesEnter at hO
 obtain⟨⟨a0,a1,a2,a3,a4,a5,a6⟩,⟨e0,e1,e2,e3,e4,e5,e6⟩,⟨f0,f1,f2,f3,f4,f5,f6⟩,⟨g0,g1,g2,g3,g4,g5,g6⟩⟩:=hl.node4 hi.out
 have hc6:(2:Int)<=(c:Int):=by omega
 have hc7:(4:Int)<=(c:Int):=by omega
 have hb:=kbit_p side w
 rw [hs] at hb;clear hs
 go_enter Tryz.func233,Tryz.ntmps233
 go_wp2_with fail
 refine hb.mono ?_
 rintro e w' ⟨rfl,rfl⟩;clear hb;go_wp2_with fail
 go_quiet (fail)
 have hx:=(Ext.refl w).drewN nq
 replace hl:=hl.extL hx hP.lt;replace hK:=hK.trans (Keep.of_ext hx hP.lt hP.le);replace hP:=hP.ext hx;clear a0 a1 a2 a3 a4 a5 a6 e0 e1 e2 e3 e4 e5 e6 f0 f1 f2 f3 f4 f5 f6 g0 g1 g2 g3 g4 g5 g6 hx
 generalize w.drewN nq=wz at *
 obtain⟨⟨a0,a1,a2,a3,a4,a5,a6⟩,⟨e0,e1,e2,e3,e4,e5,e6⟩,⟨f0,f1,f2,f3,f4,f5,f6⟩,⟨g0,g1,g2,g3,g4,g5,g6⟩⟩:=hl.node4 hi.out
 go_wp2_with fail
 refine tstepL hO hK (reg_write_p B p S q1 me 1 _ hP hq1 ⟨hm0,by omega⟩) (fun _ h=>⟨rfl,h⟩) ?_
 clear hO hK hP;intro u S w1 hlf _ hP hk hK hO;replace hN:=Nat.lt_of_le_of_lt hlf hN;replace hl:=hl.keep hk;clear a0 a1 a2 a3 a4 a5 a6 e0 e1 e2 e3 e4 e5 e6 f0 f1 f2 f3 f4 f5 f6 g0 g1 g2 g3 g4 g5 g6 hk hlf
 obtain⟨⟨a0,a1,a2,a3,a4,a5,a6⟩,⟨e0,e1,e2,e3,e4,e5,e6⟩,⟨f0,f1,f2,f3,f4,f5,f6⟩,⟨g0,g1,g2,g3,g4,g5,g6⟩⟩:=hl.node4 hi.out
 go_wp2_with fail
 refine tstepL hO hK (reg_read_p B p S r0 me _ hP hr0 ⟨hm0,by omega⟩) (fun _ h=>⟨rfl,h⟩) ?_
 clear hO hK hP;intro x S w2 hlf _ hP hk hK hO;replace hN:=Nat.lt_of_le_of_lt hlf hN;replace hl:=hl.keep hk;clear a0 a1 a2 a3 a4 a5 a6 e0 e1 e2 e3 e4 e5 e6 f0 f1 f2 f3 f4 f5 f6 g0 g1 g2 g3 g4 g5 g6 hk hlf
 obtain⟨⟨a0,a1,a2,a3,a4,a5,a6⟩,⟨e0,e1,e2,e3,e4,e5,e6⟩,⟨f0,f1,f2,f3,f4,f5,f6⟩,⟨g0,g1,g2,g3,g4,g5,g6⟩⟩:=hl.node4 hi.out
 go_wp2_with fail
 have hbx:0<=bitM x/\bitM x<=1:=by unfold bitM;split <;> omega
 have hwx:=w64 (1-bitM x) (by omega) (by omega)
 refine (kbit_p x _).mono ?_
 rintro e w' ⟨rfl,rfl⟩;go_wp2_with fail
 have hPo:=hP
 have bT:=hP.held (.cells #[V Z (1-bitM x)] 3)
 replace hK:=hK.trans (Keep.alloc (.cells #[V Z (1-bitM x)] 3) hP.lt hP.le)
 replace hP:=hP.alloc (.cells #[V Z (1-bitM x)] 3)
 have c_bT:=bT.cells
 replace hl:=hl.extL ((Ext.refl _).alloc (.cells #[V Z (1-bitM x)] 3)) hPo.lt
 clear hPo;clear a0 a1 a2 a3 a4 a5 a6 e0 e1 e2 e3 e4 e5 e6 f0 f1 f2 f3 f4 f5 f6 g0 g1 g2 g3 g4 g5 g6
 rw [show kesT 1 x=(1-bitM x) from rfl] at hO
 replace hP:=hP.drew;replace hK:=hK.drew;replace bT:=bT.drew
 replace hl:=hl.extL (Ext.refl _).drew hP.lt
 have hS:∀ w',RegsAt [2,3,4] w' p b rs->HeldP w' p w2.heap.size (.cells #[V Z (1-bitM x)] 3)->(w'.cell? ⟨b,k*7+14+7,none⟩=some (V Z r1.kind)/\w'.cell? ⟨b,k*7+14+7+1,none⟩=some (V Z r1.base)/\w'.cell? ⟨b,k*7+14+7+2,none⟩=some (V Z r1.loc)/\w'.cell? ⟨b,k*7+14+7+3,none⟩=some (V Z r1.n)/\w'.cell? ⟨b,k*7+14+7+4,none⟩=some (V Z r1.wr)/\w'.cell? ⟨b,k*7+14+7+5,none⟩=some (V Z r1.rd)/\w'.cell? ⟨b,k*7+14+7+6,none⟩=some (V Z r1.top))/\(∀ i,w'.cell? ⟨w2.heap.size,i,none⟩=(#[V Z (1-bitM x)]:Array Value)[i]?):=fun w' h1 h2=>by
  obtain⟨y0,y1,y2,y3,y4,y5,y6⟩:=(h1.node4 hi.out).2.2.2
  exact⟨⟨y0,y1,y2,y3,y4,y5,y6⟩,h2.cells⟩
 go_region_held2 (fun w'=>(w'.cell? ⟨b,k*7+14+7,none⟩=some (V Z r1.kind)/\w'.cell? ⟨b,k*7+14+7+1,none⟩=some (V Z r1.base)/\w'.cell? ⟨b,k*7+14+7+2,none⟩=some (V Z r1.loc)/\w'.cell? ⟨b,k*7+14+7+3,none⟩=some (V Z r1.n)/\w'.cell? ⟨b,k*7+14+7+4,none⟩=some (V Z r1.wr)/\w'.cell? ⟨b,k*7+14+7+5,none⟩=some (V Z r1.rd)/\w'.cell? ⟨b,k*7+14+7+6,none⟩=some (V Z r1.top))/\(∀ i,w'.cell? ⟨w2.heap.size,i,none⟩=(#[V Z (1-bitM x)]:Array Value)[i]?)) (exact hS _ hl bT)
  (first
    | (go_at_call 229
       refine tstepL hO hK (reg_write_p B p S r1 me (1-bitM x) _ hP hr1 ⟨hm0,by omega⟩) (fun _ h=>⟨rfl,h⟩) ?_
       clear hO hK hP;intro u S w3 hlf _ hP hk hK hO;replace hN:=Nat.lt_of_le_of_lt hlf hN;replace hl:=hl.keep hk;replace bT:=bT.keep hk
       clear hk hlf))
 rename_i hh
 clear hh c_bT
 generalize htx:(1-bitM x)=t at *
 go_wp2_with fail
 go_loopw [] (fun wr=>∃ (n:Nat) (S1:TS),Plays B wr p S1/\KeepP B p w wr/\HeldP wr p w2.heap.size (.cells #[V Z t] 3)/\RegsAt [2,3,4] wr p b rs/\Hid (Owes R encU B p w ((kesSpin q0 r0 1 t me n).run S1))/\S1.left<n) (fun wr=>leftW 1 3 wr p)
 case atStart=>exact⟨N,S,hP,hK,bT,hl,hO,hN⟩
 case round =>
  clear hS hP hK bT hl hO hN
  obtain⟨n,S1,hP,hK,bT,hl,hO,hN⟩:=hrel
  have hO:=hO.out
  have hlw:=Hd hP.left
  cases n with
  | zero=>omega
  | succ n =>
    unfold kesSpin at hO
    obtain⟨⟨a0,a1,a2,a3,a4,a5,a6⟩,⟨e0,e1,e2,e3,e4,e5,e6⟩,⟨f0,f1,f2,f3,f4,f5,f6⟩,⟨g0,g1,g2,g3,g4,g5,g6⟩⟩:=hl.node4 hi.out
    go_wp2_with fail
    refine tstepL hO hK (reg_read_p B p S1 q0 me _ hP hq0 ⟨hm0,by omega⟩) (fun _ h=>⟨rfl,h⟩) ?_
    clear hO hK hP;intro v S2 w4 _ hlf hP hk hK hO
    replace hlf:=hlf (asks_regR _ _ ht1)
    replace hl:=hl.keep hk;replace bT:=bT.keep hk;clear a0 a1 a2 a3 a4 a5 a6 e0 e1 e2 e3 e4 e5 e6 f0 f1 f2 f3 f4 f5 f6 g0 g1 g2 g3 g4 g5 g6 hk
    by_cases hv:v=0
    · rw [if_pos hv] at hO
      subst hv
      have hf:R (.returned (encU ())) w4:=hO.done hP hK
      clear hO hP hK hl bT;go_wp2_with fail
      first | exact hf | (refine bodyPost_ret (results_none rfl _ _ _) rfl ?_;exact hf)
    · rw [if_neg hv] at hO
      have hv2:(v==0)=false:=by rw [beq_eq_false_iff_ne];exact hv
      obtain⟨⟨a0,a1,a2,a3,a4,a5,a6⟩,⟨e0,e1,e2,e3,e4,e5,e6⟩,⟨f0,f1,f2,f3,f4,f5,f6⟩,⟨g0,g1,g2,g3,g4,g5,g6⟩⟩:=hl.node4 hi.out
      clear hv;go_wp2_with fail
      refine tstepL hO hK (reg_read_p B p S2 r0 me _ hP hr0 ⟨hm0,by omega⟩) (fun _ h=>⟨rfl,h⟩) ?_
      clear hO hK hP;intro y S3 w5 hlf2 _ hP hk hK hO;replace hl:=hl.keep hk;replace bT:=bT.keep hk;clear a0 a1 a2 a3 a4 a5 a6 e0 e1 e2 e3 e4 e5 e6 f0 f1 f2 f3 f4 f5 f6 g0 g1 g2 g3 g4 g5 g6 hk;have c_bT:=bT.cells;go_wp2_with fail
      refine (kbit_p y _).mono ?_
      rintro e w' ⟨rfl,rfl⟩;go_wp2_with fail
      refine (kfree1_p (bitM y) t _ _ (c_bT 0)).mono ?_
      rintro e w' ⟨rfl,rfl⟩
      by_cases hy:kesFree 1 t y=true
      · rw [if_pos hy] at hO
        have hy2:(bitM y==t)=true:=by unfold kesFree at hy;simpa using hy
        have hf:R (.returned (encU ())) w5:=hO.done hP hK
        clear hO hP hK hl bT hy;go_wp2_with fail
        first | exact hf | (refine bodyPost_ret (results_none rfl _ _ _) rfl ?_;exact hf)
      · rw [if_neg hy] at hO
        have hy2:(bitM y==t)=false:=by unfold kesFree at hy;simpa using hy
        obtain⟨⟨a0,a1,a2,a3,a4,a5,a6⟩,⟨e0,e1,e2,e3,e4,e5,e6⟩,⟨f0,f1,f2,f3,f4,f5,f6⟩,⟨g0,g1,g2,g3,g4,g5,g6⟩⟩:=hl.node4 hi.out
        clear hy c_bT;go_wp2_with fail
        refine (cells_pm q0 me _ hq0 ht1 ⟨hm0,by omega⟩).mono ?_
        rintro e w6 ⟨cc,rfl,hcc,hx⟩
        replace hl:=hl.extL hx hP.lt;replace bT:=bT.ext hx hP.lt;replace hK:=hK.trans (Keep.of_ext hx hP.lt hP.le);replace hP:=hP.ext hx;clear a0 a1 a2 a3 a4 a5 a6 e0 e1 e2 e3 e4 e5 e6 f0 f1 f2 f3 f4 f5 f6 g0 g1 g2 g3 g4 g5 g6 hx
        have hlw2:=Hd hP.left
        have hOh:=Hd hO;clear hO;go_wp2_with fail
        refine⟨⟨n,S3,hP,hK,bT,hl,hOh,by omega⟩,?_⟩
        rw [hlw.out,hlw2.out]
        omega
theorem kesn_leave_p (B p:Nat)(S:TS)(q0 q1 r0 r1:Reg)(side me:Int)(b c k:Nat)(rs:List Reg)(w:World)(h:Plays B w p S)(hl:RegsAt [2,3,4] w p b rs)(hi:rs[k]?=some q0/\rs[k+1]?=some q1/\rs[k+2]?=some r0/\rs[k+3]?=some r1)(hq0:q0.ok)(hq1:q1.ok)
  (hm0:0<=me)(hm1:me<q0.n)(hm2:me<q1.n) :
  Calls Tryz.prog 234 #[.pointer (some ⟨p,0,none⟩),.slice (some ⟨b,k*7,none⟩) 4 c,V Z side,V Z me] w (Post encU B p w ((regW (if bitM side=1 then q1 else q0) me 0).run S)):=by
 replace hi:=Hd hi
 have hb:=kbit_p' side w
 obtain⟨⟨a0,a1,a2,a3,a4,a5,a6⟩,⟨e0,e1,e2,e3,e4,e5,e6⟩,-,-⟩:=hl.node4 hi.out
 have hs:bitM side=0∨bitM side=1:=by unfold bitM;split <;> simp
 rcases hs with hs | hs
 · rw [hs] at hb ⊢
   rw [if_neg (by omega)]
   generalize hR:Post encU B p w ((regW q0 me 0).run S)=R
   have hO:Owes R encU B p w ((regW q0 me 0).run S):=hR▸owes _ _ _ _ _
   clear hR
   go_enter Tryz.func234,Tryz.ntmps234
   go_wp2_with fail
   refine hb.mono ?_
   rintro e w' ⟨rfl,rfl⟩;go_wp2_with fail
   clear a0 a1 a2 a3 a4 a5 a6 e0 e1 e2 e3 e4 e5 e6 hl hb
   refine tlast hO (Keep.refl _ _ _ _) (reg_write_p B p S q0 me 0 _ h hq0 ⟨hm0,hm1⟩) (fun _ h=>⟨rfl,h⟩) ?_
   intro v S1 w1 hr hP1 hk1 hK1 hO1
   have hf:=hO1.done hP1 hK1
   clear hO1 hP1 hK1 hr hk1 hO h;go_wp2_with fail
   first | exact hf | (refine bodyPost_ret (results_none rfl _ _ _) rfl ?_;exact hf)
 · rw [hs] at hb ⊢
   rw [if_pos rfl]
   generalize hR:Post encU B p w ((regW q1 me 0).run S)=R
   have hO:Owes R encU B p w ((regW q1 me 0).run S):=hR▸owes _ _ _ _ _
   clear hR
   go_enter Tryz.func234,Tryz.ntmps234
   go_wp2_with fail
   refine hb.mono ?_
   rintro e w' ⟨rfl,rfl⟩;go_wp2_with fail
   clear a0 a1 a2 a3 a4 a5 a6 e0 e1 e2 e3 e4 e5 e6 hl hb
   refine tlast hO (Keep.refl _ _ _ _) (reg_write_p B p S q1 me 0 _ h hq1 ⟨hm0,hm2⟩) (fun _ h=>⟨rfl,h⟩) ?_
   intro v S1 w1 hr hP1 hk1 hK1 hO1
   have hf:=hO1.done hP1 hK1
   clear hO1 hP1 hK1 hr hk1 hO h;go_wp2_with fail
   first | exact hf | (refine bodyPost_ret (results_none rfl _ _ _) rfl ?_;exact hf)
theorem kesn_enter_p (B p N:Nat)(S:TS)(q0 q1 r0 r1:Reg)(side me:Int)(b c k:Nat)(rs:List Reg)(w:World)(h:Plays B w p S)(hl:RegsAt [2,3,4] w p b rs)(hi:rs[k]?=some q0/\rs[k+1]?=some q1/\rs[k+2]?=some r0/\rs[k+3]?=some r1)(hq0:q0.ok)(hq1:q1.ok)(hr0:r0.ok)(hr1:r1.ok)
  (hm0:0<=me)(hm1:me<q0.n)(hm2:me<q1.n)(hm3:me<r0.n)(hm4:me<r1.n)(ht1:q0.told me)(ht2:q1.told me)(ht3:r0.told me)(ht4:r1.told me)(hN:S.left<N)(hc4:4<=c)(hc5:c<=9223372036854775807) :
  Calls Tryz.prog 233 #[.pointer (some ⟨p,0,none⟩),.slice (some ⟨b,k*7,none⟩) 4 c,V Z side,V Z me] w (Post encU B p w ((kesM N q0 q1 r0 r1 side me).run S)):=by
 unfold kesM
 rcases bitM_or side with hs | hs
 · rw [if_neg (by omega)]
   exact kesn_enter_p0 B p N S q0 q1 r0 r1 side me b c k rs w h hl hi hq0 hq1 hr0 hr1 hm0 hm1 hm2 hm3 hm4 ht2 ht4 hN hs hc4 hc5
 · rw [if_pos hs]
   exact kesn_enter_p1 B p N S q0 q1 r0 r1 side me b c k rs w h hl hi hq0 hq1 hr0 hr1 hm0 hm1 hm2 hm3 hm4 ht1 ht3 hN hs hc4 hc5
set_option maxRecDepth 100000 in
theorem append_all {ops:Array Oper}{rest:List Oper}{o:Oper}{a:Act}{Q:Exit->Act->World->Prop}{w:World}(hgd:o.guard=none)(s x:Operand)
  (ho:o.op=.call { callee:=.builtin .append,args:=#[s,x],argTypes:=#[25,25] })
  (ad:Addr)(c:Nat)(L:List Int)(hL:Ints w (.slice (some ad) L.length c) L)(hs:a.eval s=.slice (some ⟨w.heap.size,0,none⟩) 0 0)(hx:a.eval x=.slice (some ad) L.length c)
  (hlen:L.length<1000000)
  (h:∀ v' w',IntRow w' w.heap.size v' L->Ext w w'->wpList Tryz.prog ops Q rest (a.put o.dst v') w') :
  wpList Tryz.prog ops Q (o :: rest) a (w.alloc (.cells #[] 3)):=by
 obtain⟨i0,hi,hz0,hz1,hz2⟩:=info_parts info_int
 have hown:(w.alloc (.cells #[] 3)).ownsRow w.heap.size 3 1 (.slice (some ⟨w.heap.size,0,none⟩) 0 0) 0 [] :=
  ⟨rfl,.inr ⟨w.heap.size,0,#[],rfl,Nat.le_refl _,heap_alloc_new _ _,Nat.le_refl _,Nat.zero_le _,rfl,rfl⟩⟩
 refine wpList_append_own_at _ hgd s x 25 ho w.heap.size 3 i0 (V Z 0) 1 8 Tryz.underlying25 hi hz0 hz1 hz2 rfl (by decide) _ 0 [] hs hown ad L.length c (L.map (V Z)) hx (by simp) ?_ (by simp [Value.oneCell']) (by unfold maxLen;omega) (by omega) (by simp) fun v' w' h1 h2 _ _=>?_
 · intro j u hu
   obtain⟨A',c',he,_,_,h3⟩:=hL.ext ((Ext.refl w).alloc (.cells #[] 3))
   rw [List.getElem?_map] at hu
   cases hj:L[j]? with
   | none=>rw [hj] at hu;cases hu
   | some y =>
     rw [hj] at hu
     obtain⟨b,off,rfl,_,hc⟩:=h3 (fun e=>by rw [e] at hj;cases hj)
     injection he with e1 e2 e3
     injection e1 with e1
     subst e1
     rw [Addr.add_lit]
     rw [hc j y hj]
     simpa using hu
 · rw [List.nil_append,Nat.zero_add] at h1
   exact h v' w' h1 (Below.grown ((Ext.refl w).alloc (.cells #[] 3)) h2 (by simp) (fun k hk=>by simp [Value.ownBlock] at hk;omega))
set_option maxRecDepth 100000 in
theorem clone_x (a:Addr)(c:Nat)(L:List Int)(w:World)(h:Ints w (.slice (some a) L.length c) L)(hl:L.length<1000000) :
  Calls Tryz.prog 85 #[.slice (some a) L.length c] w fun e w'=>∃ v',e=.returned v'/\IntRow w' w.heap.size v' L/\Ext w w':=by
 have hcmp:∀ (n:Nat) (w:World),(binOp .eql 25 (.slice (some a) n c) (.slice none 0 0)).run Tryz.prog w=.ok (.bool false) w:=fun _ _=>rfl
 go_enter Tryz.func85,Tryz.ntmps85
 go_wp2_with (at_builtin;refine append_all rfl _ _ rfl a c L h rfl rfl hl ?_)
 intro v' w' h1 h2;go_wp2_with fail
 go_ret
 exact⟨v',rfl,h1,h2⟩
set_option maxRecDepth 100000 in
theorem clone_nil (c:Nat)(w:World):Calls Tryz.prog 85 #[.slice none 0 c] w fun e w'=>e=.returned (.slice none 0 0)/\w=w':=by
 have hcmp:∀ (n:Nat) (w:World),(binOp .eql 25 (.slice none n c) (.slice none 0 0)).run Tryz.prog w=.ok (.bool true) w:=fun _ _=>rfl
 go_enter Tryz.func85,Tryz.ntmps85
 go_wp2_with fail
 go_ret
 exact⟨rfl,rfl⟩
theorem clone_any (A:Option Addr)(c:Nat)(L:List Int)(w:World)(h:Ints w (.slice A L.length c) L)(hl:L.length<1000000) :
  Calls Tryz.prog 85 #[.slice A L.length c] w fun e w'=>∃ v',e=.returned v'/\IntRow w' w.heap.size v' L/\Ext w w':=by
 cases A with
 | some a=>exact clone_x a c L w h hl
 | none =>
   have hL:L=[]:=by
    obtain⟨A',c',he,_,_,h3⟩:=h
    by_cases e:L=[]
    · exact e
    · obtain⟨b,off,rfl,_⟩:=h3 e
      cases he
   subst hL
   refine (clone_nil c w).mono ?_
   rintro e w' ⟨rfl,rfl⟩
   exact⟨_,rfl,IntRow.nil _ _,Ext.refl _⟩
set_option maxRecDepth 100000 in
theorem tshort_p (A:Option Addr)(c:Nat)(L:List Int)(w:World)(h:Ints w (.slice A L.length c) L)(q1:L.length<=c)(_q2:c<=9223372036854775807)(_q3:L.length<1000000) :
  Calls Tryz.prog 87 #[.slice A L.length c] w fun e w'=>∃ v',e=.returned v'/\IntRow w' w.heap.size v' (shortL L)/\Ext w w':=by
 go_enter Tryz.func87,Tryz.ntmps87
 go_wp2_with fail
 go_loopw [3] (fun v wr=>∃ n:Nat,v=V Z n/\n<=L.length/\Hid (shortN L n=shortN L L.length)/\w=wr) (fun v _=>(intOf v).toNat)
 case atStart=>exact⟨L.length,rfl,by omega,rfl,rfl⟩
 case round =>
  obtain⟨n,rfl,hn,hs,rfl⟩:=hrel
  have hlen:∀ m,m<=L.length->(L.take m).length=m:=fun m hm=>by rw [List.length_take];omega
  cases n with
  | zero =>
    have hf:L.take 0=shortL L:=by unfold shortL;rw [<- hs.out];rfl
    have hT:=clone_any A c (L.take 0) w (by have:=h.take 0 (by omega);rw [hlen 0 (by omega)];exact this) (by simp)
    rw [hlen 0 (by omega),hf] at hT
    clear hs h hf hlen;go_wp2_with fail
    refine hT.mono ?_
    rintro e w1 ⟨v',rfl,h1,h2⟩
    go_wp2_with fail
    go_ret
    exact⟨v',rfl,h1,h2⟩
  | succ n =>
    obtain⟨b,off,rfl,hb,hcell⟩:=h.at_ (show n<L.length by omega)
    by_cases e:L.getD n 0=0
    · have hs2:Hid (shortN L n=shortN L L.length):=Hd (by rw [<- hs.out];show _=(if L.getD n 0=0 then shortN L n else n+1);rw [if_pos e])
      rw [e] at hcell;clear hs e h hlen;go_wp2_with fail
      exact⟨⟨n,rfl,by omega,hs2,by trivial⟩,by simp [intOf]⟩
    · have e3:=Hd (show shortN L L.length=n+1 from by rw [<- hs.out];show (if L.getD n 0=0 then shortN L n else n+1)=_;rw [if_neg e])
      have hf:L.take (n+1)=shortL L:=by unfold shortL;rw [e3.out]
      have hT:=clone_any (some ⟨b,off,none⟩) c (L.take (n+1)) w (by have:=h.take (n+1) (by omega);rw [hlen (n+1) (by omega)];exact this) (by rw [hlen (n+1) (by omega)];omega)
      rw [hlen (n+1) (by omega),hf] at hT
      have e2:(L.getD n 0==0)=false:=by rw [beq_eq_false_iff_ne];exact e
      generalize L.getD n 0=E at *
      clear hs e h hf hlen;go_wp2_with fail
      refine hT.mono ?_
      rintro e w1 ⟨v',rfl,h1,h2⟩
      go_wp2_with fail
      go_ret
      exact⟨v',rfl,h1,h2⟩
structure Near (W:World) (b n:Nat) (t:TypeId) (w:World):Prop where
 os:w.os=W.os
 tape:w.tape=W.tape
 output:w.output=W.output
 size:W.heap.size<=w.heap.size
 rest:∀ k,k<W.heap.size->k≠b->w.heap[k]?=W.heap[k]?
 blk:∃ cs,w.heap[b]?=some (.cells cs t (0,0))/\cs.size=n
section
variable {W w w':World} {b n:Nat} {t:TypeId}
theorem Near.new {cs:Array Value}(h:W.heap[b]?=some (.cells cs t (0,0)))(hn:cs.size=n):Near W b n t W:=⟨rfl,rfl,rfl,Nat.le_refl _,fun _ _ _=>rfl,cs,h,hn⟩
theorem Near.ext (h:Near W b n t w)(hx:Ext w w'):Near W b n t w':=by
 obtain⟨cs,h1,h2⟩:=h.blk
 exact⟨hx.os.trans h.os,hx.tape.trans h.tape,hx.output.trans h.output,Nat.le_trans h.size hx.size,fun k hk hb=>(Below.block hx k (Nat.lt_of_lt_of_le hk h.size)).trans (h.rest k hk hb),cs,(Below.block hx b (Array.getElem?_eq_some_iff.1 h1).1).trans h1,h2⟩
theorem Near.drew (h:Near W b n t w):Near W b n t w.drew:=h.ext (Ext.refl w).drew
theorem Near.set (h:Near W b n t w)(i:Nat)(u:Value):Near W b n t (w.setCell ⟨b,i,none⟩ u):=by
 obtain⟨cs,h1,h2⟩:=h.blk
 refine⟨h.os,h.tape,h.output,by have:=h.size;simpa using this,fun k hk hb=>(heap_setCell_ne _ _ hb).trans (h.rest k hk hb),_,heap_setCell h1 u,by simpa using h2⟩
theorem Near.cell (h:Near W b n t w){k i:Nat}(hk:k<W.heap.size)(hb:k≠b):w.cell? ⟨k,i,none⟩=W.cell? ⟨k,i,none⟩:=World.cell?_of_block (w:=W) (a:=⟨k,i,none⟩) (h.rest k hk hb)
theorem Near.frozen (h:Near W b n t w)(i:Nat):w.frozen? ⟨b,i,none⟩=false:=by
 obtain⟨cs,h1,h2⟩:=h.blk
 exact frozen_of_heap h1 i
theorem Near.below {B:Nat}{w0:World}(h:Near W b n t w)(h0:Below B w0 W)(hb:B<=b)(hB:B<=W.heap.size):Below B w0 w :=
 h0.trans ⟨h.os,h.tape,h.output,h.size,fun k hk=>h.rest k (by omega) (by omega)⟩
def cellD (w:World) (b i:Nat):Value:=(w.cell? ⟨b,i,none⟩).getD undef
theorem Near.four (h:Near W b 4 t w):∀ i,w.cell? ⟨b,i,none⟩=(#[cellD w b 0,cellD w b 1,cellD w b 2,cellD w b 3]:Array Value)[i]?:=by
 obtain⟨cs,h1,h2⟩:=h.blk
 intro i
 have e:=cell_of_heap h1
 unfold cellD
 rw [e,e,e,e,e]
 match i with
 | 0=>simp [h2]
 | 1=>simp [h2]
 | 2=>simp [h2]
 | 3=>simp [h2]
 | i+4=>simp [h2]
theorem Near.five (h:Near W b 5 t w):∀ i,w.cell? ⟨b,i,none⟩=(#[cellD w b 0,cellD w b 1,cellD w b 2,cellD w b 3,cellD w b 4]:Array Value)[i]?:=by
 obtain⟨cs,h1,h2⟩:=h.blk
 intro i
 have e:=cell_of_heap h1
 unfold cellD
 rw [e,e,e,e,e,e]
 match i with
 | 0=>simp [h2]
 | 1=>simp [h2]
 | 2=>simp [h2]
 | 3=>simp [h2]
 | 4=>simp [h2]
 | i+5=>simp [h2]
end
def locOf (L:List Int) (i:Nat):Int:=L.getD i 0
def TS0 (L ans:List Int):TS:=⟨ans,[],[],locOf L⟩
@[go_sem] theorem build_out (x:Bool) (A1 A2 A3:Option Addr) (n1 n2 n3 c1 c2 c3:Nat) (w:World):(Instr.build 30 #[(0,.bool x),(1,.slice A1 n1 c1),(2,.slice A2 n2 c2),(3,.slice A3 n3 c3)]).run Tryz.prog w=.ok (.agg #[.bool x,.slice A1 n1 c1,.slice A2 n2 c2,.slice A3 n3 c3]) w:=run_build w 30 _ _ (by kernel_rfl)
@[go_sem] theorem as_stop (v:Value) (w:World):(Instr.typeAssert (.iface 92 v) 20 92 true).run Tryz.prog w=.ok (.tuple #[v,.bool true]) w:=by kernel_rfl
@[go_sem] theorem ne_mem (a:Addr) (w:World):(binOp .neq 33 (.pointer (some a)) (.pointer (some a))).run Tryz.prog w=.ok (.bool false) w:=by
 have hs:(Tryz.prog.info? 90).isSome=true:=by kernel_rfl
 obtain⟨j,hj⟩:=Option.isSome_iff_exists.1 hs
 have h:∀ d:Nat,(Op.equalIn (d+1) 33 (.pointer (some a)) (.pointer (some a))).run Tryz.prog w=.ok true w:=fun d=>by
  simp [Op.equalIn,run_underlying Tryz.underlying33,sizeOf,typeInfo,hj,run_sameAddr_same]
 simp only [binOp]
 simp [Op.equal,Op.maxDepth,h 9999]
section
variable {B p b bo:Nat} {w w' W:World} {S:TS} {st:Int} {vA vL vC vN vs:Value} {L:List Int}
theorem PMem.setO (h:PMem B w p S st vA vL vC vN L)(hn:¬ ownR [2,3,4] w p b)(hb:B<=b)(i:Nat)(u:Value):PMem B (w.setCell ⟨b,i,none⟩ u) p S st vA vL vC vN L:=by
 have hp:p≠b:=fun e=>hn (.inl e.symm)
 refine { h with heap:=(heap_setCell_ne _ _ hp).trans h.heap,ans:=ints_set h.ans _ _ ?_,rowL:=row_set h.rowL ?_,rowC:=row_set h.rowC ?_,rowN:=row_set h.rowN ?_ }
 · intro k hk e
   have:=h.ansB k hk
   simp only at e
   omega
 · exact fun e=>hn (ownR_at (i:=2) h.heap (by simp) rfl e)
 · exact fun e=>hn (ownR_at (i:=3) h.heap (by simp) rfl e)
 · exact fun e=>hn (ownR_at (i:=4) h.heap (by simp) rfl e)
theorem Held.setO {ix:List Nat}{k:Nat}{o:Obj}(h:Held ix w p k o)(hk:k≠b)(hn:¬ ownR ix w p b)(i:Nat)(u:Value):Held ix (w.setCell ⟨b,i,none⟩ u) p k o :=
 ⟨(heap_setCell_ne _ _ hk).trans h.1,fun h'=>h.2 ((ownR_same (heap_setCell_ne _ _ (fun e=>hn (.inl e.symm))) k).1 h')⟩
theorem end_out {d x0:Bool}{x1 x2 x3:Value}(HM:PMem B W p S st vA vL vC vN L)(ho:W.heap[bo]?=some (.cells #[.bool x0,x1,x2,x3] 30 (0,0)))(h2:Ext W w')(h1:IntRow w' W.heap.size vs (shortL L)) :
  ((((w'.setCell ⟨bo,0,none⟩ (.bool d)).setCell ⟨bo,1,none⟩ vC).setCell ⟨bo,2,none⟩ vN).setCell ⟨bo,3,none⟩ vs).heap[bo]?=some (.cells #[.bool d,vC,vN,vs] 30 (0,0)) /\
    Outs ((((w'.setCell ⟨bo,0,none⟩ (.bool d)).setCell ⟨bo,1,none⟩ vC).setCell ⟨bo,2,none⟩ vN).setCell ⟨bo,3,none⟩ vs) (.agg #[.bool d,vC,vN,vs]) d S:=by
 have hlt:=(Array.getElem?_eq_some_iff.1 ho).1
 have e0:=(Below.block h2 bo hlt).trans ho
 have rC:=row_ext HM.rowC h2
 have rN:=row_ext HM.rowN h2
 have nC:=row_not rC e0 (by decide)
 have nN:=row_not rN e0 (by decide)
 have hv:∀ k,vs.ownBlock=some k->k≠bo:=fun k hk=>by have:=(h1.lt k hk).1;omega
 have e4:=heap_setCell (i:=3) (heap_setCell (i:=2) (heap_setCell (i:=1) (heap_setCell (i:=0) e0 (.bool d)) vC) vN) vs
 refine⟨e4,outs_of (L:=L) (row_set (row_set (row_set (row_set rC nC) nC) nC) nC) (row_set (row_set (row_set (row_set rN nN) nN) nN) nN) (ints_set (ints_set (ints_set (ints_set h1.ints _ _ hv) _ _ hv) _ _ hv) _ _ hv) HM.loc HM.locN⟩
end
theorem row_base {w:World}{B B' e size n:Nat}{v:Value}{xs:List Value}(h:w.ownsRow B' e size v n xs)(hB:B<=B'):w.ownsRow B e size v n xs:=by
 obtain⟨h1,h2⟩:=h
 rcases h2 with h2 | ⟨g,cap,cur,rfl,hg,r⟩
 · exact⟨h1,.inl h2⟩
 · exact⟨h1,.inr ⟨g,cap,cur,rfl,Nat.le_trans hB hg,r⟩⟩
theorem four_boxes (w:World)(o1 o2 o3 o4:Obj):Ext w ((((w.alloc o1).alloc o2).alloc o3).alloc o4)/\((((w.alloc o1).alloc o2).alloc o3).alloc o4).heap[w.heap.size]?=some o1/\((((w.alloc o1).alloc o2).alloc o3).alloc o4).heap[w.heap.size+1]?=some o2 /\
  ((((w.alloc o1).alloc o2).alloc o3).alloc o4).heap[w.heap.size+1+1]?=some o3/\((((w.alloc o1).alloc o2).alloc o3).alloc o4).heap[w.heap.size+1+1+1]?=some o4:=by
 refine⟨((((Ext.refl w).alloc o1).alloc o2).alloc o3).alloc o4,?_,?_,?_,?_⟩
 · exact (Below.block ((((Ext.refl (w.alloc o1)).alloc o2).alloc o3).alloc o4) _ (by simp)).trans (heap_alloc_new w o1)
 · have:=heap_alloc_new (w.alloc o1) o2
   rw [World.size_alloc] at this
   exact (Below.block (((Ext.refl ((w.alloc o1).alloc o2)).alloc o3).alloc o4) _ (by simp)).trans this
 · have:=heap_alloc_new ((w.alloc o1).alloc o2) o3
   rw [World.size_alloc,World.size_alloc] at this
   exact (Below.block ((Ext.refl (((w.alloc o1).alloc o2).alloc o3)).alloc o4) _ (by simp)).trans this
 · have:=heap_alloc_new (((w.alloc o1).alloc o2).alloc o3) o4
   rw [World.size_alloc,World.size_alloc,World.size_alloc] at this
   exact this
structure SameW (w w':World):Prop where
 os:w'.os=w.os
 tape:w'.tape=w.tape
 output:w'.output=w.output
 size:w'.heap.size=w.heap.size
 blocks:∀ k:Nat,w'.heap[k]?=w.heap[k]?
theorem SameW.drew (w:World):SameW w w.drew:=⟨rfl,rfl,rfl,rfl,fun _=>rfl⟩
theorem SameW.drew2 {w w':World}(h:SameW w w'):SameW w w'.drew:=⟨h.os,h.tape,h.output,h.size,h.blocks⟩
theorem SameW.refl (w:World):SameW w w:=⟨rfl,rfl,rfl,rfl,fun _=>rfl⟩
theorem SameW.ext {w w':World}(h:SameW w w'):Ext w w':=⟨h.os,h.tape,h.output,Nat.le_of_eq h.size.symm,fun k _=>h.blocks k⟩
theorem SameW.set {w w':World}{b:Nat}{cs:Array Value}{t:TypeId}(h:SameW w w')(g:w.heap[b]?=some (.cells cs t (0,0))){i:Nat}{v:Value}(hv:cs[i]?=some v):SameW w (w'.setCell ⟨b,i,none⟩ v):=by
 refine⟨h.os,h.tape,h.output,by rw [<- h.size];simp,fun k=>?_⟩
 by_cases e:k=b
 · subst e
   rw [heap_setCell ((h.blocks k).trans g) v,g]
   congr 2
   apply Array.ext_getElem?
   intro j
   rw [Array.getElem?_setIfInBounds]
   split
   · rename_i e
     subst e
     rw [hv]
     split
     · rfl
     · rename_i h2
       rw [Array.getElem?_eq_none (by omega)] at hv
       cases hv
   · rfl
 · rw [heap_setCell_ne _ _ e]
   exact h.blocks k
theorem play_start {w W w':World}{p:Nat}{Aa:Option Addr}{ca:Nat}{ans L:List Int}{v':Value}(hx:Ext w W)(hp:w.heap.size<=p)(g:W.heap[p]?=some (.cells #[V Z 1,.slice Aa ans.length ca,.slice none 0 0,.slice none 0 0,.slice none 0 0] 90 (0,0)))
  (h2:Ext W w')(h1:IntRow w' W.heap.size v' L)(hl:L.length<=32768)(ha:Ints w (.slice Aa ans.length ca) ans)(hn:ans.length<=maxAns)(hb:∀ b,(Value.slice Aa ans.length ca).ownBlock=some b->b<w.heap.size) :
  Plays w.heap.size (w'.setCell ⟨p,2,none⟩ v') p (TS0 L ans)/\(∀ b o,W.heap[b]?=some o->b≠p->HeldP (w'.setCell ⟨p,2,none⟩ v') p b o)/\Ext w (w'.setCell ⟨p,2,none⟩ v'):=by
 have hlt:=(Array.getElem?_eq_some_iff.1 g).1
 have g':=heap_setCell (i:=2) ((Below.block h2 p hlt).trans g) v'
 have hv:∀ k,v'.ownBlock=some k->W.heap.size<=k:=fun k hk=>(h1.lt k hk).1
 have ha':=(ha.ext hx).ext h2
 refine⟨⟨Nat.zero_le _,.slice Aa ans.length ca,v',.slice none 0 0,.slice none 0 0,L,{ ge:=hp,heap:=g',ans:=ints_set ha' _ _ ?_,ansB:=hb,rowL:=row_base (row_set h1 ?_) hx.size,rowC:=World.ownsRow_nil _ _ _ _,rowN:=World.ownsRow_nil _ _ _ _,loc:=fun _=>rfl,locN:=hl,accN:=Nat.zero_le _,ansN:=hn,ntsN:=Nat.zero_le _ }⟩,?_,(hx.trans h2).setCell hp _⟩
 · intro k hk e
   have:=hb k hk
   simp only at e
   omega
 · intro e
   have:=hv p e
   omega
 · intro b o hb ho
   have hbl:=(Array.getElem?_eq_some_iff.1 hb).1
   refine⟨(heap_setCell_ne _ _ ho).trans ((Below.block h2 b hbl).trans hb),fun h'=>?_⟩
   rcases h' with e | ⟨i,hi,v,hv1,hv2⟩
   · exact ho e
   · rw [cell_of_heap g'] at hv1
     simp only [List.mem_cons,List.not_mem_nil,or_false] at hi
     rcases hi with rfl | rfl | rfl
     · obtain rfl:v'=v:=by simpa using hv1
       have:=hv b hv2
       omega
     · obtain rfl:Value.slice none 0 0=v:=by simpa using hv1
       simp [Value.ownBlock] at hv2
     · obtain rfl:Value.slice none 0 0=v:=by simpa using hv1
       simp [Value.ownBlock] at hv2
end Go.Proofs.YtbaajjkopdjbgaaGreat
namespace Go.Proofs.YtbaajjkopdjbgaaGreat
open Go.RowKit Go.WideShapes Go.ChangeShapes
section
variable {H:Type} {enc:TypeId × Value->H} {P:Program}
theorem post_of_below {f:Func}{s:ChangeSpec}{apart fresh handsOn again:Bool}{W W':World}{args:Array Value}{v:Value}{ds gs:List (DataW H)}{before pa pv:List MemPlace}
  (hW:DataW.Whole enc P f.params.toList s.vars apart W args.toList ds gs before)
  (hres:∀ (b:Nat) (sp:Nat->Bool) (hd:Bool),DataW.TrodAll enc P W' b sp hd f.resultTypes.toList (v.resultList f.resultTypes.size) (s.fn H (ds++gs)).results [])
  (hargs:∀ sp:Nat->Bool,(∀ p∈before,sp p.block=true)->DataW.TrodAll enc P W' 0 sp true f.params.toList args.toList (s.fn H (ds++gs)).args pa)
  (hvars:∀ sp:Nat->Bool,(∀ p∈before,sp p.block=true)->DataW.TrodVars enc P W' sp s.vars (s.fn H (ds++gs)).vars pv)
  (hps:before=pa++pv)(hb:Below W.heap.size W W')
  (hok:∀ (j:Nat) (t:TypeId) (r:Value),f.resultTypes[j]?=some t->(v.resultList f.resultTypes.size)[j]?=some r->Value.okWide P W' .any 0 t r) :
  s.post enc P f apart fresh handsOn again W args v W':=by
 have hlt:∀ p∈before,p.block<W.heap.size:=fun p hp=>hW.lt p hp
 have hold:∀ p∈before,(fun b=>decide (b<W.heap.size)) p.block=true:=fun p hp=>by simpa using hlt p hp
 refine⟨ds,gs,before,[],pa,pv,hW,hres _ _ _,hargs _ hold,hvars _ hold,World.keptBut_mono (fun p hp=>⟨hp,?_⟩) (hb.frame (·∈before)),fun _=>?_⟩
 · rw [hps,List.mem_append] at hp
   exact Or.inr hp
 · obtain⟨_,_,_,_,_,hz,hn⟩:=hW
   refine⟨hok,_,_,([]++pa)++pv,⟨[]++pa,pv,trodAll_append (hargs _ (fun _ _=>rfl)) (hres _ _ _),hvars _ (fun _ _=>rfl),rfl,?_,?_⟩,?_⟩
   · intro b off hp
     have hin:MemPlace.cell b off∈before:=by rw [hps];simpa using hp
     rw [hb.frozen (hlt _ hin)]
     exact hz b off hin
   · intro ha
     have:=hn ha
     rw [hps] at this
     simpa using this
   · intro p hp _
     rw [hps]
     simpa using hp
end
section
variable {H:Type} {enc:TypeId × Value->H} {P:Program}
theorem trodAll_stays (hl:laidOutB P=true):∀ (ts:List TypeId),(∀ t∈ts,P.readableRec t=true/\t<P.types.size)->∀ {W W':World} {sp:Nat->Bool} {vs:List Value} {ds:List (DataW H)} {ps:List MemPlace},
  DataW.TrodAll enc P W 0 (fun _=>true) true ts vs ds ps->(∀ p∈ps,W.sameAt W' p)->(∀ p∈ps,sp p.block=true)->DataW.TrodAll enc P W' 0 sp true ts vs ds ps
 | [],_,W,W',sp,vs,ds,ps,h,_,_=>by
   cases vs <;> cases ds <;> simp_all [DataW.TrodAll]
 | t :: ts,ht,W,W',sp,vs,ds,ps,h,hs,hsp=>by
   obtain⟨v,vs',d,ds',p,q,rfl,rfl,rfl,hp,hq⟩:=trodAll_cons h
   have h1:=ht t (by simp)
   refine trodAll_cons_mk (WideElems.Trod_stays hl h1.1 h1.2 hp (fun x hx=>hs x (by simp [hx])) (fun x hx=>hsp x (by simp [hx]))) ?_
   exact trodAll_stays hl ts (fun t' h'=>ht t' (by simp [h'])) hq (fun x hx=>hs x (by simp [hx])) (fun x hx=>hsp x (by simp [hx]))
theorem trodAll_length:∀ (ts:List TypeId) {W:World} {b:Nat} {sp:Nat->Bool} {held:Bool} {vs:List Value} {ds:List (DataW H)} {ps:List MemPlace},DataW.TrodAll enc P W b sp held ts vs ds ps->ds.length=ts.length
 | [],W,b,sp,held,vs,ds,ps,h=>by cases vs <;> cases ds <;> simp_all [DataW.TrodAll]
 | t :: ts,W,b,sp,held,vs,ds,ps,h=>by
   obtain⟨v,vs',d,ds',p,q,rfl,rfl,rfl,hp,hq⟩:=trodAll_cons h
   simp [trodAll_length ts hq]
theorem law_post {f:Func}{s:ChangeSpec}{W W':World}{args:Array Value}{ds gs:List (DataW H)}{before:List MemPlace}{tb:TypeId}
  (hl:laidOutB P=true)(hr:∀ t∈f.params.toList,P.readableRec t=true/\t<P.types.size)(hres:f.resultTypes=#[tb])(htb:P.underlying tb=some .bool)
  (hvars:s.vars=[])(hspec:∀ ds:List (DataW H),ds.length=f.params.size->s.fn H ds={ results:=[.lit (.bool true)],args:=ds })
  (hW:DataW.Whole enc P f.params.toList s.vars false W args.toList ds gs before)(hx:Ext W W') :
  s.post enc P f false true false false W args (.bool true) W':=by
 have hWlt:∀ p∈before,p.block<W.heap.size:=fun p hp=>hW.lt p hp
 obtain⟨p,q,hA,hV,hpq,hfz,hnd⟩:=hW
 rw [hvars] at hV
 have hgs:gs=[]/\q=[]:=trodVars_none hV
 obtain⟨rfl,rfl⟩:=hgs
 have hlen:=trodAll_length _ hA
 have hsp:=hspec ds (by rw [hlen];simp)
 have hb:before=p:=by rw [hpq];simp
 subst hb
 have hn:f.resultTypes.size=1:=by rw [hres];rfl
 have hlo:(Value.bool true).resultList f.resultTypes.size=[Value.bool true]:=by rw [hn];rfl
 have e0:ds++([]:List (DataW H))=ds:=List.append_nil _
 refine post_of_below (pa:=before) (pv:=[]) (ds:=ds) (gs:=[]) ⟨before,[],hA,by rw [hvars];exact hV,hpq,hfz,hnd⟩ ?_ ?_ ?_ hpq hx ?_
 · intro b sp hd
   rw [e0,hsp,hlo,hres]
   exact trodAll_cons_mk (shut_bool htb _) trodAll_mk0
 · intro sp hsp'
   rw [e0,hsp]
   exact trodAll_stays hl _ hr hA (fun p hp=>Below.same hx (hWlt p hp)) hsp'
 · intro sp _
   rw [e0,hsp,hvars]
   rfl
 · intro j t r ht hr'
   rw [hres] at ht
   rw [hlo] at hr'
   cases j with
   | zero =>
     obtain rfl:tb=t:=by simpa using ht
     obtain rfl:Value.bool true=r:=by simpa using hr'
     exact okWide_bool_mk htb _
   | succ j=>simp at ht
end
end Go.Proofs.YtbaajjkopdjbgaaGreat
namespace Go.Proofs.YtbaajjkopdjbgaaGreat
open Go.ChangeShapes Go.WideShapes Go.ChangeAt Go.RowKit Kv
theorem cell_lt {w:World}{a:Addr}{v:Value}(h:w.cell? a=some v):a.block<w.heap.size:=by
 rcases Nat.lt_or_ge a.block w.heap.size with hlt | hge
 · exact hlt
 · simp [World.cell?,Array.getElem?_eq_none hge] at h
end Go.Proofs.YtbaajjkopdjbgaaGreat
namespace Go.Proofs.YtbaajjkopdjbgaaGreat
theorem own:ownKnob Tryz.prog.godebug=none:=by kernel_rfl
end Go.Proofs.YtbaajjkopdjbgaaGreat
namespace Go.Proofs.YtbaajjkopdjbgaaGreat
open Go.RowKit Kv
theorem ints_new (w:World)(l:List Int)(h:l.length<=9223372036854775807):Ints (w.alloc (.cells (l.map (V Z)).toArray 3)) (.slice (some ⟨w.heap.size,0,none⟩) l.length l.length) l:=by
 refine⟨_,_,rfl,Nat.le_refl _,h,fun _=>⟨w.heap.size,0,rfl,by simp,fun i x hi=>?_⟩⟩
 have hh:=World.alloc_heap_new w (.cells (l.map (V Z)).toArray 3)
 simp only [World.cell?,hh,Nat.zero_add]
 simp [hi]
theorem kwants_p (w:World):Calls Tryz.prog 232 #[] w fun e w'=>∃ v,e=.returned v/\WantsAt w' v (List.replicate 4 ⟨-1,1⟩)/\Ext w w':=by
 go_enter Tryz.func232,Tryz.ntmps232
 go_wp2_with fail
 go_loopw [1,2] (fun v i wr=>∃ j:Nat,i=V Z j/\j<=4/\wr.ownsRow w.heap.size 179 2 v j ((List.replicate j (⟨-1,1⟩:Want)).flatMap wantVals)/\Ext w wr) (fun _ i _=>4-(intOf i).toNat)
 case atStart=>exact⟨0,rfl,by omega,World.ownsRow_nil _ _ _ _,Ext.refl _⟩
 case round =>
  obtain⟨j,rfl,hj,hown,hE⟩:=hrel
  by_cases hl:j<4
  · go_wp2_with (at_builtin;refine append_rec info_want Tryz.underlying102 rfl (by decide) (by decide) rfl _ _ rfl _ j _ [V Z (-1),V Z 1] hE hown rfl rfl rfl (by simp [Value.oneCell']) (by omega) ?_)
    intro v' w' ho hx _
    have hoh:=Hd ho
    clear hown ho;go_wp2_with fail
    refine⟨⟨j+1,by go_num,by omega,?_,hx⟩,?_⟩
    · rw [List.replicate_succ',List.flatMap_append];exact hoh.out
    · simp [intOf];omega
  · obtain rfl:j=4:=by omega
    have hownh:=Hd hown
    clear hown;go_wp2_with fail
    go_ret
    exact⟨_,rfl,Recs.of_row hownh.out,hE⟩
end Go.Proofs.YtbaajjkopdjbgaaGreat
namespace Kv
def pathN:Nat->Nat->List Int
 | 0,_=>[]
 | f+1,x=>if x<=1 then [] else (x:Int) :: pathN f (x / 2)
theorem pathN_fuel:∀ (f g x:Nat),x<=f->x<=g->pathN f x=pathN g x
 | 0,0,x,_,_=>rfl
 | 0,g+1,x,h,_=>by unfold pathN;rw [if_pos (by omega)]
 | f+1,0,x,_,h=>by unfold pathN;rw [if_pos (by omega)]
 | f+1,g+1,x,h1,h2=>by
   unfold pathN
   split
   · rfl
   · rw [pathN_fuel f g (x / 2) (by omega) (by omega)]
theorem pathN_cons {x:Nat}(h:1<x):pathN x x=(x:Int) :: pathN (x / 2) (x / 2):=by
 obtain⟨y,rfl⟩:∃ y,x=y+1:=⟨x-1,by omega⟩
 rw [show pathN (y+1) (y+1)=(if y+1<=1 then [] else ((y+1:Nat):Int) :: pathN y ((y+1) / 2)) from rfl,if_neg (by omega),pathN_fuel y ((y+1) / 2) _ (by omega) (by omega)]
theorem pathN_nil {x:Nat}(h:x<=1):pathN x x=[]:=by
 cases x with
 | zero=>rfl
 | succ x=>rw [show pathN (x+1) (x+1)=(if x+1<=1 then [] else ((x+1:Nat):Int) :: pathN x ((x+1) / 2)) from rfl,if_pos h]
theorem pathN_len:∀ (f x:Nat),(pathN f x).length<=f
 | 0,_=>by simp [pathN]
 | f+1,x=>by
   unfold pathN
   split
   · simp
   · have:=pathN_len f (x / 2)
     simp;omega
def pathL (m place:Nat):List Int:=pathN (2 ^ levels m+place) (2 ^ levels m+place)
theorem lev_le {m:Nat}(h:m<=64):levels m<=6:=by
 have:∀ m:Nat,m<65->levels m<=6:=by decide +kernel
 exact this m (by omega)
theorem pow_le {k:Nat}(h:k<=6):1<=2 ^ k/\2 ^ k<=64:=by
 have:∀ k:Nat,k<7->1<=2 ^ k/\2 ^ k<=64:=by decide
 exact this k (by omega)
end Kv
namespace Go.Proofs.YtbaajjkopdjbgaaGreat
open Go.RowKit Kv
set_option maxRecDepth 100000 in
set_option maxHeartbeats 1000000 in
theorem path_p (m place:Nat)(w:World)(h1:1<=m)(h2:m<=64)(h3:place<m) :
  Calls Tryz.prog 172 #[V Z m,V Z place] w fun e w'=>∃ v,e=.returned v/\IntRow w' w.heap.size v (pathL m place)/\Ext w w':=by
 have hlv:=fun w=>levels_p m (by omega) w
 have hle:=lev_le h2
 unfold pathL
 generalize levels m=L at *
 obtain⟨p1,p2⟩:=pow_le hle
 have hPi:(2:Int) ^ L=((2 ^ L:Nat):Int):=by rw [Int.natCast_pow];rfl
 generalize 2 ^ L=P at *
 have hsh:Op.shift .shl .i64 1 .i64 (L:Int)=pure (V Z (P:Int)):=by
  rw [Go.shift_shl_i64 (x:=1) (y:=(L:Int)) (yk:=.i64) (by omega) (by omega),Int.one_mul,Int.toNat_natCast,hPi,IntWalk.i64_in _ (by omega)]
 clear hPi hle
 have d1:decide ((m:Int)<1)=false:=by rw [decide_eq_false_iff_not];omega
 have d2:decide ((64:Int)<(m:Int))=false:=by rw [decide_eq_false_iff_not];omega
 have d3:decide ((place:Int)<0)=false:=by rw [decide_eq_false_iff_not];omega
 have d4:decide (m<=place)=false:=by rw [decide_eq_false_iff_not];omega
 obtain⟨X,hX⟩:∃ X:Nat,P+place=X:=⟨_,rfl⟩
 rw [hX]
 have hw:IntKind.i64.wrap ((P:Int)+(place:Int))=(X:Int):=by rw [IntWalk.i64_in _ (by omega)];omega
 go_enter Tryz.func172,Tryz.ntmps172
 go_wp2_with fail
 refine (hlv _).mono ?_
 rintro e w' ⟨rfl,rfl⟩;go_wp2_with fail
 go_loopw [5,6] (fun v i wr=>∃ (x:Nat) (l:List Int),i=V Z x/\x<=128/\l.length+x<=X/\IntRow wr w.heap.size v l/\Hid (l++pathN x x=pathN X X)/\Ext w wr) (fun _ i _=>(intOf i).toNat)
 case atStart=>exact⟨X,[],rfl,by omega,by simp,IntRow.nil _ _,Hd rfl,Ext.refl w⟩
 case round =>
  obtain⟨x,l,rfl,hx,hln,hown,hpath,hE⟩:=hrel
  by_cases hx1:1<x
  · have e1:decide ((1:Int)<(x:Int))=true:=by rw [decide_eq_true_eq];omega
    go_wp2_with (at_builtin;refine append_int rfl _ _ rfl w.heap.size _ l x hown rfl rfl (by omega) hE.size ?_)
    intro v' w' ho hg
    have hx':=hE.appended hown hg
    have hoh:=Hd ho
    have hp2:Hid ((l++[(x:Int)])++pathN (x / 2) (x / 2)=pathN X X):=Hd (by rw [<- hpath.out,pathN_cons hx1,List.append_assoc];rfl)
    clear hown ho hg hpath hE;go_wp2_with fail
    refine⟨⟨x / 2,l++[(x:Int)],by go_num,by omega,by simp;omega,hoh.out,hp2,hx'⟩,?_⟩
    simp [intOf];omega
  · have e1:decide ((1:Int)<(x:Int))=false:=by rw [decide_eq_false_iff_not];omega
    have hp:=hpath.out
    rw [pathN_nil (by omega),List.append_nil] at hp
    have hf:=Hd hown
    subst hp;clear hown hpath;go_wp2_with fail
    go_ret
    exact⟨_,rfl,hf.out,hE⟩
def fnV (n:Nat):Value:=.func (.func n) #[] #[]
def eachK (kind:Int):Nat:=if kind=7 then 4 else 3
def nodeV (kind:Int):Value:=if kind=7 then .agg #[fnV 232,fnV 233,fnV 234] else .agg #[fnV 235,fnV 236,fnV 237]
set_option maxRecDepth 100000 in
theorem nodeOf_p (kind:Int)(w:World):Calls Tryz.prog 171 #[V Z kind] w fun e w'=>e=.returned (nodeV kind)/\Ext w w':=by
 unfold nodeV
 by_cases h:kind=7
 · have d:(kind==7)=true:=by simpa using h
   rw [if_pos h]
   clear h
   go_enter Tryz.func171,Tryz.ntmps171
   go_wp2_with fail
   refine bodyPost_ret (v:=.agg #[fnV 232,fnV 233,fnV 234]) (by simp [results,Tryz.results171,go_sem,fnV]) rfl ?_
   exact⟨rfl,(Ext.refl w).alloc _⟩
 · have d:(kind==7)=false:=by simpa using h
   rw [if_neg h]
   clear h
   go_enter Tryz.func171,Tryz.ntmps171
   go_wp2_with fail
   refine bodyPost_ret (v:=.agg #[fnV 235,fnV 236,fnV 237]) (by simp [results,Tryz.results171,go_sem,fnV]) rfl ?_
   exact⟨rfl,(Ext.refl w).alloc _⟩
set_option maxRecDepth 100000 in
set_option maxHeartbeats 1000000 in
theorem twants_p7 (kind:Int)(m:Nat)(w:World)(h1:1<=m)(h2:m<=64)(hk:kind=7) :
  Calls Tryz.prog 175 #[V Z kind,V Z m] w fun e w'=>∃ v,e=.returned v/\WantsAt w' v (List.replicate (4*(2 ^ levels m-1)) ⟨-1,1⟩)/\Ext w w':=by
 have hlv:=fun w=>levels_p m (by omega) w
 have hle:=lev_le h2
 generalize levels m=L at *
 obtain⟨p1,p2⟩:=pow_le hle
 have hPi:(2:Int) ^ L=((2 ^ L:Nat):Int):=by rw [Int.natCast_pow];rfl
 generalize 2 ^ L=P at *
 have hsh:Op.shift .shl .i64 1 .i64 (L:Int)=pure (V Z (P:Int)):=by
  rw [Go.shift_shl_i64 (x:=1) (y:=(L:Int)) (yk:=.i64) (by omega) (by omega),Int.one_mul,Int.toNat_natCast,hPi,IntWalk.i64_in _ (by omega)]
 clear hPi hle
 obtain⟨M,rfl⟩:∃ M,P=M+1:=⟨P-1,by omega⟩
 have hw:IntKind.i64.wrap (((M+1:Nat):Int)-1)=(M:Int):=by rw [IntWalk.i64_in _ (by omega)];omega
 rw [Nat.add_sub_cancel]
 generalize hQ:M+1=Q at *
 have hM:M<=63:=by omega
 have d1:decide ((m:Int)<1)=false:=by rw [decide_eq_false_iff_not];omega
 have d2:decide ((64:Int)<(m:Int))=false:=by rw [decide_eq_false_iff_not];omega
 have hn:nodeV kind=.agg #[.func (.func 232) #[] #[],.func (.func 233) #[] #[],.func (.func 234) #[] #[]]:=by unfold nodeV;rw [if_pos hk];rfl
 have hN:=fun w=>nodeOf_p kind w
 rw [hn] at hN
 have hfd:∀ w,(Instr.field 147 (.agg #[.func (.func 232) #[] #[],.func (.func 233) #[] #[],.func (.func 234) #[] #[]]) 0).run Tryz.prog w=.ok (.func (.func 232) #[] #[]) w:=fun w=>by kernel_rfl
 clear hn hk
 go_enter Tryz.func175,Tryz.ntmps175
 go_wp2_with fail
 refine (hlv _).mono ?_
 rintro e w' ⟨rfl,rfl⟩;clear hlv;go_wp2_with fail
 go_loopw [5,16] (fun v i wr=>∃ j:Nat,i=V Z j/\j<=M/\wr.ownsRow w.heap.size 179 2 v (4*j) ((List.replicate (4*j) (⟨-1,1⟩:Want)).flatMap wantVals)/\Ext w wr) (fun _ i _=>M-(intOf i).toNat)
 case atStart=>exact⟨0,rfl,by omega,World.ownsRow_nil _ _ _ _,Ext.refl _⟩
 case round =>
  obtain⟨j,rfl,hj,hown,hX⟩:=hrel
  by_cases hl:j<M
  · go_wp2_with fail
    refine (hN _).mono ?_
    rintro e w2 ⟨rfl,hx2⟩
    replace hown:=row_ext hown hx2;replace hX:=hX.trans hx2;clear hx2;go_wp2_with fail
    refine (kwants_p _).mono ?_
    rintro e w3 ⟨v2,rfl,hr2,hx3⟩
    replace hown:=row_ext hown hx3;replace hX:=hX.trans hx3
    obtain⟨A,c,rfl,r1,r2,hV⟩:=hr2
    obtain⟨b,rfl,hb,hc⟩:=hV (by simp [wantVals,List.replicate])
    rw [List.length_replicate] at *
    clear hV hx3
    go_wp2_with (at_builtin;refine append_recs info_want Tryz.underlying102 rfl (by decide) (by decide) rfl _ _ rfl _ (4*j) _ ((List.replicate 4 (⟨-1,1⟩:Want)).flatMap wantVals) ⟨b,0,none⟩ 4 c hX hown rfl rfl rfl (fun i u hu=>by rw [Addr.add_lit,Nat.zero_add];exact hc i u hu) (fun u hu=>by simp [List.replicate,wantVals] at hu;rcases hu with rfl | rfl | rfl | rfl | rfl | rfl | rfl | rfl <;> rfl) (by omega) (by omega) ?_)
    intro v' w' ho hx'
    have hoh:Hid (w'.ownsRow w.heap.size 179 2 v' (4*(j+1)) ((List.replicate (4*(j+1)) (⟨-1,1⟩:Want)).flatMap wantVals)):=Hd (by
     rw [Nat.mul_succ,<- List.replicate_append_replicate,List.flatMap_append];exact ho)
    clear hown ho hc;go_wp2_with fail
    refine⟨⟨j+1,by go_num,by omega,hoh.out,hx'⟩,?_⟩
    simp [intOf];omega
  · obtain rfl:j=M:=by omega
    have hownh:=Hd hown
    clear hown;go_wp2_with fail
    go_ret
    exact⟨_,rfl,by have:=Recs.of_row hownh.out;unfold WantsAt;rw [List.length_replicate];exact this,hX⟩
set_option maxRecDepth 100000 in
set_option maxHeartbeats 1000000 in
theorem twants_p3 (kind:Int)(m:Nat)(w:World)(h1:1<=m)(h2:m<=64)(hk:kind≠7) :
  Calls Tryz.prog 175 #[V Z kind,V Z m] w fun e w'=>∃ v,e=.returned v/\WantsAt w' v (List.replicate (3*(2 ^ levels m-1)) ⟨-1,1⟩)/\Ext w w':=by
 have hlv:=fun w=>levels_p m (by omega) w
 have hle:=lev_le h2
 generalize levels m=L at *
 obtain⟨p1,p2⟩:=pow_le hle
 have hPi:(2:Int) ^ L=((2 ^ L:Nat):Int):=by rw [Int.natCast_pow];rfl
 generalize 2 ^ L=P at *
 have hsh:Op.shift .shl .i64 1 .i64 (L:Int)=pure (V Z (P:Int)):=by
  rw [Go.shift_shl_i64 (x:=1) (y:=(L:Int)) (yk:=.i64) (by omega) (by omega),Int.one_mul,Int.toNat_natCast,hPi,IntWalk.i64_in _ (by omega)]
 clear hPi hle
 obtain⟨M,rfl⟩:∃ M,P=M+1:=⟨P-1,by omega⟩
 have hw:IntKind.i64.wrap (((M+1:Nat):Int)-1)=(M:Int):=by rw [IntWalk.i64_in _ (by omega)];omega
 rw [Nat.add_sub_cancel]
 generalize hQ:M+1=Q at *
 have hM:M<=63:=by omega
 have d1:decide ((m:Int)<1)=false:=by rw [decide_eq_false_iff_not];omega
 have d2:decide ((64:Int)<(m:Int))=false:=by rw [decide_eq_false_iff_not];omega
 have hn:nodeV kind=.agg #[.func (.func 235) #[] #[],.func (.func 236) #[] #[],.func (.func 237) #[] #[]]:=by unfold nodeV;rw [if_neg hk];rfl
 have hN:=fun w=>nodeOf_p kind w
 rw [hn] at hN
 have hfd:∀ w,(Instr.field 147 (.agg #[.func (.func 235) #[] #[],.func (.func 236) #[] #[],.func (.func 237) #[] #[]]) 0).run Tryz.prog w=.ok (.func (.func 235) #[] #[]) w:=fun w=>by kernel_rfl
 clear hn hk
 go_enter Tryz.func175,Tryz.ntmps175
 go_wp2_with fail
 refine (hlv _).mono ?_
 rintro e w' ⟨rfl,rfl⟩;clear hlv;go_wp2_with fail
 go_loopw [5,16] (fun v i wr=>∃ j:Nat,i=V Z j/\j<=M/\wr.ownsRow w.heap.size 179 2 v (3*j) ((List.replicate (3*j) (⟨-1,1⟩:Want)).flatMap wantVals)/\Ext w wr) (fun _ i _=>M-(intOf i).toNat)
 case atStart=>exact⟨0,rfl,by omega,World.ownsRow_nil _ _ _ _,Ext.refl _⟩
 case round =>
  obtain⟨j,rfl,hj,hown,hX⟩:=hrel
  by_cases hl:j<M
  · go_wp2_with fail
    refine (hN _).mono ?_
    rintro e w2 ⟨rfl,hx2⟩
    replace hown:=row_ext hown hx2;replace hX:=hX.trans hx2;clear hx2;go_wp2_with fail
    refine (awants_p _).mono ?_
    rintro e w3 ⟨v2,rfl,hr2,hx3⟩
    replace hown:=row_ext hown hx3;replace hX:=hX.trans hx3
    obtain⟨A,c,rfl,r1,r2,hV⟩:=hr2
    obtain⟨b,rfl,hb,hc⟩:=hV (by simp [wantVals,List.replicate])
    rw [List.length_replicate] at *
    clear hV hx3
    go_wp2_with (at_builtin;refine append_recs info_want Tryz.underlying102 rfl (by decide) (by decide) rfl _ _ rfl _ (3*j) _ ((List.replicate 3 (⟨-1,1⟩:Want)).flatMap wantVals) ⟨b,0,none⟩ 3 c hX hown rfl rfl rfl (fun i u hu=>by rw [Addr.add_lit,Nat.zero_add];exact hc i u hu) (fun u hu=>by simp [List.replicate,wantVals] at hu;rcases hu with rfl | rfl | rfl | rfl | rfl | rfl | rfl | rfl <;> rfl) (by omega) (by omega) ?_)
    intro v' w' ho hx'
    have hoh:Hid (w'.ownsRow w.heap.size 179 2 v' (3*(j+1)) ((List.replicate (3*(j+1)) (⟨-1,1⟩:Want)).flatMap wantVals)):=Hd (by
     rw [Nat.mul_succ,<- List.replicate_append_replicate,List.flatMap_append];exact ho)
    clear hown ho hc;go_wp2_with fail
    refine⟨⟨j+1,by go_num,by omega,hoh.out,hx'⟩,?_⟩
    simp [intOf];omega
  · obtain rfl:j=M:=by omega
    have hownh:=Hd hown
    clear hown;go_wp2_with fail
    go_ret
    exact⟨_,rfl,by have:=Recs.of_row hownh.out;unfold WantsAt;rw [List.length_replicate];exact this,hX⟩
theorem twants_p (kind:Int)(m:Nat)(w:World)(h1:1<=m)(h2:m<=64) :
  Calls Tryz.prog 175 #[V Z kind,V Z m] w fun e w'=>∃ v,e=.returned v/\WantsAt w' v (List.replicate (eachK kind*(2 ^ levels m-1)) ⟨-1,1⟩)/\Ext w w':=by
 unfold eachK
 by_cases hk:kind=7
 · rw [if_pos hk];exact twants_p7 kind m w h1 h2 hk
 · rw [if_neg hk];exact twants_p3 kind m w h1 h2 hk
set_option maxRecDepth 100000 in
theorem tregs_p7 (b c n:Nat)(len:Nat)(w:World)(h1:1<=n)(h2:n*4<=len)(h3:len<=c)(h4:c<=9223372036854775807)(h5:len<=1000000) :
  Calls Tryz.prog 173 #[.slice (some ⟨b,0,none⟩) len c,.agg #[.func (.func 232) #[] #[],.func (.func 233) #[] #[],.func (.func 234) #[] #[]],V Z n] w fun e w'=>∃ c',e=.returned (.slice (some ⟨b,4*(n-1)*7,none⟩) 4 c')/\4<=c'/\c'<=9223372036854775807/\Ext w w':=by
 obtain⟨k,rfl⟩:∃ k,n=k+1:=⟨n-1,by omega⟩
 rw [Nat.add_sub_cancel]
 have w1:=IntWalk.i64_in (((k+1:Nat):Int)-1) (by omega)
 have w2:=IntWalk.i64_in ((((k+1:Nat):Int)-1)*4) (by omega)
 have w3:=IntWalk.i64_in (((k+1:Nat):Int)*4) (by omega)
 have d1:decide ((len:Int)<((k:Int)+1)*4)=false:=by rw [decide_eq_false_iff_not];omega
 have hX:=Ext.refl w
 have b1:=Blk.new w (.cells #[.func (.func 232) #[] #[],.func (.func 233) #[] #[],.func (.func 234) #[] #[]] 147)
 replace hX:=hX.alloc (.cells #[.func (.func 232) #[] #[],.func (.func 233) #[] #[],.func (.func 234) #[] #[]] 147)
 have c_b1:=b1.cells
 go_enter Tryz.func173,Tryz.ntmps173
 go_wp2_with fail
 refine (kwants_p _).mono ?_
 rintro e w2 ⟨v2,rfl,hr2,hx3⟩
 obtain⟨A,c2,rfl,r1,r2,-⟩:=hr2
 rw [List.length_replicate]
 replace hX:=hX.trans hx3;clear hx3;go_wp2_with fail
 go_ret
 exact⟨c-k*4,by rw [Nat.mul_comm k 4,show (k+1)*4-4*k=4 from by omega];rfl,by omega,by omega,hX⟩
end Go.Proofs.YtbaajjkopdjbgaaGreat
namespace Kv
def nthR (rs:List Reg) (i:Nat):Reg:=rs.getD i ⟨1,0,0,1,-1,-1,1⟩
theorem nthR_of {rs:List Reg}{i:Nat}(h:i<rs.length):rs[i]?=some (nthR rs i):=by
 unfold nthR
 rw [List.getD_eq_getElem?_getD,List.getElem?_eq_getElem h];rfl
def nodeE (E D:Nat) (rs:List Reg) (me:Int) (x:Int):Prog Unit :=
 if E=4 then kesM D (nthR rs (4*((x / 2).toNat-1))) (nthR rs (4*((x / 2).toNat-1)+1)) (nthR rs (4*((x / 2).toNat-1)+2)) (nthR rs (4*((x / 2).toNat-1)+3)) (x % 2) me
 else arbM D (nthR rs (3*((x / 2).toNat-1))) (nthR rs (3*((x / 2).toNat-1)+1)) (nthR rs (3*((x / 2).toNat-1)+2)) (x % 2) me
def nodeL (E:Nat) (rs:List Reg) (me:Int) (x:Int):Prog Unit:=kesL (nthR rs (E*((x / 2).toNat-1))) (nthR rs (E*((x / 2).toNat-1)+1)) (x % 2) me
theorem pathN_mem:∀ (f x:Nat) {y:Int},y∈pathN f x->2<=y/\y<=x
 | 0,_,y,h=>by simp [pathN] at h
 | f+1,x,y,h=>by
   unfold pathN at h
   split at h
   · simp at h
   · rcases List.mem_cons.1 h with rfl | h
     · omega
     · have:=pathN_mem f (x / 2) h
       omega
theorem lev_ge {m:Nat}(h:m<=64):m<=2 ^ levels m:=by
 have:∀ m:Nat,m<65->m<=2 ^ levels m:=by decide +kernel
 exact this m (by omega)
theorem pathL_mem {m place:Nat}(h:m<=64)(hp:place<m){y:Int}(hy:y∈pathL m place):2<=y/\y<2*2 ^ levels m:=by
 have h1:=pathN_mem _ _ hy
 have h2:=lev_ge h
 have e:(2:Int) ^ levels m=((2 ^ levels m:Nat):Int):=by rw [Int.natCast_pow];rfl
 rw [e]
 generalize 2 ^ levels m=P at *
 omega
end Kv
namespace Go.Proofs.YtbaajjkopdjbgaaGreat
open Go.RowKit Kv
def RowH (ix:List Nat) (w:World) (p:Nat) (A:Option Addr) (l:List Int):Prop:=l≠[]->∃ g cur,A=some ⟨g,0,none⟩/\Held ix w p g (.cells cur 3)/\∀ (i:Nat) y,l[i]?=some y->cur[i]?=some (V Z y)
theorem RowH.of_row {ix:List Nat}{w:World}{p base:Nat}{v:Value}{l:List Int}(h:IntRow w base v l)(hn:∀ b,base<=b->¬ ownR ix w p b):∃ A c,v=.slice A l.length c/\RowH ix w p A l:=by
 rcases h.2 with⟨rfl,h0⟩ | ⟨g,cap,cur,rfl,hb,hg,h1,h2,h3,h4⟩
 · exact⟨none,0,by rw [h0],fun hne=>absurd (List.length_eq_zero_iff.1 h0) hne⟩
 · refine⟨_,cap,rfl,fun _=>⟨g,cur,rfl,⟨hg,hn g hb⟩,fun i y hy=>?_⟩⟩
   have e:(cur.toList.take (l.length*1))[i]?=some (V Z y):=by rw [h4,List.getElem?_map,hy];rfl
   rw [List.getElem?_take] at e
   split at e
   · rw [<- e];simp
   · cases e
theorem Held.at_ {ix:List Nat}{w:World}{p g:Nat}{cur:Array Value}{l:List Int}(h:Held ix w p g (.cells cur 3))(hc:∀ (i:Nat) y,l[i]?=some y->cur[i]?=some (V Z y)){i:Nat}{y:Int}(hy:l[i]?=some y):w.cell? ⟨g,i,none⟩=some (V Z y):=by
 rw [h.cells i];exact hc i y hy
theorem node_enter_p7 (B p D n:Nat)(S:TS)(rs:List Reg)(x me:Int)(b c:Nat)(w:World)(h:Plays B w p S)(hl:RegsAt [2,3,4] w p b rs)(hall:∀ r∈rs,r.ok/\me<r.n/\r.told me)(hm0:0<=me)(hn:x / 2=n)(hn1:1<=n)(hn2:n*4<=rs.length)(hD:S.left<D)(hc4:4<=c)(hc5:c<=9223372036854775807) :
  Calls Tryz.prog 233 #[.pointer (some ⟨p,0,none⟩),.slice (some ⟨b,4*(n-1)*7,none⟩) 4 c,V Z (x % 2),V Z me] w (Post encU B p w ((nodeE 4 D rs me x).run S)):=by
 unfold nodeE
 rw [if_pos rfl,hn,Int.toNat_natCast]
 obtain⟨k0,l0,t0⟩:=hall _ (List.mem_of_getElem? (nthR_of (rs:=rs) (i:=4*(n-1)) (by omega)))
 obtain⟨k1,l1,t1⟩:=hall _ (List.mem_of_getElem? (nthR_of (rs:=rs) (i:=4*(n-1)+1) (by omega)))
 obtain⟨k2,l2,t2⟩:=hall _ (List.mem_of_getElem? (nthR_of (rs:=rs) (i:=4*(n-1)+2) (by omega)))
 obtain⟨k3,l3,t3⟩:=hall _ (List.mem_of_getElem? (nthR_of (rs:=rs) (i:=4*(n-1)+3) (by omega)))
 exact kesn_enter_p B p D S _ _ _ _ (x % 2) me b c (4*(n-1)) rs w h hl ⟨nthR_of (i:=4*(n-1)) (by omega),nthR_of (i:=4*(n-1)+1) (by omega),nthR_of (i:=4*(n-1)+2) (by omega),nthR_of (i:=4*(n-1)+3) (by omega)⟩ k0 k1 k2 k3 hm0 l0 l1 l2 l3 t0 t1 t2 t3 hD hc4 hc5
theorem node_leave_p7 (B p n:Nat)(S:TS)(rs:List Reg)(x me:Int)(b c:Nat)(w:World)(h:Plays B w p S)(hl:RegsAt [2,3,4] w p b rs)(hall:∀ r∈rs,r.ok/\me<r.n/\r.told me)(hm0:0<=me)(hn:x / 2=n)(hn1:1<=n)(hn2:n*4<=rs.length) :
  Calls Tryz.prog 234 #[.pointer (some ⟨p,0,none⟩),.slice (some ⟨b,4*(n-1)*7,none⟩) 4 c,V Z (x % 2),V Z me] w (Post encU B p w ((nodeL 4 rs me x).run S)):=by
 unfold nodeL
 rw [hn,Int.toNat_natCast]
 obtain⟨k0,l0,t0⟩:=hall _ (List.mem_of_getElem? (nthR_of (rs:=rs) (i:=4*(n-1)) (by omega)))
 obtain⟨k1,l1,t1⟩:=hall _ (List.mem_of_getElem? (nthR_of (rs:=rs) (i:=4*(n-1)+1) (by omega)))
 obtain⟨k2,l2,t2⟩:=hall _ (List.mem_of_getElem? (nthR_of (rs:=rs) (i:=4*(n-1)+2) (by omega)))
 obtain⟨k3,l3,t3⟩:=hall _ (List.mem_of_getElem? (nthR_of (rs:=rs) (i:=4*(n-1)+3) (by omega)))
 exact kesn_leave_p B p S _ _ (nthR rs (4*(n-1)+2)) (nthR rs (4*(n-1)+3)) (x % 2) me b c (4*(n-1)) rs w h hl ⟨nthR_of (i:=4*(n-1)) (by omega),nthR_of (i:=4*(n-1)+1) (by omega),nthR_of (i:=4*(n-1)+2) (by omega),nthR_of (i:=4*(n-1)+3) (by omega)⟩ k0 k1 hm0 l0 l1
set_option maxRecDepth 100000 in
set_option maxHeartbeats 2000000 in
theorem climb_p7 (B p D:Nat)(S:TS)(kind:Int)(m place:Nat)(me:Int)(rs:List Reg)(A:Option Addr)(c:Nat)(w:World)(h:Plays B w p S)(hk:kind=7)(h1:1<=m)(h2:m<=64)(h3:place<m)(hlen:rs.length=4*(2 ^ levels m-1))(hc1:rs.length<=c)(hc2:c<=9223372036854775807)
  (hreg:rs≠[]->∃ b,A=some ⟨b,0,none⟩/\RegsAt [2,3,4] w p b rs)(hall:∀ r∈rs,r.ok/\me<r.n/\r.told me)(hm0:0<=me)(hD:S.left<D) :
  Calls Tryz.prog 91 #[.pointer (some ⟨p,0,none⟩),.slice A rs.length c,V Z kind,V Z m,V Z place,V Z me] w (Post encU B p w ((forP (fun x _=>nodeE 4 D rs me x) (pathL m place) ()).run S)):=by
 generalize hR:Post encU B p w ((forP (fun x _=>nodeE 4 D rs me x) (pathL m place) ()).run S)=R
 have hO:Owes R encU B p w ((forP (fun x _=>nodeE 4 D rs me x) (pathL m place) ()).run S):=hR▸owes _ _ _ _ _
 clear hR
 have hmem:=fun y (hy:y∈pathL m place)=>pathL_mem h2 h3 hy
 have hPth:=fun w=>path_p m place w h1 h2 h3
 have hlv:=lev_le h2
 obtain⟨p1,p2⟩:=pow_le hlv
 have e:(2:Int) ^ levels m=((2 ^ levels m:Nat):Int):=by rw [Int.natCast_pow];rfl
 rw [e] at hmem
 have hll:(pathL m place).length<=128:=by
  have:=pathN_len (2 ^ levels m+place) (2 ^ levels m+place)
  unfold pathL
  omega
 clear e hlv
 generalize 2 ^ levels m=P at *
 generalize pathL m place=l at *
 have hn:nodeV kind=.agg #[.func (.func 232) #[] #[],.func (.func 233) #[] #[],.func (.func 234) #[] #[]]:=by unfold nodeV;rw [if_pos hk];rfl
 have hN:=fun w=>nodeOf_p kind w
 rw [hn] at hN
 have hmemh:=Hd hmem
 have hallh:=Hd hall
 have hlenh:=Hd hlen
 have hOh:=Hd hO;clear hn hk hmem hall hlen hO
 go_enter Tryz.func91,Tryz.ntmps91
 go_wp2_with fail
 refine (hN _).mono ?_
 rintro e w2 ⟨rfl,hx2⟩
 have hK:=Keep.of_ext (ix:=[2,3,4]) (B:=B) hx2 h.lt h.le
 have hP:=h.ext hx2
 have hreg2:rs≠[]->∃ b,A=some ⟨b,0,none⟩/\RegsAt [2,3,4] w2 p b rs:=fun hne=>by
  obtain⟨b,e1,e2⟩:=hreg hne
  exact⟨b,e1,e2.extL hx2 h.lt⟩
 clear hx2 h hreg
 have bx:=hP.held (.cells #[.func (.func 232) #[] #[],.func (.func 233) #[] #[],.func (.func 234) #[] #[]] 147)
 replace hK:=hK.trans (Keep.alloc (.cells #[.func (.func 232) #[] #[],.func (.func 233) #[] #[],.func (.func 234) #[] #[]] 147) hP.lt hP.le)
 have hreg3:rs≠[]->∃ b,A=some ⟨b,0,none⟩/\RegsAt [2,3,4] (w2.alloc (.cells #[.func (.func 232) #[] #[],.func (.func 233) #[] #[],.func (.func 234) #[] #[]] 147)) p b rs:=fun hne=>by
  obtain⟨b,e1,e2⟩:=hreg2 hne
  exact⟨b,e1,e2.extL ((Ext.refl w2).alloc (.cells #[.func (.func 232) #[] #[],.func (.func 233) #[] #[],.func (.func 234) #[] #[]] 147)) hP.lt⟩
 replace hP:=hP.alloc (.cells #[.func (.func 232) #[] #[],.func (.func 233) #[] #[],.func (.func 234) #[] #[]] 147)
 clear hreg2;go_wp2_with fail
 generalize w2.heap.size=z at *
 generalize w2.alloc _=W at *
 refine (hPth _).mono ?_
 rintro e w3 ⟨v3,rfl,hrow,hx3⟩
 obtain⟨A3,c3,rfl,hR⟩:=RowH.of_row (p:=p) (ix:=[2,3,4]) hrow (fun b hb=>hP.fresh hx3 hb)
 replace hK:=hK.trans (Keep.of_ext hx3 hP.lt hP.le)
 replace bx:=bx.ext hx3 hP.lt
 have hreg:rs≠[]->∃ b,A=some ⟨b,0,none⟩/\RegsAt [2,3,4] w3 p b rs:=fun hne=>by
  obtain⟨b,e1,e2⟩:=hreg3 hne
  exact⟨b,e1,e2.extL hx3 hP.lt⟩
 replace hP:=hP.ext hx3;clear hreg3 hx3 hrow hPth hN
 by_cases hl0:l=[]
 · subst hl0
   have hf:=hOh.out.done (v:=()) hP hK
   clear hOh hmemh hR hreg hallh hlenh;go_wp2_with fail
   go_loopw [21] (fun i wr=>i=V Z 0/\w3=wr) (fun _ _=>0)
   case atStart=>exact⟨rfl,rfl⟩
   case round =>
    obtain⟨rfl,rfl⟩:=hrel
    go_wp2_with fail
    first | exact hf | (refine bodyPost_ret (results_none rfl _ _ _) rfl ?_;exact hf)
 obtain⟨g,cur,rfl,hg,hcur⟩:=hR hl0
 obtain⟨b,rfl,hl⟩:=hreg (by
  obtain⟨y,l',rfl⟩:∃ y l',l=y :: l':=by cases l with | nil=>exact absurd rfl hl0 | cons y l'=>exact⟨y,l',rfl⟩
  have h1:=hmemh.out y (List.mem_cons_self ..)
  have h2:=hlenh.out;intro hne;rw [hne,List.length_nil] at h2
  omega)
 have hch:=Hd hcur
 clear hreg hR hl0 hcur;go_wp2_with fail
 go_loopw [21] (fun i wr=>∃ (j:Nat) (S2:TS),i=V Z j/\j<=l.length/\Plays B wr p S2/\KeepP B p w wr/\HeldP wr p z (.cells #[.func (.func 232) #[] #[],.func (.func 233) #[] #[],.func (.func 234) #[] #[]] 147)/\HeldP wr p g (.cells cur 3)/\RegsAt [2,3,4] wr p b rs/\S2.left<D/\Hid (Owes R encU B p w ((forP (fun x _=>nodeE 4 D rs me x) (l.drop j) ()).run S2))) (fun i _=>l.length-(intOf i).toNat)
 case atStart=>exact⟨0,S,rfl,by omega,hP,hK,bx,hg,hl,hD,hOh⟩
 case round =>
  clear hP hK bx hg hl hD hOh
  obtain⟨j,S2,rfl,hj,hP,hK,bx,hg,hl,hD,hOh⟩:=hrel
  by_cases hjl:j<l.length
  · obtain⟨y,hy⟩:∃ y,l[j]?=some y:=⟨_,List.getElem?_eq_getElem hjl⟩
    have hym:=hmemh.out y (List.mem_of_getElem? hy)
    obtain⟨Y,rfl⟩:∃ Y:Nat,y=(Y:Int):=⟨y.toNat,by omega⟩
    have c_g:=hg.at_ hch.out hy
    have hO:=hOh.out
    rw [List.drop_eq_getElem_cons hjl,show l[j]=(Y:Int) from by rw [List.getElem?_eq_getElem hjl] at hy;exact Option.some.inj hy] at hO
    have hOk:Hid (Owes R encU B p w (((nodeE 4 D rs me (Y:Int)).bind fun _=>forP (fun x _=>nodeE 4 D rs me x) (l.drop (j+1)) ()).run S2)):=Hd hO
    clear hO hOh hy
    have hn2:Y / 2*4<=rs.length:=by have:=hlenh.out;omega
    have hn1:1<=Y / 2:=by omega
    have hlen9:rs.length<=1000000:=by have:=hlenh.out;omega
    have hrg:=fun w=>tregs_p7 b c (Y / 2) rs.length w hn1 hn2 hc1 hc2 hlen9
    have hq1:IntKind.i64.wrap ((Y:Int) / 2)=((Y / 2:Nat):Int):=by rw [IntWalk.i64_in _ (by omega)];omega
    have hq2:(Y:Int).tmod 2=(Y:Int) % 2:=Int.tmod_eq_emod_of_nonneg (by omega)
    go_wp2_with fail
    have hS:∀ w',HeldP w' p z (.cells #[.func (.func 232) #[] #[],.func (.func 233) #[] #[],.func (.func 234) #[] #[]] 147)->(∀ i,w'.cell? ⟨z,i,none⟩=(#[.func (.func 232) #[] #[],.func (.func 233) #[] #[],.func (.func 234) #[] #[]]:Array Value)[i]?):=fun w' x=>x.cells
    have c_bx:=bx.cells
    refine wp_region_held_drew (S:=fun w'=>∀ i,w'.cell? ⟨z,i,none⟩=(#[.func (.func 232) #[] #[],.func (.func 233) #[] #[],.func (.func 234) #[] #[]]:Array Value)[i]?) rfl (hS _ bx) (fun hHeld=>?_)
    replace hl:=hl.extL (Ext.refl wr).drew hP.lt
    replace hP:=hP.drew;replace hK:=hK.drew;replace bx:=bx.drew;replace hg:=hg.drew
    refine tkb 0 ?_
    iterate 7
     refine tkn (v:=?_) rfl (by kernel_rfl) (fun _ _ _ h=>h) (by assumption) ?_ ?_
     rotate_left
     · (intro w hSw;(try dsimp only at hSw);go_simp;try with_reducible rfl)
     try simp only [put_pack]
    refine tke ?_
    refine tkb 8 ?_
    iterate 3
     refine tkn (v:=?_) rfl (by kernel_rfl) (fun _ _ _ h=>h) (by assumption) ?_ ?_
     rotate_left
     · (intro w hSw;(try dsimp only at hSw);go_simp;try with_reducible rfl)
     try simp only [put_pack]
    refine tke ?_
    refine wpAnyH_ready (rs:=[7]) (by kernel_rfl) (by simp) ?_
    refine AllReadyH.cons rfl (fun K hKK=>?_) (AllReadyH.nil)
    go_simp
    refine (hrg _).mono ?_
    rintro e w4 ⟨c',rfl,q1,q2,hx⟩
    replace bx:=bx.ext hx hP.lt;replace hg:=hg.ext hx hP.lt;replace hl:=hl.extL hx hP.lt;replace hK:=hK.trans (Keep.of_ext hx hP.lt hP.le);replace hP:=hP.ext hx;clear hx hrg c_g c_bx
    refine hKK.out _ _ (hS _ bx) (fun hHeld=>?_)
    clear hKK K
    try dsimp only
    refine wpAnyH_ready (rs:=[11]) (by kernel_rfl) (by simp) ?_
    refine AllReadyH.cons rfl (fun K hKK=>?_) (AllReadyH.nil)
    go_simp
    refine tstepL hOk.out hK (node_enter_p7 B p D (Y / 2) S2 rs Y me b c' _ hP hl hallh.out hm0 (by omega) hn1 hn2 hD q1 q2) (fun _ h=>⟨rfl,h⟩) ?_
    clear hK hP hOk;intro u S3 w5 hlf _ hP hk1 hK hO;replace hD:=Nat.lt_of_le_of_lt hlf hD;replace bx:=bx.keep hk1;replace hg:=hg.keep hk1;replace hl:=hl.keep hk1;clear hk1 hlf
    refine hKK.out _ _ (hS _ bx) (fun hHeld=>?_)
    clear hKK K
    try dsimp only
    refine wpAnyH_done (by kernel_rfl) ?_ _
    go_simp
    have hf:=Hd hO
    clear hO hS;go_wp2_with fail
    refine⟨⟨j+1,S3,by go_num,by omega,hP,hK,bx,hg,hl,hD,hf⟩,?_⟩
    simp [intOf];omega
  · obtain rfl:j=l.length:=by omega
    have hO:=hOh.out;rw [List.drop_length] at hO
    have hf:=hO.done (v:=()) hP hK
    clear hO hOh hP hK hl hg bx;go_wp2_with fail
    first | exact hf | (refine bodyPost_ret (results_none rfl _ _ _) rfl ?_;exact hf)
theorem heap_setCells_ex (g:Nat)(t:TypeId):∀ (vs:List Value) (o:Nat) (w:World) (cur:Array Value),w.heap[g]?=some (.cells cur t (0,0))->∃ cur',(w.setCells g o vs).heap[g]?=some (.cells cur' t (0,0))/\cur'.size=cur.size
 | [],_,_,cur,h=>⟨cur,h,rfl⟩
 | v :: r,o,w,cur,h=>by
   obtain⟨cur',h1,h2⟩:=heap_setCells_ex g t r (o+1) (w.setCell ⟨g,o,none⟩ v) _ (heap_setCell_same w g o cur t v h)
   exact⟨cur',h1,h2.trans (by simp)⟩
theorem Ext.setCells {w0 w:World}(h:Ext w0 w){g:Nat}(hg:w0.heap.size<=g):∀ (vs:List Value) (o:Nat),Ext w0 (w.setCells g o vs):=by
 intro vs
 induction vs generalizing w with
 | nil=>intro o;exact h
 | cons v r ih=>intro o;exact ih (Below.setCell (p:=⟨g,o,none⟩) h hg v) (o+1)
theorem reverse_p {w0 w:World}{l:List Int}{v:Value}(hx:Ext w0 w)(h:IntRow w w0.heap.size v l)(hl:l.length<=1000) :
  Calls Tryz.prog 174 #[v] w fun e w'=>e=.returned (.tuple #[])/\Ext w0 w'/\IntRow w' w0.heap.size v l.reverse:=by
 have h':=h
 rcases h.2 with⟨rfl,h0⟩ | ⟨g,cap,cur,rfl,hb,hg,h1,h2,h3,h4⟩
 · obtain rfl:=List.length_eq_zero_iff.1 h0
   refine (Tryz.slices_Reverse_int_empty none 0 w).mono ?_
   rintro e w' ⟨rfl,rfl⟩
   exact⟨rfl,hx,h⟩
 · have hcell:∀ j,j<l.length->w.cell? ⟨g,0+j,none⟩=some (V Z (l.getD j 0)):=by
    intro j hj
    rw [Nat.zero_add,cell_of_heap hg]
    have e:(cur.toList.take (l.length*1))[j]?=some (V Z (l.getD j 0)):=by
     rw [h4,List.getElem?_map,List.getElem?_eq_getElem hj,List.getD_eq_getElem?_getD,List.getElem?_eq_getElem hj];rfl
    rw [List.getElem?_take,if_pos (by omega)] at e
    rw [<- e];simp
   refine (Tryz.slices_Reverse_int_cells g 0 l.length cap l w (Nat.le_refl _) (by omega) hcell (fun j hj=>by simp [World.frozen?,hg])).mono ?_
   rintro e w' ⟨rfl,q,rfl⟩
   rw [List.take_length]
   have hg':(w.drewN q).heap[g]?=some (.cells cur 3 (0,0)):=hg
   obtain⟨cur',k1,k2⟩:=heap_setCells_ex g 3 (l.reverse.map (V Z)) 0 (w.drewN q) cur hg'
   refine⟨rfl,(hx.drewN q).setCells hb _ _,?_,.inr ⟨g,cap,cur',by rw [List.length_reverse],hb,k1,by rw [List.length_reverse];exact h1,h2,by rw [k2];exact h3,?_⟩⟩
   · simp
   · apply List.ext_getElem?
     intro i
     rw [List.length_reverse,List.getElem?_take]
     by_cases hi:i<l.length*1
     · rw [if_pos hi]
       have hc:=World.cell?_setCells_in g (l.reverse.map (V Z)) 0 (w.drewN q) (fun j hj=>by
        rw [Nat.zero_add,cell_of_heap hg']
        have:j<cur.size:=by simp at hj;omega
        simp [this]) i (by simp;omega)
       rw [Nat.zero_add,cell_of_heap k1] at hc
       rw [Array.getElem?_toList,hc,List.getElem?_eq_getElem]
     · rw [if_neg hi,List.getElem?_eq_none (by simp;omega)]
set_option maxRecDepth 100000 in
set_option maxHeartbeats 2000000 in
theorem down_p7 (B p:Nat)(S:TS)(kind:Int)(m place:Nat)(me:Int)(rs:List Reg)(A:Option Addr)(c:Nat)(w:World)(h:Plays B w p S)(hk:kind=7)(h1:1<=m)(h2:m<=64)(h3:place<m)(hlen:rs.length=4*(2 ^ levels m-1))(hc1:rs.length<=c)(hc2:c<=9223372036854775807)
  (hreg:rs≠[]->∃ b,A=some ⟨b,0,none⟩/\RegsAt [2,3,4] w p b rs)(hall:∀ r∈rs,r.ok/\me<r.n/\r.told me)(hm0:0<=me) :
  Calls Tryz.prog 94 #[.pointer (some ⟨p,0,none⟩),.slice A rs.length c,V Z kind,V Z m,V Z place,V Z me] w (Post encU B p w ((forP (fun x _=>nodeL 4 rs me x) (pathL m place).reverse ()).run S)):=by
 generalize hR:Post encU B p w ((forP (fun x _=>nodeL 4 rs me x) (pathL m place).reverse ()).run S)=R
 have hO:Owes R encU B p w ((forP (fun x _=>nodeL 4 rs me x) (pathL m place).reverse ()).run S):=hR▸owes _ _ _ _ _
 clear hR
 have hmem:=fun y (hy:y∈pathL m place)=>pathL_mem h2 h3 hy
 have hPth:=fun w=>path_p m place w h1 h2 h3
 have hlv:=lev_le h2
 obtain⟨p1,p2⟩:=pow_le hlv
 have e:(2:Int) ^ levels m=((2 ^ levels m:Nat):Int):=by rw [Int.natCast_pow];rfl
 rw [e] at hmem
 have hll:(pathL m place).length<=128:=by
  have:=pathN_len (2 ^ levels m+place) (2 ^ levels m+place)
  unfold pathL
  omega
 clear e hlv
 generalize 2 ^ levels m=P at *
 generalize pathL m place=l at *
 have hn:nodeV kind=.agg #[.func (.func 232) #[] #[],.func (.func 233) #[] #[],.func (.func 234) #[] #[]]:=by unfold nodeV;rw [if_pos hk];rfl
 have hN:=fun w=>nodeOf_p kind w
 rw [hn] at hN
 have hmemh:=Hd hmem
 have hallh:=Hd hall
 have hlenh:=Hd hlen
 have hOh:=Hd hO;clear hn hk hmem hall hlen hO
 go_enter Tryz.func94,Tryz.ntmps94
 go_wp2_with fail
 refine (hN _).mono ?_
 rintro e w2 ⟨rfl,hx2⟩
 have hK:=Keep.of_ext (ix:=[2,3,4]) (B:=B) hx2 h.lt h.le
 have hP:=h.ext hx2
 have hreg2:rs≠[]->∃ b,A=some ⟨b,0,none⟩/\RegsAt [2,3,4] w2 p b rs:=fun hne=>by
  obtain⟨b,e1,e2⟩:=hreg hne
  exact⟨b,e1,e2.extL hx2 h.lt⟩
 clear hx2 h hreg
 have bx:=hP.held (.cells #[.func (.func 232) #[] #[],.func (.func 233) #[] #[],.func (.func 234) #[] #[]] 147)
 replace hK:=hK.trans (Keep.alloc (.cells #[.func (.func 232) #[] #[],.func (.func 233) #[] #[],.func (.func 234) #[] #[]] 147) hP.lt hP.le)
 have hreg3:rs≠[]->∃ b,A=some ⟨b,0,none⟩/\RegsAt [2,3,4] (w2.alloc (.cells #[.func (.func 232) #[] #[],.func (.func 233) #[] #[],.func (.func 234) #[] #[]] 147)) p b rs:=fun hne=>by
  obtain⟨b,e1,e2⟩:=hreg2 hne
  exact⟨b,e1,e2.extL ((Ext.refl w2).alloc (.cells #[.func (.func 232) #[] #[],.func (.func 233) #[] #[],.func (.func 234) #[] #[]] 147)) hP.lt⟩
 replace hP:=hP.alloc (.cells #[.func (.func 232) #[] #[],.func (.func 233) #[] #[],.func (.func 234) #[] #[]] 147)
 clear hreg2;go_wp2_with fail
 generalize w2.heap.size=z at *
 generalize w2.alloc _=W at *
 refine (hPth _).mono ?_
 rintro e w3 ⟨v3,rfl,hrow,hx3⟩
 go_wp2_with fail
 refine (reverse_p hx3 hrow (by omega)).mono ?_
 rintro e w4 ⟨rfl,hx4,hrow4⟩
 obtain⟨A3,c3,rfl,hR⟩:=RowH.of_row (p:=p) (ix:=[2,3,4]) hrow4 (fun b hb=>hP.fresh hx4 hb)
 replace hK:=hK.trans (Keep.of_ext hx4 hP.lt hP.le)
 replace bx:=bx.ext hx4 hP.lt;clear hrow hx3
 have hreg:rs≠[]->∃ b,A=some ⟨b,0,none⟩/\RegsAt [2,3,4] w4 p b rs:=fun hne=>by
  obtain⟨b,e1,e2⟩:=hreg3 hne
  exact⟨b,e1,e2.extL hx4 hP.lt⟩
 replace hP:=hP.ext hx4;clear hreg3 hx4 hrow4 hPth hN
 have hmem2:∀ y∈l.reverse,2<=y/\y<2*((P:Nat):Int):=fun y hy=>hmemh.out y (List.mem_reverse.1 hy)
 replace hll:l.reverse.length<=128:=by rw [List.length_reverse];exact hll
 generalize l.reverse=l2 at *
 clear hmemh
 have hmemh:=Hd hmem2
 clear hmem2
 by_cases hl0:l2=[]
 · subst hl0
   have hf:=hOh.out.done (v:=()) hP hK
   clear hOh hmemh hR hreg hallh hlenh;go_wp2_with fail
   go_loopw [25] (fun i wr=>i=V Z 0/\w4=wr) (fun _ _=>0)
   case atStart=>exact⟨rfl,rfl⟩
   case round =>
    obtain⟨rfl,rfl⟩:=hrel
    go_wp2_with fail
    first | exact hf | (refine bodyPost_ret (results_none rfl _ _ _) rfl ?_;exact hf)
 obtain⟨g,cur,rfl,hg,hcur⟩:=hR hl0
 obtain⟨b,rfl,hl⟩:=hreg (by
  obtain⟨y,l2',rfl⟩:∃ y l2',l2=y :: l2':=by cases l2 with | nil=>exact absurd rfl hl0 | cons y l2'=>exact⟨y,l2',rfl⟩
  have h1:=hmemh.out y (List.mem_cons_self ..)
  have h2:=hlenh.out;intro hne;rw [hne,List.length_nil] at h2
  omega)
 have hch:=Hd hcur
 clear hreg hR hl0 hcur;go_wp2_with fail
 go_loopw [25] (fun i wr=>∃ (j:Nat) (S2:TS),i=V Z j/\j<=l2.length/\Plays B wr p S2/\KeepP B p w wr/\HeldP wr p z (.cells #[.func (.func 232) #[] #[],.func (.func 233) #[] #[],.func (.func 234) #[] #[]] 147)/\HeldP wr p g (.cells cur 3)/\RegsAt [2,3,4] wr p b rs/\Hid (Owes R encU B p w ((forP (fun x _=>nodeL 4 rs me x) (l2.drop j) ()).run S2))) (fun i _=>l2.length-(intOf i).toNat)
 case atStart=>exact⟨0,S,rfl,by omega,hP,hK,bx,hg,hl,hOh⟩
 case round =>
  clear hP hK bx hg hl hOh
  obtain⟨j,S2,rfl,hj,hP,hK,bx,hg,hl,hOh⟩:=hrel
  by_cases hjl:j<l2.length
  · obtain⟨y,hy⟩:∃ y,l2[j]?=some y:=⟨_,List.getElem?_eq_getElem hjl⟩
    have hym:=hmemh.out y (List.mem_of_getElem? hy)
    obtain⟨Y,rfl⟩:∃ Y:Nat,y=(Y:Int):=⟨y.toNat,by omega⟩
    have c_g:=hg.at_ hch.out hy
    have hO:=hOh.out
    rw [List.drop_eq_getElem_cons hjl,show l2[j]=(Y:Int) from by rw [List.getElem?_eq_getElem hjl] at hy;exact Option.some.inj hy] at hO
    have hOk:Hid (Owes R encU B p w (((nodeL 4 rs me (Y:Int)).bind fun _=>forP (fun x _=>nodeL 4 rs me x) (l2.drop (j+1)) ()).run S2)):=Hd hO
    clear hO hOh hy
    have hn2:Y / 2*4<=rs.length:=by have:=hlenh.out;omega
    have hn1:1<=Y / 2:=by omega
    have hlen9:rs.length<=1000000:=by have:=hlenh.out;omega
    have hrg:=fun w=>tregs_p7 b c (Y / 2) rs.length w hn1 hn2 hc1 hc2 hlen9
    have hq1:IntKind.i64.wrap ((Y:Int) / 2)=((Y / 2:Nat):Int):=by rw [IntWalk.i64_in _ (by omega)];omega
    have hq2:(Y:Int).tmod 2=(Y:Int) % 2:=Int.tmod_eq_emod_of_nonneg (by omega)
    go_wp2_with fail
    have hS:∀ w',HeldP w' p z (.cells #[.func (.func 232) #[] #[],.func (.func 233) #[] #[],.func (.func 234) #[] #[]] 147)->(∀ i,w'.cell? ⟨z,i,none⟩=(#[.func (.func 232) #[] #[],.func (.func 233) #[] #[],.func (.func 234) #[] #[]]:Array Value)[i]?):=fun w' x=>x.cells
    have c_bx:=bx.cells
    refine wp_region_held_drew (S:=fun w'=>∀ i,w'.cell? ⟨z,i,none⟩=(#[.func (.func 232) #[] #[],.func (.func 233) #[] #[],.func (.func 234) #[] #[]]:Array Value)[i]?) rfl (hS _ bx) (fun hHeld=>?_)
    replace hl:=hl.extL (Ext.refl wr).drew hP.lt
    replace hP:=hP.drew;replace hK:=hK.drew;replace bx:=bx.drew;replace hg:=hg.drew
    refine tkb 0 ?_
    iterate 7
     refine tkn (v:=?_) rfl (by kernel_rfl) (fun _ _ _ h=>h) (by assumption) ?_ ?_
     rotate_left
     · (intro w hSw;(try dsimp only at hSw);go_simp;try with_reducible rfl)
     try simp only [put_pack]
    refine tke ?_
    refine tkb 8 ?_
    iterate 3
     refine tkn (v:=?_) rfl (by kernel_rfl) (fun _ _ _ h=>h) (by assumption) ?_ ?_
     rotate_left
     · (intro w hSw;(try dsimp only at hSw);go_simp;try with_reducible rfl)
     try simp only [put_pack]
    refine tke ?_
    refine wpAnyH_ready (rs:=[7]) (by kernel_rfl) (by simp) ?_
    refine AllReadyH.cons rfl (fun K hKK=>?_) (AllReadyH.nil)
    go_simp
    refine (hrg _).mono ?_
    rintro e w4 ⟨c',rfl,q1,q2,hx⟩
    replace bx:=bx.ext hx hP.lt;replace hg:=hg.ext hx hP.lt;replace hl:=hl.extL hx hP.lt;replace hK:=hK.trans (Keep.of_ext hx hP.lt hP.le);replace hP:=hP.ext hx;clear hx hrg c_g c_bx
    refine hKK.out _ _ (hS _ bx) (fun hHeld=>?_)
    clear hKK K
    try dsimp only
    refine wpAnyH_ready (rs:=[11]) (by kernel_rfl) (by simp) ?_
    refine AllReadyH.cons rfl (fun K hKK=>?_) (AllReadyH.nil)
    go_simp
    refine tstepL hOk.out hK (node_leave_p7 B p (Y / 2) S2 rs Y me b c' _ hP hl hallh.out hm0 (by omega) hn1 hn2) (fun _ h=>⟨rfl,h⟩) ?_
    clear hK hP hOk;intro u S3 w5 hlf _ hP hk1 hK hO;replace bx:=bx.keep hk1;replace hg:=hg.keep hk1;replace hl:=hl.keep hk1;clear hk1 hlf
    refine hKK.out _ _ (hS _ bx) (fun hHeld=>?_)
    clear hKK K
    try dsimp only
    refine wpAnyH_done (by kernel_rfl) ?_ _
    go_simp
    have hf:=Hd hO
    clear hO hS;go_wp2_with fail
    refine⟨⟨j+1,S3,by go_num,by omega,hP,hK,bx,hg,hl,hf⟩,?_⟩
    simp [intOf];omega
  · obtain rfl:j=l2.length:=by omega
    have hO:=hOh.out;rw [List.drop_length] at hO
    have hf:=hO.done (v:=()) hP hK
    clear hO hOh hP hK hl hg bx;go_wp2_with fail
    first | exact hf | (refine bodyPost_ret (results_none rfl _ _ _) rfl ?_;exact hf)
end Go.Proofs.YtbaajjkopdjbgaaGreat
