/-
  RenameApart holds: no two get one name, at any paces, on atomic cells; if k threads ask, those that get one get one below k (k + 1) / 2, without conditions.
-/
import Derived.Test.YtbphlkaihfbgeaaJRenameApartSaid4
import Derived.Deep.RegionLaw
import Derived.Deep.AppendLies
import Derived.Deep.RegionHeld2
import Derived.Deep.DeepCutAuto
namespace Go.Proofs.Ytbphlkaihfbgeaa
open Go.RowKit Kv
def askedN (ans:Nat->List Int) (m:Nat):Nat:=cnt (fun s=>decide (ans s≠[])) m
set_option maxRecDepth 100000 in
set_option maxHeartbeats 4000000 in
theorem ren_walk (n:Nat)(vP:Value)(Ls:List Int)(w:World)(hn:n<256)(hL:U8s w vP Ls)(hLb:∀ x∈Ls,0<=x/\x<256) :
  Calls Try.prog 10 #[.int .u8 n,vP] w fun e w'=>e=.returned (.bool true)/\Ext w w':=by
 have hmf:∀ (fn:Fn) (first cap:Array Value) (w:World),(Instr.makeFunc fn first cap).run Try.prog w=.ok (.func fn first cap) w:=fun _ _ _ _=>rfl
 obtain⟨m,hm⟩:∃ m:Nat,1+(n:Int) % 8=m:=⟨1+n % 8,by omega⟩
 have m1:1<=m:=by omega
 have m8:m<=8:=by omega
 obtain⟨AL,cL,rfl,z1,z2⟩:∃ A c,vP=.slice A Ls.length c/\Ls.length<=c/\c<=9223372036854775807:=by
  obtain⟨A,c,e,q1,q2,_⟩:=hL
  exact⟨A,c,e,q1,q2⟩
 go_enter Try.func10,Try.ntmps10
 by_cases hl:300<Ls.length
 · have d1:decide ((300:Int)<(Ls.length:Int))=true:=by rw [decide_eq_true_eq];omega
   go_wp2_with fail
   refine (alive32 _).mono ?_
   rintro e w7 ⟨rfl,hx7⟩
   have hf:=Lib.hid hx7
   clear hx7
   go_wp2_with fail
   go_ret
   exact⟨rfl,hf.out⟩
 have d1:decide ((300:Int)<(Ls.length:Int))=false:=by rw [decide_eq_false_iff_not];omega
 go_upto_region 4 with fail
 have bN:=Blk.new w (.cells #[.int .i64 m] 3)
 have hX:=(Ext.refl w).alloc (.cells #[.int .i64 m] 3)
 generalize hbn:w.heap.size=bn at *
 generalize World.alloc w _=V0 at *
 have c_N:=bN.cells
 go_wp2_with fail
 refine (renregs_p m _ m1 m8).mono ?_
 rintro e w2 ⟨b,d,rfl,hd,hx2,hb,hc⟩
 replace bN:=bN.ext hx2
 replace hX:=hX.trans hx2
 clear hx2 c_N
 obtain⟨K,hK⟩:∃ K,2*triN m=K:=⟨_,rfl⟩
 have hK72:K<=72:=by
  have:=triN_mono m8
  rw [show triN 8=36 from by decide] at this
  omega
 have hKh:=Lib.hid hK
 rw [hK]
 clear hK
 go_upto_region 7 with fail
 have kL:=(Blk.new w2 (.cells #[.slice (some ⟨b,0,none⟩) K (d+K)] 44)).alloc (.cells #[.int .i64 0] 3)
 have kO:=Blk.new (w2.alloc (.cells #[.slice (some ⟨b,0,none⟩) K (d+K)] 44)) (.cells #[.int .i64 0] 3)
 have x1:=((Ext.refl w2).alloc (.cells #[.slice (some ⟨b,0,none⟩) K (d+K)] 44)).alloc (.cells #[.int .i64 0] 3)
 simp only [World.size_alloc] at kL kO x1
 have kN:=bN.ext x1
 have hX2:=hX.trans x1
 have hb0:=Nat.lt_of_lt_of_le hb x1.size
 have hc0:∀ (i:Nat) u,((gRegs m).flatMap regVals)[i]?=some u->(World.alloc (World.alloc w2 (.cells #[.slice (some ⟨b,0,none⟩) K (d+K)] 44)) (.cells #[.int .i64 0] 3)).cell? ⟨b,i,none⟩=some u:=fun i u hu=>(x1.cell (p:=⟨b,i,none⟩) hb).trans (hc i u hu)
 clear hb hc hX bN x1
 generalize hbl:w2.heap.size=bl at *
 generalize hbo:bl+1=bo at *
 generalize World.alloc (World.alloc w2 _) _=wc at *
 have hlo:bl<bo:=by omega
 clear hbl hbo
 have c_L:wc.cell? ⟨bl,0,none⟩=some (.slice (some ⟨b,0,none⟩) K (d+K)):=kL.cells 0
 have hmk:=fun W=>make_ints (K:Int) K rfl (by omega) W
 go_upto_region 10 with fail
 clear c_L hmk
 have hM:OMem wc bn bl wc.heap.size (wc.heap.size+1) (wc.heap.size+1+1) (.cells #[.int .i64 m] 3) (.cells #[.slice (some ⟨b,0,none⟩) K (d+K)] 44) (((wc.alloc (.cells ((zeros K).map (Value.int .i64)).toArray 3)).alloc (.cells #[.slice none 0 0,.slice none 0 0,.slice none 0 0,.slice none 0 0,.slice none 0 0,.slice none 0 0,.slice none 0 0,.slice none 0 0] 49)).alloc (.cells #[.int .i64 0,.int .i64 0,.int .i64 0,.int .i64 0,.int .i64 0,.int .i64 0,.int .i64 0,.int .i64 0] 74)) (zeros K) (fun _=>0) (fun _=>[]) (Array.replicate 8 (.slice none 0 0)):=by
  have l1:=kN.lt
  have l2:=kL.lt
  have l3:bn≠bl:=fun e=>by
   have q1:=kN.cells 0
   rw [e,kL.cells 0] at q1
   cases q1
  refine⟨(((Ext.refl wc).alloc _).alloc _).alloc _,((kN.alloc _).alloc _).alloc _,((kL.alloc _).alloc _).alloc _,((Blk.new wc _).alloc _).alloc _,?_,?_,ARows.start _ _ _ (by simp;omega) 8,⟨l1,l2⟩,by omega,by omega⟩
  · have h:=(Blk.new (wc.alloc (.cells ((zeros K).map (Value.int .i64)).toArray 3)) (.cells #[.slice none 0 0,.slice none 0 0,.slice none 0 0,.slice none 0 0,.slice none 0 0,.slice none 0 0,.slice none 0 0,.slice none 0 0] 49)).alloc (.cells #[.int .i64 0,.int .i64 0,.int .i64 0,.int .i64 0,.int .i64 0,.int .i64 0,.int .i64 0,.int .i64 0] 74)
    simp only [World.size_alloc] at h
    exact h
  · have h:=Blk.new ((wc.alloc (.cells ((zeros K).map (Value.int .i64)).toArray 3)).alloc (.cells #[.slice none 0 0,.slice none 0 0,.slice none 0 0,.slice none 0 0,.slice none 0 0,.slice none 0 0,.slice none 0 0,.slice none 0 0] 49)) (.cells #[.int .i64 0,.int .i64 0,.int .i64 0,.int .i64 0,.int .i64 0,.int .i64 0,.int .i64 0,.int .i64 0] 74)
    simp only [World.size_alloc] at h
    exact h
 have hbol:=kO.lt
 have hkO:=Lib.hid kO
 clear kN kL kO
 have hb2:b<wc.heap.size:=hb0
 generalize hbc:wc.heap.size=bc at hM ⊢
 generalize hba:bc+1=ba at *
 generalize hbp:ba+1=bp at *
 generalize World.alloc (World.alloc (World.alloc wc _) _) _=W0 at *
 clear hbc hba hbp
 obtain⟨w0,hw0⟩:∃ w0,w0=wc:=⟨_,rfl⟩
 subst hw0
 obtain⟨OL,hOL⟩:∃ OL:Obj,OL=(.cells #[.slice (some ⟨b,0,none⟩) K (d+K)] 44):=⟨_,rfl⟩
 obtain⟨ON,hON⟩:∃ ON:Obj,ON=(.cells #[.int .i64 m] 3):=⟨_,rfl⟩
 rw [<- hOL,<- hON] at hM
 have hOLh:=Lib.hid hOL
 have hONh:=Lib.hid hON
 have hLh:=Lib.hid hL
 have hLbh:=Lib.hid hLb
 have hch:=Lib.hid hc0
 have hXh:=Lib.hid hX2
 have hdh:=Lib.hid hd
 have hI0:=Lib.hid (RInv.start (gRegs_ok m m1 m8).1 m1)
 rw [hKh.out] at hI0
 clear hOL hON hL hLb hc0 hX2 hb0 hd
 go_wp2_with fail
 go_loopw [12,13] (fun a12 a13 wr=>∃ (j:Nat) (pc:Nat->Nat->Nat->SPc) (cur:Nat->Nat × Nat) (X Y:Nat->Nat->Int) (M:List Int) (ans:Nat->List Int) (nm:Nat->Nat) (vs:Array Value),a12=.int .i64 (askedN ans m:Nat)/\a13=.int .i64 j/\j<=Ls.length/\Hid (RInv (gRegs m) m j pc cur X Y M ans nm)/\Hid (OMem w0 bn bl bc ba bp ON OL wr M (fun t=>(nm t:Int)) ans vs)) (fun _ a13 _=>Ls.length-(intOf a13).toNat)
 case atStart =>
  refine⟨0,_,_,_,_,_,_,_,Array.replicate 8 (.slice none 0 0),?_,rfl,by omega,hI0,?_⟩
  · rw [show askedN (fun _=>[]) m=0 from cnt_none m fun _ _=>by simp];rfl
  · exact hM
 case round =>
  clear hM hI0
  obtain⟨j,pc,cur,X,Y,M,ans,nm,vs,rfl,rfl,hj,hI,hM⟩:=hrel
  by_cases hjl:j<Ls.length
  rotate_left
  · have dj:decide ((j:Int)<(Ls.length:Int))=false:=by rw [decide_eq_false_iff_not];omega
    have c_N:wr.cell? ⟨bn,0,none⟩=some (.int .i64 m):=by have h:=hM.out.kN;rw [hONh.out] at h;exact h.cells 0
    have hEh:=Lib.hid (hXh.out.trans hM.out.ext)
    have hNh:=Lib.hid (fun s (hs:s<8)=>(hM.out.kP.cells s).trans (eights_at (f:=fun t=>(nm t:Int)) hs))
    have hIh:=Lib.hid hI.out
    have hbpl:=hM.out.kP.lt
    clear hM hI
    generalize hqq:askedN ans m=q at *
    have hq8:q<=8:=by
     rw [<- hqq]
     have:=cnt_le (fun s=>decide (ans s≠[])) m
     unfold askedN
     omega
    have hsm:=Lib.hid (fun (t:Nat) (ht:t<m)=>show nm t<=q*(q+1) / 2 from by
     by_cases e:nm t=0
     · omega
     · have:=hIh.out.small ht e
       rw [<- hqq]
       exact this)
    have hap:=Lib.hid (fun (t s:Nat) (ht:t<m) (hs:s<t)=>show nm t=0∨nm t≠nm s from by
     by_cases e:nm t=0
     · exact .inl e
     · exact .inr (hIh.out.apart ht (by omega) (by omega) e))
    clear hqq hIh
    obtain⟨WR,hWR⟩:∃ W,W=wr:=⟨_,rfl⟩
    subst hWR
    have hw1:IntKind.i64.wrap ((q:Int)+1)=(q:Int)+1:=IntWalk.i64_in _ (by omega)
    obtain⟨P2,hP2⟩:∃ P2:Nat,q*(q+1)=P2:=⟨_,rfl⟩
    have hP72:P2<=72:=by
     rw [<- hP2]
     exact Nat.le_trans (Nat.mul_le_mul hq8 (show q+1<=9 by omega)) (by decide)
    rw [hP2] at hsm
    have hPI:(q:Int)*((q:Int)+1)=(P2:Int):=by
     rw [<- hP2,Int.natCast_mul,Int.natCast_add]
     rfl
    obtain⟨Q,hQ⟩:∃ Q:Nat,P2 / 2=Q:=⟨_,rfl⟩
    rw [hQ] at hsm
    have hw2:IntKind.i64.wrap ((q:Int)*((q:Int)+1))=(P2:Int):=by
     rw [hPI]
     exact IntWalk.i64_in _ (by omega)
    have hw3:IntKind.i64.wrap ((P2:Int).tdiv 2)=(Q:Int):=by
     rw [Int.tdiv_eq_ediv_of_nonneg (by omega),IntWalk.i64_in _ (by omega),<- hQ]
     omega
    have hw4:wrap64 ((P2:Int) / 2)=(Q:Int):=by
     have h:=hw3
     rw [Int.tdiv_eq_ediv_of_nonneg (by omega),IntKind.wrap_i64] at h
     unfold wrap64
     omega
    have hw4h:=Lib.hid hw4
    have hw1h:=Lib.hid hw1
    have hw2h:=Lib.hid hw2
    have hw3h:=Lib.hid hw3
    clear hw1 hw2 hw3 hw4 hQ hP72 hP2 hPI
    have hNh2:=Lib.hid (fun (W:World) (hx:Ext WR W) (s:Nat) (hs:s<8)=>(hx.cell (p:=⟨bp,s,none⟩) hbpl).trans (hNh.out s hs))
    have hNn:=Lib.hid (fun (W:World) (hx:Ext WR W)=>(hx.cell (p:=⟨bn,0,none⟩) (cell_lt c_N)).trans c_N)
    clear c_N hNh hbpl
    go_wp2_with fail
    go_loopw [20,21] (fun a20 _ wo=>∃ t:Nat,a20=.int .i64 t/\t<=m/\Ext WR wo) (fun a20 _ _=>m-(intOf a20).toNat)
    case atStart=>exact⟨0,rfl,by omega,Ext.refl _⟩
    case round =>
     obtain⟨t,rfl,ht,hxo⟩:=hrel
     have c_N:=hNn.out _ hxo
     by_cases htm:t<m
     · have dt:decide ((t:Int)<(m:Int))=true:=by rw [decide_eq_true_eq];omega
       have c_T:=hNh2.out _ hxo t (by omega)
       have ht8:(t:Int)<8:=by omega
       have ht0:(0:Int)<=(t:Int):=by omega
       obtain⟨W3,hW3⟩:∃ W,W=wr:=⟨_,rfl⟩
       subst hW3
       clear c_T
       go_wp2_with fail
       go_loopw [21] (fun a21 wi=>∃ s:Nat,a21=.int .i64 s/\s<=t/\Ext WR wi) (fun a21 _=>t-(intOf a21).toNat)
       case atStart=>exact⟨0,rfl,by omega,hxo⟩
       case round =>
        clear hxo
        obtain⟨s,rfl,hs,hxi⟩:=hrel
        have c_N:=hNn.out _ hxi
        by_cases hst:s<t
        · have ds:decide ((s:Int)<(t:Int))=true:=by rw [decide_eq_true_eq];omega
          have ds2:decide (s<t)=true:=by rw [decide_eq_true_eq];omega
          have hs8:(s:Int)<8:=by omega
          have hs0:(0:Int)<=(s:Int):=by omega
          have hxn:=fun k=>hxi.drewN k
          have c_T:=hNh2.out _ hxi t (by omega)
          have c_S:=hNh2.out _ hxi s (by omega)
          have hno:=hap.out t s htm hst
          by_cases hz:nm t=0
          · have dz:decide ((0:Int)<(nm t:Int))=false:=by rw [decide_eq_false_iff_not];omega
            have dz2:decide (0<nm t)=false:=by rw [decide_eq_false_iff_not];omega
            clear hno hz
            go_wp2_with fail
            go_quiet (fail)
            go_wp2_with fail
            refine⟨⟨s+1,by first | rfl | go_num,by omega,hxn _⟩,?_⟩
            simp [intOf];omega
          · have dz:decide ((0:Int)<(nm t:Int))=true:=by rw [decide_eq_true_eq];omega
            have dz2:decide (0<nm t)=true:=by rw [decide_eq_true_eq];omega
            have de:((nm t:Int)==(nm s:Int))=false:=by rw [beq_eq_false_iff_ne];omega
            have de2:(nm t==nm s)=false:=by rw [beq_eq_false_iff_ne];omega
            clear hno hz
            go_wp2_with fail
            go_quiet (fail)
            go_wp2_with fail
            refine⟨⟨s+1,by first | rfl | go_num,by omega,hxn _⟩,?_⟩
            simp [intOf];omega
        · have ds:decide ((s:Int)<(t:Int))=false:=by rw [decide_eq_false_iff_not];omega
          have ds2:decide (s<t)=false:=by rw [decide_eq_false_iff_not];omega
          have c_T:=hNh2.out _ hxi t (by omega)
          have hQt:=hsm.out t htm
          have dq:decide ((Q:Int)<(nm t:Int))=false:=by rw [decide_eq_false_iff_not];omega
          have dq2:decide (Q<nm t)=false:=by rw [decide_eq_false_iff_not];omega
          have hw1:=hw1h.out
          have hw2:=hw2h.out
          have hw3:=hw3h.out
          have hw4:=hw4h.out
          go_wp2_with fail
          refine⟨⟨t+1,by first | rfl | go_num,by omega,hxi⟩,?_⟩
          simp [intOf];omega
     · have dt:decide ((t:Int)<(m:Int))=false:=by rw [decide_eq_false_iff_not];omega
       go_wp2_with fail
       refine (alive32 _).mono ?_
       rintro e w7 ⟨rfl,hx7⟩
       have hf:=Lib.hid ((hEh.out.trans hxo).trans hx7)
       clear hx7
       go_wp2_with fail
       first | (go_ret;exact⟨rfl,hf.out⟩) | exact⟨rfl,hf.out⟩
  have dj:decide ((j:Int)<(Ls.length:Int))=true:=by rw [decide_eq_true_eq];omega
  obtain⟨x,hx⟩:∃ x,Ls[j]?=some x:=⟨_,List.getElem?_eq_getElem hjl⟩
  obtain⟨bq,oq,rfl,hbq,hcx0⟩:=hLh.out.at_ hx
  have hcx:=((hM.out.ext.cell (p:=⟨bq,oq+j,none⟩) (Nat.lt_of_lt_of_le hbq hXh.out.size)).trans (hXh.out.cell (p:=⟨bq,oq+j,none⟩) hbq)).trans hcx0
  clear hcx0
  have hxb:=hLbh.out x (List.mem_of_getElem? hx)
  obtain⟨y,rfl⟩:∃ y:Nat,x=y:=⟨x.toNat,by omega⟩
  obtain⟨t,htt⟩:∃ t:Nat,((y:Int)).tmod (m:Int)=t:=⟨(((y:Int)).tmod (m:Int)).toNat,by
   have:=Int.tmod_nonneg (m:Int) (show (0:Int)<=y by omega)
   omega⟩
  have htm:t<m:=by
   have:=Int.tmod_lt_of_pos (y:Int) (show (0:Int)<m by omega)
   omega
  have hm0:¬ m=0:=by omega
  have hwy:=IntWalk.i64_in (y:Int) (by omega)
  have c_N:wr.cell? ⟨bn,0,none⟩=some (.int .i64 m):=by have h:=hM.out.kN;rw [hONh.out] at h;exact h.cells 0
  have c_Nd:wr.drew.cell? ⟨bn,0,none⟩=some (.int .i64 m):=by have h:=hM.out.kN;rw [hONh.out] at h;exact h.cells 0
  go_upto_region 14 with fail
  have hS:(wr.drew.cell? ⟨bq,oq+j,none⟩=some (.int .u8 y))/\wr.drew.cell? ⟨bn,0,none⟩=some (.int .i64 m):=⟨hcx,c_Nd⟩
  have hlt:=(Array.getElem?_eq_some_iff.1 (show wr.heap[bn]?=_ from hM.out.kN)).1
  go_cut [14] (fun s11 wx=>∃ bz,s11=.pointer (some ⟨bz,0,none⟩)/\wr.heap.size<=bz/\Ext wr wx/\Blk wx bz (.cells #[.int .i64 t] 3))
  case first =>
   -- [dev
   have hbq':bq<wr.heap.size:=Nat.lt_of_lt_of_le (Nat.lt_of_lt_of_le hbq hXh.out.size) hM.out.ext.size
   refine wp_region_held_drew (S:=fun w'=>w'.cell? ⟨bq,oq+j,none⟩=some (.int .u8 y)/\w'.cell? ⟨bn,0,none⟩=some (.int .i64 m)) rfl hS (fun hHeld=>?_)
   clear c_N c_Nd hcx hM hI
   refine tkb 0 ?_
   iterate 7
    refine tkn (v:=?_) rfl (by kernel_rfl) (fun _ _ _ h=>h) (by assumption) ?_ ?_
    rotate_left
    · (intro w hSw;(try dsimp only at hSw);go_simp;try with_reducible rfl)
    try simp only [put_pack]
   refine tke ?_
   refine wpAnyH_ready (rs:=[7]) (by kernel_rfl) (by simp) ?_
   refine AllReadyH.cons rfl (fun K hKK=>?_) (AllReadyH.nil)
   go_simp
   have hz:Blk ((wr.alloc (.cells #[.int .i64 0] 3)).drew) wr.heap.size (.cells #[.int .i64 0] 3):=(Blk.new wr (.cells #[.int .i64 0] 3)).ext (Ext.refl _).drew
   have hxq:=((Ext.refl wr).alloc (.cells #[.int .i64 0] 3)).drew
   generalize hbz:wr.heap.size=bz at *
   generalize World.drew (World.alloc wr _)=wq at *
   refine hKK.out _ _ ⟨(hxq.cell (p:=⟨bq,oq+j,none⟩) (hbz▸hbq')).trans hS.1,(hxq.cell (p:=⟨bn,0,none⟩) (hbz▸hlt)).trans hS.2⟩ (fun hHeld=>?_)
   clear hKK K
   try dsimp only
   obtain⟨z1,z2⟩:=box_end (v:=.int .i64 t) hz hxq (by omega)
   have c_hz:=hz.cells 0
   have hfz:=frozen_of_heap hz 0
   refine wpAnyH_ready (rs:=[8]) (by kernel_rfl) (by simp) ?_
   refine AllReadyH.cons rfl (fun K hKK=>?_) (AllReadyH.nil)
   simp only [List.getElem?_toArray,List.getElem?_cons_zero] at c_hz
   go_simp
   clear c_hz hfz
   refine hKK.out _ _ ⟨(z1.cell (p:=⟨bq,oq+j,none⟩) (hbz▸hbq')).trans hS.1,(z1.cell (p:=⟨bn,0,none⟩) (hbz▸hlt)).trans hS.2⟩ (fun hHeld=>?_)
   clear hKK K
   try dsimp only
   refine wpAnyH_done (by kernel_rfl) ?_ _
   go_simp
   go_wp2_with fail
   go_meet
   exact⟨bz,rfl,Nat.le_refl _,z1,z2⟩
   -- dev]
  case rest =>
  obtain⟨bz,rfl,hbz,hxz,bT⟩:=hcut
  have hvz0:Hid (∀ v,vs[t]?=some v->v.ownBlock≠some bz):=fun v h1 h2=>(hM.out.rows.more hbz).off t v _ h1 h2 (by simp)
  have gT:bc<bz/\ba<bz/\bp<bz:=⟨by have:=hM.out.kC.lt;omega,by have:=hM.out.kA.lt;omega,by have:=hM.out.kP.lt;omega⟩
  have hM1:=Lib.hid (hM.out.keep hxz)
  clear hM hxz hcx htt c_N c_Nd hS hlt hbz
  have ht4:t<8:=by omega
  have ht4i:(t:Int)<8:=by omega
  have c_T:wc.cell? ⟨bz,0,none⟩=some (.int .i64 t):=bT.cells 0
  have c_P:wc.cell? ⟨bp,t,none⟩=some (.int .i64 (nm t:Int)):=by
   rw [hM1.out.kP.cells t]
   exact eights_at ht4
  by_cases hnm:nm t=0
  rotate_left
  · have dp:decide ((0:Int)<(nm t:Int))=true:=by rw [decide_eq_true_eq];omega
    have dp2:decide (0<nm t)=true:=by rw [decide_eq_true_eq];omega
    have hI2:=Lib.hid hI.out.more
    clear hnm hI
    go_wp2_with fail
    refine⟨⟨j+1,_,_,_,_,_,_,_,_,rfl,by first | rfl | go_num,by omega,hI2,hM1⟩,?_⟩
    simp [intOf]
    omega
  have dp:decide ((0:Int)<(nm t:Int))=false:=by rw [decide_eq_false_iff_not];omega
  have dp2:decide (0<nm t)=false:=by rw [decide_eq_false_iff_not];omega
  obtain⟨kk,ci,vv,yv,M2,S1,l1,hr1,hacc,hl1,hci,hkk,hyv,pc3,cur3,X3,Y3,S2,hnext⟩:=hI.out.pick (gRegs_ok m m1 m8).1 m8 htm hnm
  have hlen:=hI.out.ansj t htm
  have hlM:=hI.out.len
  rw [hKh.out] at hlM
  have hbow:=hbol
  obtain⟨A,c5,hvt,hIn,hrow⟩:=hM1.out.rows.ints ht4
  have c_A:wc.cell? ⟨ba,t,none⟩=some (.slice A (ans t).length c5):=(hM1.out.kA.cells t).trans hvt
  have hcl:∀ (W W2:World) (p:Nat),Ext w0 W->Ext W W2->Blk W bz (.cells #[.int .i64 t] 3)->Blk W bl OL->Blk W bn ON->W.heap.size<=W.heap.size->Plays W.heap.size W2 p (TS0 [] (ans t))->True:=fun _ _ _ _ _ _ _ _ _ _=>trivial
  clear hcl
  have hPl:=play_int 56 #[.pointer (some ⟨bl,0,none⟩),.pointer (some ⟨bn,0,none⟩),.pointer (some ⟨bo,0,none⟩),.pointer (some ⟨bz,0,none⟩)] (getM (gRegs m) m 0 t) none 0 [] A c5 (ans t) wc (Ints.nil _) (by simp) hIn (by unfold maxAns;omega) (fun k hk=>(own_ge hrow hk).2) (fun _ _=>rfl) (fun W p hxW hP=>rencl1 _ p _ b d bl bn bo bz m t m1 m8 htm W hP (regsP hb2 hch.out (hM1.out.ext.trans hxW) hP hM1.out.ext.size) hdh.out (by have h:=hM1.out.kL.ext hxW;rw [hOLh.out] at h;rw [hKh.out];exact h.cells 0) (by have h:=hM1.out.kN.ext hxW;rw [hONh.out] at h;exact h.cells 0) (((hkO.out.ext hM1.out.ext).ext hxW).cells 0) ((bT.ext hxW).cells 0))
  rw [hr1] at hPl
  simp only [Option.getD_none,Option.isSome_none] at hPl
  go_wp2_with fail
  refine hPl.mono ?_
  clear hPl
  rintro e w3 ⟨v3,rfl,hO,hx3⟩
  obtain⟨A3,c3,D3,d3,vs3,L3,rfl,hO3⟩:=hO
  obtain⟨E3,k3,hvs3,_,_⟩:=hO3.locs.slice
  subst hvs3
  generalize (shortL L3).length=n3 at *
  have hat:S1.acc[(ans t).length]?=some ⟨kk,(ci:Int),vv⟩:=by rw [hacc,<- hl1];simp
  have hal:S1.acc.length=(ans t).length+1:=by rw [hacc,<- hl1];simp
  obtain⟨bk,rfl,hbk,q0,q1,q2⟩:=hO3.accs.at_ hat
  simp only at q0 q1 q2
  unfold outV
  rw [hal]
  have hxo:=(Ext.refl w3).alloc (.cells #[.bool false,.slice (some ⟨bk,0,none⟩) ((ans t).length+1) c3,.slice D3 S1.nts.length d3,.slice E3 n3 k3] 30)
  have hM3:=Lib.hid (hM1.out.keep (hx3.trans hxo))
  have bT3:=bT.ext (hx3.trans hxo)
  have bO3:=Blk.new w3 (.cells #[.bool false,.slice (some ⟨bk,0,none⟩) ((ans t).length+1) c3,.slice D3 S1.nts.length d3,.slice E3 n3 k3] 30)
  have q0:=(hxo.cell (p:=⟨bk,_,none⟩) hbk).trans q0
  have q1:=(hxo.cell (p:=⟨bk,_,none⟩) hbk).trans q1
  have q2:=(hxo.cell (p:=⟨bk,_,none⟩) hbk).trans q2
  have hnx:=Lib.hid hnext
  have hkkh:=Lib.hid hkk
  have hyvh:=Lib.hid hyv
  have gO:bc<w3.heap.size/\ba<w3.heap.size/\bp<w3.heap.size/\bz<w3.heap.size:=⟨by have:=hM1.out.kC.ext hx3;exact this.lt,by have:=hM1.out.kA.ext hx3;exact this.lt,by have:=hM1.out.kP.ext hx3;exact this.lt,(bT.ext hx3).lt⟩
  clear hx3 hO3 hM1 bT c_T c_A c_P hIn hrow hat hxo hr1 hacc hnext hkk hyv hal dp dp2
  have hz:(((ans t).length:Int)+1==0)=false:=by rw [beq_eq_false_iff_ne];omega
  generalize hb9:w3.heap.size=bo1 at *
  go_upto_region 17 with fail
  generalize World.alloc w3 _=V3 at *
  clear hb9
  have c_O:=bO3.cells
  have c_T:V3.cell? ⟨bz,0,none⟩=some (.int .i64 t):=bT3.cells 0
  have c_A:V3.cell? ⟨ba,t,none⟩=some (.slice A (ans t).length c5):=(hM3.out.kA.cells t).trans hvt
  go_upto_if 78 with fail
  obtain⟨ans2,ha2⟩:∃ f:Nat->List Int,f=(fun s=>if s=t then ans t++[yv] else ans s):=⟨_,rfl⟩
  go_cut [12] (fun s12 wx=>s12=.int .i64 (askedN ans2 m:Nat)/\wx=V3)
  case first =>
   have hle:askedN ans m<=m:=cnt_le _ _
   have hwa:=IntWalk.i64_in ((askedN ans m:Int)+1) (by omega)
   by_cases hz0:ans t=[]
   · have e1:askedN ans2 m=askedN ans m+1:=cnt_more m htm (by simp [hz0]) (by simp [ha2]) fun s _ hs=>by simp [ha2,hs]
     have dl:(((ans t).length:Int)==0)=true:=by simp [hz0]
     have hle1:=Lib.hid e1
     clear hz0 e1
     go_wp2_with fail
     go_meet
     exact⟨by rw [hle1.out];rfl,rfl⟩
   · have e1:askedN ans2 m=askedN ans m:=cnt_same m fun s _=>by
      by_cases e:s=t
      · subst e;simp [ha2,hz0]
      · simp [ha2,e]
     have dl:(((ans t).length:Int)==0)=false:=by
      rw [beq_eq_false_iff_ne]
      intro e
      exact hz0 (List.length_eq_zero_iff.1 (by omega))
     have hle1:=Lib.hid e1
     clear hz0 e1
     go_wp2_with fail
     go_meet
     exact⟨by rw [hle1.out],rfl⟩
  case rest =>
  obtain⟨rfl,rfl⟩:=hcut
  have ha2h:=Lib.hid ha2
  clear c_A ha2
  go_upto_region 22 with fail
  have hxa:=(Ext.refl wc).alloc (.cells #[.int .i64 kk,.int .i64 (ci:Int),.int .i64 vv] 54)
  have bA:=Blk.new wc (.cells #[.int .i64 kk,.int .i64 (ci:Int),.int .i64 vv] 54)
  have hM4:=Lib.hid (hM3.out.keep hxa)
  have bT4:=bT3.ext hxa
  have gA:bz<wc.heap.size/\bc<wc.heap.size/\ba<wc.heap.size:=⟨bT3.lt,hM3.out.kC.lt,hM3.out.kA.lt⟩
  have hvA0:Hid (∀ v,vs[t]?=some v->v.ownBlock≠some wc.heap.size):=fun v h1 h2=>by
   have:=(hM3.out.rows.more (Nat.le_refl _)).off t v _ h1 h2
   simp at this
  clear hM3 bT3 bO3 hxa c_O c_T q0 q1 q2 hz
  generalize hb9:wc.heap.size=bA' at *
  generalize World.alloc wc _=V4 at *
  clear hb9
  have c_A:∀ i,V4.cell? ⟨bA',i,none⟩=(#[.int .i64 kk,.int .i64 (ci:Int),.int .i64 vv]:Array Value)[i]?:=bA.cells
  have hc0:decide ((ci:Int)<0)=false:=by rw [decide_eq_false_iff_not];omega
  have hc1:decide ((K:Int)<=(ci:Int))=false:=by rw [decide_eq_false_iff_not];omega
  have hc2:decide (K<=ci)=false:=by rw [decide_eq_false_iff_not];omega
  have hci0:(0:Int)<=(ci:Int):=by omega
  have hcil:(ci:Int)<(K:Int):=by omega
  have hfC:V4.frozen? ⟨bc,ci,none⟩=false:=frozen_of_heap hM4.out.kC ci
  obtain⟨x0,hx0⟩:∃ x0,M[ci]?=some x0:=⟨_,List.getElem?_eq_getElem hci⟩
  have c_C:V4.cell? ⟨bc,ci,none⟩=some (.int .i64 x0):=by
   rw [hM4.out.kC.cells ci]
   simp [hx0]
  go_upto_if 101 with fail
  go_cut [] (fun wx=>Hid (OMem w0 bn bl bc ba bp ON OL wx M2 (fun s=>(nm s:Int)) ans vs)/\Blk wx bz (.cells #[.int .i64 t] 3)/\Blk wx bA' (.cells #[.int .i64 kk,.int .i64 (ci:Int),.int .i64 vv] 54))
  case first =>
   rcases hkkh.out with⟨hk1,e1⟩ | ⟨hk2,e1⟩
   · have dk:(kk==2)=false:=by rw [beq_eq_false_iff_ne];omega
     go_wp2_with fail
     go_meet
     exact⟨by rw [e1];exact hM4,bT4,bA⟩
   · have dk:(kk==2)=true:=by rw [beq_iff_eq];omega
     go_wp2_with fail
     go_meet
     exact⟨by rw [e1];exact hM4.out.setC ci vv,blk_ne bT4 (by omega) _,blk_ne bA (by omega) _⟩
  case rest =>
  clear hM4 bT4 bA c_A c_C hfC hkkh hc0 hc1 hx0
  obtain⟨hM6,bT6,bA6⟩:=hcut
  have c_T:wc.cell? ⟨bz,0,none⟩=some (.int .i64 t):=bT6.cells 0
  have hC6:∀ {W:World},Ext wc W->W.cell? ⟨bc,ci,none⟩=some (.int .i64 yv):=fun hx=>by
   rw [(hM6.out.kC.ext hx).cells ci]
   simp [hyvh.out]
  have hrow6:Hid (wc.ownsRow w0.heap.size 3 1 (.slice A (ans t).length c5) (ans t).length (rowOf (ans t))):=by
   obtain⟨v',q1,q2⟩:=hM6.out.rows.row t (by omega)
   rw [hvt] at q1
   injection q1 with q1
   subst q1
   exact q2
  have hge6:w0.heap.size<=wc.heap.size:=hM6.out.ext.size
  have hvo:Hid (∀ b',b'∈[bn,bl,bc,ba,bp]->(Value.slice A (ans t).length c5).ownBlock≠some b'):=fun b' hb' e=>hM6.out.rows.off t _ b' hvt e hb'
  have hvz:=hvz0.out _ hvt
  have hvA:=hvA0.out _ hvt
  have ht0:(0:Int)<=(t:Int):=by omega
  have hxd:=(Ext.refl wc).drew
  have hxe:=(Ext.refl wc).alloc (.cells #[.int .i64 yv] 3)
  have c_Td:(World.drew wc).cell? ⟨bz,0,none⟩=some (.int .i64 t):=bT6.cells 0
  have c_Cd:=hC6 hxd
  have c_Ad:(World.drew wc).cell? ⟨ba,t,none⟩=some (.slice A (ans t).length c5):=(hM6.out.kA.cells t).trans hvt
  have c_Fd:(World.drew wc).cell? ⟨bA',1,none⟩=some (.int .i64 (ci:Int)):=bA6.cells 1
  have c_Te:(wc.alloc (.cells #[.int .i64 yv] 3)).cell? ⟨bz,0,none⟩=some (.int .i64 t):=(bT6.alloc _).cells 0
  have c_Ce:(wc.alloc (.cells #[.int .i64 yv] 3)).cell? ⟨bc,ci,none⟩=some (.int .i64 yv):=hC6 hxe
  have c_Fe:(wc.alloc (.cells #[.int .i64 yv] 3)).cell? ⟨bA',1,none⟩=some (.int .i64 (ci:Int)):=(bA6.alloc _).cells 1
  have c_Ae:(wc.alloc (.cells #[.int .i64 yv] 3)).cell? ⟨ba,t,none⟩=some (.slice A (ans t).length c5):=((hM6.out.kA.alloc _).cells t).trans hvt
  clear hC6 hxd hxe
  obtain⟨i0,hi,hz0,hz1,hz2⟩:=info_parts info_int
  go_upto_region 26 with fail
  go_cut [] (fun wx=>∃ gg cap,Hid (OMem w0 bn bl bc ba bp ON OL wx M2 (fun s=>(nm s:Int)) (fun s=>if s=t then ans t++[yv] else ans s) (vs.setIfInBounds t (.slice (some ⟨gg,0,none⟩) ((ans t).length+1) cap)))/\Blk wx bz (.cells #[.int .i64 t] 3))
  case first =>
   -- [dev
   have hS:(World.drew wc).cell? ⟨bz,0,none⟩=some (.int .i64 t)/\(World.drew wc).cell? ⟨bc,ci,none⟩=some (.int .i64 yv)/\(World.drew wc).cell? ⟨bA',1,none⟩=some (.int .i64 (ci:Int)):=⟨c_Td,c_Cd,c_Fd⟩
   have hSe:((World.drew wc).alloc (.cells #[.int .i64 yv] 3)).cell? ⟨bz,0,none⟩=some (.int .i64 t)/\((World.drew wc).alloc (.cells #[.int .i64 yv] 3)).cell? ⟨bc,ci,none⟩=some (.int .i64 yv)/\((World.drew wc).alloc (.cells #[.int .i64 yv] 3)).cell? ⟨bA',1,none⟩=some (.int .i64 (ci:Int)):=⟨c_Te,c_Ce,c_Fe⟩
   refine wp_region_held_drew (S:=fun w'=>w'.cell? ⟨bz,0,none⟩=some (.int .i64 t)/\w'.cell? ⟨bc,ci,none⟩=some (.int .i64 yv)/\w'.cell? ⟨bA',1,none⟩=some (.int .i64 (ci:Int))) rfl hS (fun hHeld=>?_)
   clear c_T
   refine tkb 0 ?_
   iterate 3
    refine tkn (v:=?_) rfl (by kernel_rfl) (fun _ _ _ h=>h) (by assumption) ?_ ?_
    rotate_left
    · (intro w hSw;(try dsimp only at hSw);go_simp;try with_reducible rfl)
    try simp only [put_pack]
   refine tke ?_
   refine tkb 4 ?_
   iterate 5
    refine tkn (v:=?_) rfl (by kernel_rfl) (fun _ _ _ h=>h) (by assumption) ?_ ?_
    rotate_left
    · (intro w hSw;(try dsimp only at hSw);go_simp;try with_reducible rfl)
    try simp only [put_pack]
   refine tke ?_
   refine wpAnyH_ready (rs:=[3,9]) (by kernel_rfl) (by simp) ?_
   refine AllReadyH.cons rfl (fun K hKK=>?_) (AllReadyH.cons rfl (fun K hKK=>?_) (AllReadyH.nil))
   · go_simp
     refine hKK.out _ _ hS (fun hHeld=>?_)
     clear hKK K
     try dsimp only
     refine wpAnyH_ready (rs:=[9]) (by kernel_rfl) (by simp) ?_
     refine AllReadyH.cons rfl (fun K hKK=>?_) (AllReadyH.nil)
     go_simp
     refine hKK.out _ _ hSe (fun hHeld=>?_)
     clear hKK K
     try dsimp only
     refine wpAnyH_ready (rs:=[10]) (by kernel_rfl) (by simp) ?_
     refine AllReadyH.cons rfl (fun K hKK=>?_) (AllReadyH.nil)
     refine step_append_lies _ (by rfl) _ _ _ (by rfl) w0.heap.size 3 i0 _ 1 8 Try.underlying28 hi hz0 hz1 hz2 rfl (by omega) (Value.slice A (ans t).length c5) (ans t).length (rowOf (ans t)) (by rfl) ((World.ownsRow.drew hrow6.out).alloc _) ⟨wc.heap.size,0,none⟩ 1 1 [.int .i64 yv] (by rfl) (by rfl) (cells_new1 wc _ _) (by simp [Value.oneCell']) (by omega) (by unfold maxLen;omega) (by omega) (by simp;omega) (wc.heap.size+1) (by simp) ?_
     intro gg cap w1' hown1 hgrow hat1 hlt1
     have hM7:=Lib.hid (hM6.out.grow ht4 hvt hown1 (grown1 hgrow) (hat1.imp id (by omega)))
     have bT7:Blk w1' bz (.cells #[.int .i64 t] 3):=grown_heap bT6 hvz (grown1 hgrow)
     have bA7:Blk w1' bA' (.cells #[.int .i64 kk,.int .i64 (ci:Int),.int .i64 vv] 54):=grown_heap bA6 hvA (grown1 hgrow)
     have bC7:Blk w1' bc (.cells (M2.map (Value.int .i64)).toArray 3):=grown_heap hM6.out.kC (hvo.out bc (by simp)) (grown1 hgrow)
     have bT8:=blk_ne (b':=ba) (i:=t) bT7 (by omega) (.slice (some ⟨gg,0,none⟩) ((ans t).length+1) cap)
     have bA8:=blk_ne (b':=ba) (i:=t) bA7 (by omega) (.slice (some ⟨gg,0,none⟩) ((ans t).length+1) cap)
     have bC8:=blk_ne (b':=ba) (i:=t) bC7 hM6.out.ne.2.2.2.2.2.2.2.1 (.slice (some ⟨gg,0,none⟩) ((ans t).length+1) cap)
     have hp1:=grown_heap hM6.out.kA (hvo.out ba (by simp)) (grown1 hgrow)
     have hq1:=cell_of_heap hp1
     have hf1:=frozen_of_heap hp1
     refine hKK.out _ _ ⟨bT7.cells 0,by rw [bC7.cells ci];simp [hyvh.out],bA7.cells 1⟩ (fun hHeld=>?_)
     clear hKK K hown1 hgrow hat1 hlt1 hp1
     try dsimp only
     refine tk 11 (v:=?_) rfl (by kernel_rfl) (fun _ _ _ h=>h) (by assumption) ?_ ?_
     rotate_left
     · (intro w hSw;(try dsimp only at hSw);go_simp;try with_reducible rfl)
     try simp only [put_pack]
     refine wpAnyH_ready (rs:=[12]) (by kernel_rfl) (by simp) ?_
     refine AllReadyH.cons rfl (fun K hKK=>?_) (AllReadyH.nil)
     go_simp
     refine hKK.out _ _ ⟨bT8.cells 0,by rw [bC8.cells ci];simp [hyvh.out],bA8.cells 1⟩ (fun hHeld=>?_)
     clear hKK K hq1 hf1 bT7 bA7 bC7
     try dsimp only
     have hbb:=Lib.hid bT8
     clear bT8 bA8 bC8
     refine wpAnyH_done (by kernel_rfl) ?_ _
     go_simp
     go_wp2_with fail
     go_meet
     exact⟨gg,cap,hM7,hbb.out⟩
   · go_simp
     refine hKK.out _ _ hSe (fun hHeld=>?_)
     clear hKK K
     try dsimp only
     refine wpAnyH_ready (rs:=[3]) (by kernel_rfl) (by simp) ?_
     refine AllReadyH.cons rfl (fun K hKK=>?_) (AllReadyH.nil)
     go_simp
     refine hKK.out _ _ hSe (fun hHeld=>?_)
     clear hKK K
     try dsimp only
     refine wpAnyH_ready (rs:=[10]) (by kernel_rfl) (by simp) ?_
     refine AllReadyH.cons rfl (fun K hKK=>?_) (AllReadyH.nil)
     refine step_append_lies _ (by rfl) _ _ _ (by rfl) w0.heap.size 3 i0 _ 1 8 Try.underlying28 hi hz0 hz1 hz2 rfl (by omega) (Value.slice A (ans t).length c5) (ans t).length (rowOf (ans t)) (by rfl) ((World.ownsRow.drew hrow6.out).alloc _) ⟨wc.heap.size,0,none⟩ 1 1 [.int .i64 yv] (by rfl) (by rfl) (cells_new1 wc _ _) (by simp [Value.oneCell']) (by omega) (by unfold maxLen;omega) (by omega) (by simp;omega) (wc.heap.size+1) (by simp) ?_
     intro gg cap w1' hown1 hgrow hat1 hlt1
     have hM7:=Lib.hid (hM6.out.grow ht4 hvt hown1 (grown1 hgrow) (hat1.imp id (by omega)))
     have bT7:Blk w1' bz (.cells #[.int .i64 t] 3):=grown_heap bT6 hvz (grown1 hgrow)
     have bA7:Blk w1' bA' (.cells #[.int .i64 kk,.int .i64 (ci:Int),.int .i64 vv] 54):=grown_heap bA6 hvA (grown1 hgrow)
     have bC7:Blk w1' bc (.cells (M2.map (Value.int .i64)).toArray 3):=grown_heap hM6.out.kC (hvo.out bc (by simp)) (grown1 hgrow)
     have bT8:=blk_ne (b':=ba) (i:=t) bT7 (by omega) (.slice (some ⟨gg,0,none⟩) ((ans t).length+1) cap)
     have bA8:=blk_ne (b':=ba) (i:=t) bA7 (by omega) (.slice (some ⟨gg,0,none⟩) ((ans t).length+1) cap)
     have bC8:=blk_ne (b':=ba) (i:=t) bC7 hM6.out.ne.2.2.2.2.2.2.2.1 (.slice (some ⟨gg,0,none⟩) ((ans t).length+1) cap)
     have hp1:=grown_heap hM6.out.kA (hvo.out ba (by simp)) (grown1 hgrow)
     have hq1:=cell_of_heap hp1
     have hf1:=frozen_of_heap hp1
     refine hKK.out _ _ ⟨bT7.cells 0,by rw [bC7.cells ci];simp [hyvh.out],bA7.cells 1⟩ (fun hHeld=>?_)
     clear hKK K hown1 hgrow hat1 hlt1 hp1
     try dsimp only
     refine tk 11 (v:=?_) rfl (by kernel_rfl) (fun _ _ _ h=>h) (by assumption) ?_ ?_
     rotate_left
     · (intro w hSw;(try dsimp only at hSw);go_simp;try with_reducible rfl)
     try simp only [put_pack]
     refine wpAnyH_ready (rs:=[12]) (by kernel_rfl) (by simp) ?_
     refine AllReadyH.cons rfl (fun K hKK=>?_) (AllReadyH.nil)
     go_simp
     refine hKK.out _ _ ⟨bT8.cells 0,by rw [bC8.cells ci];simp [hyvh.out],bA8.cells 1⟩ (fun hHeld=>?_)
     clear hKK K hq1 hf1 bT7 bA7 bC7
     try dsimp only
     have hbb:=Lib.hid bT8
     clear bT8 bA8 bC8
     refine wpAnyH_done (by kernel_rfl) ?_ _
     go_simp
     go_wp2_with fail
     go_meet
     exact⟨gg,cap,hM7,hbb.out⟩
   -- dev]
  case rest =>
  clear hM6 bT6 bA6 c_T c_Td c_Cd c_Ad c_Fd c_Te c_Ce c_Fe c_Ae hrow6 hge6 hvo hvz hvA hi hz0 hz1 hz2
  obtain⟨gg,cap,hM8,bT8⟩:=hcut
  rw [<- ha2h.out] at hM8
  obtain⟨vs2,hv2⟩:∃ v,v=vs.setIfInBounds t (.slice (some ⟨gg,0,none⟩) ((ans t).length+1) cap):=⟨_,rfl⟩
  rw [<- hv2] at hM8
  have h2t:ans2 t=ans t++[yv]:=by rw [ha2h.out];exact if_pos rfl
  have h2l:(ans2 t).length<=j+1:=by rw [h2t];simp;omega
  have hnx2:=hnx.out
  rw [<- ha2h.out,<- h2t] at hnx2
  have hnxh:=Lib.hid hnx2
  clear hv2 h2t hnx hnx2 hvt
  obtain⟨A2,c2,hvt2,hI2,hrow2⟩:=hM8.out.rows.ints ht4
  have c_T:wc.cell? ⟨bz,0,none⟩=some (.int .i64 t):=bT8.cells 0
  have c_A:wc.cell? ⟨ba,t,none⟩=some (.slice A2 (ans2 t).length c2):=(hM8.out.kA.cells t).trans hvt2
  have hPl:=play_int 58 #[.pointer (some ⟨bl,0,none⟩),.pointer (some ⟨bn,0,none⟩),.pointer (some ⟨bo,0,none⟩),.pointer (some ⟨bz,0,none⟩)] (getM (gRegs m) m 0 t) none 0 [] A2 c2 (ans2 t) wc (Ints.nil _) (by simp) hI2 (by unfold maxAns;omega) (fun k hk=>(own_ge hrow2 hk).2) (fun _ _=>rfl) (fun W p hxW hP=>rencl2 _ p _ b d bl bn bo bz m t m1 m8 htm W hP (regsP hb2 hch.out (hM8.out.ext.trans hxW) hP hM8.out.ext.size) hdh.out (by have h:=hM8.out.kL.ext hxW;rw [hOLh.out] at h;rw [hKh.out];exact h.cells 0) (by have h:=hM8.out.kN.ext hxW;rw [hONh.out] at h;exact h.cells 0) (((hkO.out.ext hM8.out.ext).ext hxW).cells 0) ((bT8.ext hxW).cells 0))
  rcases hnxh.out with⟨hr2,hI3⟩ | ⟨vn,hr2,hvn,hI3⟩
  · rw [hr2] at hPl
    simp only [Option.getD_none,Option.isSome_none] at hPl
    have hI4:=Lib.hid hI3
    clear hI3 hr2 hnxh
    go_wp2_with fail
    refine hPl.mono ?_
    clear hPl
    rintro e w4 ⟨v4,rfl,hO4,hx4⟩
    obtain⟨A4,c4,D4,d4,E4,k4,n4,rfl⟩:=hO4.parts
    have hM9:=Lib.hid (hM8.out.keep (hx4.alloc (.cells #[.bool false,.slice A4 S2.acc.length c4,.slice D4 S2.nts.length d4,.slice E4 n4 k4] 30)))
    clear hM8 bT8 c_T c_A hx4 hO4 hI2 hrow2 hvt2
    go_wp2_with fail
    refine⟨⟨j+1,_,_,_,_,_,ans2,nm,_,rfl,by first | rfl | go_num,by omega,hI4,hM9⟩,?_⟩
    simp [intOf]
    omega
  · rw [hr2] at hPl
    simp only [Option.getD_some,Option.isSome_some] at hPl
    have hI4:=Lib.hid hI3
    have hwn:=IntWalk.i64_in ((vn:Int)+1) (by omega)
    clear hI3 hr2 hnxh
    go_wp2_with fail
    refine hPl.mono ?_
    clear hPl
    rintro e w4 ⟨v4,rfl,hO4,hx4⟩
    obtain⟨A4,c4,D4,d4,E4,k4,n4,rfl⟩:=hO4.parts
    have hxx:=hx4.alloc (.cells #[.bool true,.slice A4 S2.acc.length c4,.slice D4 S2.nts.length d4,.slice E4 n4 k4] 30)
    have hM9:=Lib.hid (hM8.out.keep hxx)
    have bT9:=bT8.ext hxx
    have bO9:=Blk.new w4 (.cells #[.bool true,.slice A4 S2.acc.length c4,.slice D4 S2.nts.length d4,.slice E4 n4 k4] 30)
    clear hM8 bT8 c_T c_A hx4 hO4 hI2 hrow2 hvt2 hxx
    go_upto_region 28 with fail
    generalize w4.heap.size=bo2 at *
    generalize World.alloc w4 _=V6 at *
    have c_O:=bO9.cells
    have c_T:V6.cell? ⟨bz,0,none⟩=some (.int .i64 t):=bT9.cells 0
    have c_P:V6.cell? ⟨bp,t,none⟩=some (.int .i64 (nm t:Int)):=(hM9.out.kP.cells t).trans (eights_at ht4)
    have hfP:V6.frozen? ⟨bp,t,none⟩=false:=frozen_of_heap hM9.out.kP t
    have hM10:Hid (OMem w0 bn bl bc ba bp ON OL (V6.setCell ⟨bp,t,none⟩ (.int .i64 ((vn:Int)+1))) M2 (fun s=>((if s=t then vn+1 else nm s:Nat):Int)) ans2 vs2):=by
     refine (hM9.out.setP ht4 ((vn:Int)+1)).same fun s _=>?_
     by_cases e:s=t
     · simp [putG,e]
     · simp [putG,e]
    clear hM9 bT9 bO9
    go_wp2_with fail
    refine⟨⟨j+1,_,_,_,_,_,ans2,_,_,rfl,by first | rfl | go_num,by omega,hI4,hM10⟩,?_⟩
    simp [intOf]
    omega
end Go.Proofs.Ytbphlkaihfbgeaa
namespace Go.Proofs.Ytbphlkaihfbgeaa.renameApart
open Go.ChangeShapes Go.WideShapes Go.ChangeAt Go.RowKit Kv
set_option maxRecDepth 100000 in
theorem main (H:Type)(enc:TypeId × Value->H)(W:World)(base:Nat)(args:Array Value)(ds:List (DataW H))(p:List MemPlace)
  (hval:∀ (j:Nat) t v,Try.f10.params[j]?=some t->args[j]?=some v->Value.okWide Try.prog W .any base t v)
  (hA:DataW.TrodAll enc Try.prog W 0 (fun _=>true) true Try.f10.params.toList args.toList ds p)(_hL:laidMetH Try.prog Rows.renameApartRow.laid W) :
  Calls Try.prog 10 args W fun e w'=>e=.returned (.bool true)/\Ext W w':=by
 rw [Try.params10] at hA hval
 obtain⟨v0,vs0,d0,ds0,p0,q0,hargs,rfl,rfl,h0,r0⟩:=trodAll_cons hA
 obtain⟨v1,vs1,d1,ds1,p1,q1,rfl,rfl,rfl,h1,r1⟩:=trodAll_cons r0
 obtain⟨rfl,rfl,rfl⟩:=trodAll_nil r1
 obtain rfl:args=#[v0,v1]:=by cases args;simp_all
 obtain⟨s,rfl,rfl,rfl,ws⟩:=open_int Try.underlying5 (hval 0 5 v0 rfl rfl) h0
 have hs:=bounds_u8 ws
 obtain⟨La,hLa,hLb⟩:=bytes_arg (hval 1 43 v1 rfl rfl) h1
 obtain⟨n,rfl⟩:∃ n:Nat,s=(n:Int):=⟨s.toNat,by omega⟩
 exact ren_walk n v1 La W (by omega) hLa hLb
end Go.Proofs.Ytbphlkaihfbgeaa.renameApart
namespace Go.Proofs.Ytbphlkaihfbgeaa.renameApart
open Go.ChangeShapes Go.WideShapes Go.ChangeAt Go.RowKit
theorem laidOut:laidOutB Try.prog=true:=by kernel_rfl
set_option maxRecDepth 100000 in
theorem contract (H:Type)(enc:TypeId × Value->H)(W:World)(base:Nat)(args:Array Value)(ds gs:List (DataW H))(before:List MemPlace)
  (hval:∀ (j:Nat) t v,Try.f10.params[j]?=some t->args[j]?=some v->Value.okWide Try.prog W .any base t v)
  (hW:DataW.Whole enc Try.prog Try.f10.params.toList Rows.renameApartSpec.vars false W args.toList ds gs before)(hL:laidMetH Try.prog Rows.renameApartRow.laid W) :
  Calls Try.prog 10 args W fun e W'=>∃ v,e=.returned v/\Rows.renameApartSpec.post enc Try.prog Try.f10 false true false false W args v W':=by
 refine (main H enc W base args ds before hval (by obtain⟨p,q,hA,hV,hpq,_,_⟩:=hW;obtain⟨_,rfl⟩:=trodVars_none hV;rw [List.append_nil] at hpq;subst hpq;exact hA) hL).mono fun e W' ⟨he,hg⟩=>⟨_,he,?_⟩
 refine law_post (tb:=4) laidOut ?_ (by kernel_rfl) Try.underlying4 rfl ?_ hW hg
 · rw [Try.params10]
   intro t ht
   simp only [List.mem_cons,List.not_mem_nil,or_false] at ht
   rcases ht with rfl | rfl <;> exact⟨by kernel_rfl,of_decide_eq_true (by kernel_rfl)⟩
 · intro ds hl
   rw [Try.params10] at hl
   match ds,hl with
   | [d0,d1],_=>rfl
set_option maxRecDepth 100000 in
theorem laid_met (os:Os):laidMet Try.prog Rows.renameApartRow.laid (((World.holding Try.prog os ⟨#[],#[],[]⟩)).forCall (fun _ _=>0) ⟨#[],#[.int .u8 0,.slice none 0 0],[]⟩).memory :=
 laidMet_of_run' 8 (by kernel_rfl) (by kernel_rfl)
set_option maxRecDepth 100000 in
theorem reads (os:Os){H:Type}(enc:TypeId × Value->H):∃ places,DataW.whole enc Try.prog (((World.holding Try.prog os ⟨#[],#[],[]⟩)).forCall (fun _ _=>0) ⟨#[],#[.int .u8 0,.slice none 0 0],[]⟩).memory Try.f10.params.toList Rows.renameApartSpec.vars false (#[.int .u8 0,.slice none 0 0]:Array Value).toList 8=some ([.lit (.int .u8 0),.nil],[],places) :=
 ⟨[],by kernel_rfl⟩
set_option maxRecDepth 100000 in
theorem lifted (os:Os)(started:os.Started)(H:Type)(enc:TypeId × Value->H)(F:Stop.Interp) :
  ReturnsInHanded {} Try.checked os 10 .any ((OpenSpec.ofChange Rows.renameApartSpec).preRow enc Try.prog Try.f10 Rows.renameApartRow.domain false Rows.renameApartRow.laid) (((OpenSpec.ofChange Rows.renameApartSpec).at F).post enc Try.prog Try.f10 false true false false):=by
 obtain⟨places,hx⟩:=reads os enc
 refine returnsInHanded_of_row (C:=Try.checked) (s:=(OpenSpec.ofChange Rows.renameApartSpec)) own started (by kernel_rfl) Try.func10
  (witness_row_at (enc:=enc) (C:=Try.checked) false (World.holding Try.prog os ⟨#[],#[],[]⟩) #[.int .u8 0,.slice none 0 0] rfl (by kernel_rfl) (by kernel_rfl) (by kernel_rfl)
    (OpenSpec.preRow_of_cond 8 hx (by kernel_rfl) (fun k hk=>by cases hk) (by kernel_rfl) (laid_met os))) ?_
 intro W base args ds gs before hval hW _ _ _ hL _ _
 exact contract H enc W base args ds gs before hval hW hL
theorem c1:(Rows.renameApartRow.inPlace==Try.pinned.checked.prog.inPlace 10)=true:=by kernel_rfl
theorem c2:(Rows.renameApartRow.unfollowed==Try.pinned.checked.prog.unfollowed 10)=true:=by kernel_rfl
theorem c3:(Rows.renameApartRow.recurses==Try.pinned.checked.prog.recurses 10)=true:=by kernel_rfl
theorem c4:(Rows.renameApartRow.named==Try.pinned.checked.prog.varsNamed 10)=true:=by kernel_rfl
theorem closed:joinedFacts Try.pinned.checked.prog 10 Try.f10 (OpenSpec.ofChange Rows.renameApartSpec).bare Rows.renameApartRow=true:=by
 unfold joinedFacts
 simp only [Bool.and_eq_true]
 repeat' refine And.intro ?_ ?_
 all_goals first | with_reducible exact c1 | with_reducible exact c2 | with_reducible exact c3 | with_reducible exact c4 | kernel_rfl
theorem said:Rows.RenameApartSaid :=
 OpenClaim.holds_of_cond 10 Try.f10 rfl rfl rfl rfl rfl rfl rfl ⟨rfl,rfl,rfl,rfl,rfl⟩ rfl rfl rfl rfl rfl (by kernel_rfl) Try.func10 closed
  (of_decide_eq_true (by kernel_rfl)) (by unfold Func.isWrapper;first | (rw [if_pos (by decide +kernel)];kernel_rfl) | (rw [if_neg (by decide +kernel)];exact⟨rfl,rfl⟩))
  (fun os started H enc _ F=>by rw [OpenClaim.pre_eq_preRow];exact lifted os started H enc F)
end Go.Proofs.Ytbphlkaihfbgeaa.renameApart
