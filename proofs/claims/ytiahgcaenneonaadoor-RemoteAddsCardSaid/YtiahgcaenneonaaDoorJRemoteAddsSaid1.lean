/-
  RemoteAddsSaid: part 1 of its proof.
-/
import Derived.Test.YtiahgcaenneonaaDoorJRemoteAddsSaid0
import Derived.Shelf.Strings.Builder1
import Derived.Shelf.Strings.Builder2
import Derived.Shelf.Strings.OnBuilder
import Derived.Shelf.Strings.BuilderF
import Derived.Shelf.Strconv.Itoa0
import Derived.Shelf.Strconv.Itoa1
import Derived.Shelf.LaysM
import Derived.Shelf.Strconv.Itoa2
import Derived.Shelf.Strconv.Itoa3
import Derived.Shelf.Strings.Prefix
import Derived.Shelf.Bits.Mul64
import Derived.Shelf.Strings.Repeat
import Derived.Shelf.Slices.Reverse
import Derived.Shelf.Slices.Cells
import Derived.Test.YtiahgcaenneonaaDoorProg
import Derived.Lib.LaidTab
import Derived.Laws.StructEq
import Derived.ProofKit
import Derived.OpenShut
import Derived.Deep.DeepHandedRow
import Derived.WideKeyArgs
import Derived.Carry
import Derived.ChangeSame
import Derived.Deep.Slices
import Derived.Test.YtiahgcaenneonaaDoorCards
import Derived.Test.YtiahgcaenneonaaDoorTie
namespace Go.Proofs.YtiahgcaenneonaaDoor
open Go.RowKit Kv
set_option maxRecDepth 100000 in
set_option maxHeartbeats 8000000 in
theorem count_by_p (A:Option Addr)(cc:Nat)(l:List (RMark × Int))(Ah:Option Addr)(ch:Nat)(homes:List Int)(w:World)(hl:Vals w A (l.flatMap markVals))(hln:l.length<=1000)(hh:Ints w (.slice Ah homes.length ch) homes)(hhn:homes.length<=1000)
  (hb:∀ q∈l,I64 q.1.th/\I64 q.1.cell)(bt:Nat)(t:Int)(kt:Blk w bt (.cells #[.int .i64 t] 3))(ask:Int->Bool)(hask:∀ x,ask x=(x==t)) :
  Calls Tryd.prog 48 #[.slice A l.length cc,.slice Ah homes.length ch,.func (.func 50) #[] #[.pointer (some ⟨bt,0,none⟩)]] w fun e w'=>e=.returned (encCt (rcount homes ask (l.map Prod.fst)).2)/\Ext w w':=by
 have hmm:=@run_makeMap Tryd.prog
 have hlh:=Lib.hid hl
 have hhh:=Lib.hid hh
 have hbh:=Lib.hid hb
 have kth:=Lib.hid kt
 have haskh:=Lib.hid hask
 clear hl hh hb kt hask
 go_enter Tryd.func48,Tryd.ntmps48
 go_wp2_with fail
 have hC0:=CtMem.start w rfl rfl rfl rfl rfl rfl
 generalize World.alloc (World.alloc (World.alloc (World.alloc (World.alloc (World.alloc w _) _) _) _) _) _=W0 at *
 generalize hbx:w.heap.size+1+1+1+1+1=bx at *
 generalize hb8:w.heap.size+1+1+1+1=b8 at *
 generalize hbh2:w.heap.size+1+1+1=bh at *
 generalize hbc:w.heap.size+1+1=bc at *
 generalize hb7:w.heap.size+1=b7 at *
 generalize hb6:w.heap.size=b6 at *
 clear hbx hb8 hbh2 hbc hb7 hb6 hmm
 have hCh:=Lib.hid hC0
 clear hC0
 go_loopw [20] (fun a20 wr=>∃ j:Nat,a20=.int .i64 j/\j<=l.length/\Hid (CtMem w wr b6 b7 b8 bx bc bh (4*j) [] (rcount homes ask ((l.map Prod.fst).take j)).1 (rcount homes ask ((l.map Prod.fst).take j)).2)) (fun a20 _=>l.length-(intOf a20).toNat)
 case atStart=>exact⟨0,rfl,by omega,by rw [List.take_zero];exact hCh⟩
 case round =>
  clear hCh
  obtain⟨j,rfl,hj,hC⟩:=hrel
  by_cases hjl:j<l.length
  · have dj:decide ((j:Int)<(l.length:Int))=true:=by rw [decide_eq_true_eq];omega
    obtain⟨q,hq⟩:∃ q,l[j]?=some q:=⟨_,List.getElem?_eq_getElem hjl⟩
    obtain⟨⟨th,kd,x⟩,vl⟩:=q
    obtain⟨b,rfl,hbl,m0,m1,m2,m3⟩:=mark_at (hlh.out.ext hC.out.ext) hq
    have hti:=Lib.hid (hbh.out _ (List.mem_of_getElem? hq)).1
    have hxi:=Lib.hid (hbh.out _ (List.mem_of_getElem? hq)).2
    dsimp only at m0 m1 m2 m3 hti hxi
    have htk:(l.map Prod.fst).take (j+1)=(l.map Prod.fst).take j++[⟨th,kd,x⟩]:=by
     rw [List.take_add_one,List.getElem?_map,hq]
     rfl
    have hst:=rcount_snoc homes ask ((l.map Prod.fst).take j) ⟨th,kd,x⟩
    rw [<- htk] at hst
    obtain⟨n1,n2,n3,n4,n5⟩:=rcount_le homes ask ((l.map Prod.fst).take j)
    have hlt:((l.map Prod.fst).take j).length=j:=by simp;omega
    rw [hlt] at n1 n2 n3 n4 n5
    obtain⟨⟨cz,sj⟩,hp⟩:∃ p,rcount homes ask ((l.map Prod.fst).take j)=p:=⟨_,rfl⟩
    rw [hp] at hst n1 n2 n3 n4 hC
    dsimp only at n1 n2 n3 n4 hC
    have hsth:=Lib.hid hst
    have hnn:=Lib.hid (show sj.reads<=j/\sj.writes<=j/\sj.home<=j/\sj.cache<=j from ⟨n1,n2,n3,n4⟩)
    clear hst htk hq n1 n2 n3 n4 n5 hlt hp
    go_upto_region 8 with fail
    have hM1:=Lib.hid ((hC.out.alloc (.cells #[.int .i64 th,.int .i64 kd,.int .i64 x,.int .i64 vl] 45)).alloc (.cells #[.int .i64 kd,.int .i64 x,.int .i64 vl] 42))
    have k11:=(Blk.new wr (.cells #[.int .i64 th,.int .i64 kd,.int .i64 x,.int .i64 vl] 45)).alloc (.cells #[.int .i64 kd,.int .i64 x,.int .i64 vl] 42)
    have k12:=Blk.new (wr.alloc (.cells #[.int .i64 th,.int .i64 kd,.int .i64 x,.int .i64 vl] 45)) (.cells #[.int .i64 kd,.int .i64 x,.int .i64 vl] 42)
    rw [World.size_alloc] at hM1 k12
    have hne:=Lib.hid (show wr.heap.size≠b7/\wr.heap.size+1≠b7 by have:=hC.out.k7.lt;omega)
    clear hC m0 m1 m2 m3 dj
    generalize World.alloc (World.alloc wr _) _=w1 at *
    generalize hb12:wr.heap.size+1=b12 at *
    generalize hb11:wr.heap.size=b11 at *
    clear hb12 hb11
    by_cases hk1:kd=1
    · subst hk1
      have c80:=hM1.out.k8.cells 0
      have c81:=hM1.out.k8.cells 1
      have c110:=k11.cells 0
      have c120:=k12.cells 0
      have c121:=k12.cells 1
      have c122:=k12.cells 2
      go_wp2_with fail
      refine (holds_p hM1.out.ca hti.out hxi.out).mono ?_
      rintro e w2 ⟨rfl,hx2⟩
      have hM2:=Lib.hid (hM1.out.extend hx2)
      replace k11:=k11.ext hx2
      replace k12:=k12.ext hx2
      clear hx2 hM1 c80 c81 c110 c120 c121 c122
      have c80:=hM2.out.k8.cells 0
      have c81:=hM2.out.k8.cells 1
      have c110:=k11.cells 0
      have c120:=k12.cells 0
      have c121:=k12.cells 1
      have c122:=k12.cells 2
      go_wp2_with fail
      refine (access_p hM2.out.ca (by omega) hti.out hxi.out).mono ?_
      rintro e w3 ⟨rfl,hM3,hK3⟩
      have hC3:=Lib.hid (hM2.out.acc hM3 hK3)
      replace k11:=hK3.blk (x:=b11) (by simp) k11
      replace k12:=hK3.blk (x:=b12) (by simp) k12
      clear hM2 hM3 hK3 c80 c81 c110 c120 c121 c122
      have c110:=k11.cells 0
      have k3t:=kth.out.ext hC3.out.ext
      have hw1:((sj.reads:Int))+1<9223372036854775807:=by have:=hnn.out;omega
      have hw2:((sj.writes:Int))+1<9223372036854775807:=by have:=hnn.out;omega
      have hw3:((sj.home:Int))+1<9223372036854775807:=by have:=hnn.out;omega
      have hw4:((sj.cache:Int))+1<9223372036854775807:=by have:=hnn.out;omega
      go_wp2_with fail
      refine (by1_p th t bt w3 k3t).mono ?_
      rintro e w4 ⟨rfl,rfl⟩
      clear c110 k3t
      rw [<- haskh.out th]
      cases hak:ask th
      · have hakh:=Lib.hid hak
        clear hak
        have hC9h:Hid (CtMem w w3 b6 b7 b8 bx bc bh (4*(j+1)) [] (rcount homes ask ((l.map Prod.fst).take (j+1))).1 (rcount homes ask ((l.map Prod.fst).take (j+1))).2):=Lib.hid (by
         rw [hsth.out,rstep_not (by simp) hakh.out]
         exact (hC3.out.mono (by omega)).less (fun _ h=>(nomatch h)))
        clear hC3 k11 k12
        go_wp2_with fail
        refine⟨⟨j+1,by first | rfl | go_num,by omega,hC9h⟩,?_⟩
        simp [intOf];omega
      · have hakh:=Lib.hid hak
        clear hak
        have c120:=k12.cells 0
        have c7:=hC3.out.k7.cells 0
        have f7:=frozen_of_heap hC3.out.k7
        go_upto_region 15 with fail
        have hC5:=Lib.hid (hC3.out.bump (s':={ sj with reads:=sj.reads+1 }) 0 (.int .i64 ((sj.reads:Int)+1)) rfl rfl)
        replace k11:=k11.set (i:=0) hne.out.1 (.int .i64 ((sj.reads:Int)+1))
        replace k12:=k12.set (i:=0) hne.out.2 (.int .i64 ((sj.reads:Int)+1))
        clear c120 c7 f7 hC3
        generalize World.setCell w3 _ _=w5 at *
        have c121:=k12.cells 1
        have c110:=k11.cells 0
        go_wp2_with fail
        refine (own_p Ah ch homes x th w5 (hhh.out.ext hC5.out.ext) (by omega)).mono ?_
        rintro e wd ⟨rfl,hx6⟩
        have hC6:=Lib.hid (hC5.out.extend hx6)
        replace k11:=k11.ext hx6
        replace k12:=k12.ext hx6
        clear hx6 hC5 c121 c110
        cases hown:ownR0 homes x th
        · have hownh:=Lib.hid hown
          clear hown
          have c72:=hC6.out.k7.cells 2
          have f7:=frozen_of_heap hC6.out.k7
          go_upto_region 17 with fail
          have hC7:=Lib.hid (hC6.out.bump (s':={ ({ sj with reads:=sj.reads+1 }:RCount) with home:=sj.home+1 }) 2 (.int .i64 ((sj.home:Int)+1)) rfl rfl)
          replace k11:=k11.set (i:=2) hne.out.1 (.int .i64 ((sj.home:Int)+1))
          replace k12:=k12.set (i:=2) hne.out.2 (.int .i64 ((sj.home:Int)+1))
          clear c72 f7 hC6
          generalize World.setCell wd ⟨b7,2,none⟩ _=wd at *
          cases hnr:cz.cp th x
          · have hnrh:=Lib.hid hnr
            clear hnr
            have c73:=hC7.out.k7.cells 3
            have f7:=frozen_of_heap hC7.out.k7
            go_upto_region 19 with fail
            have hC8:=Lib.hid (hC7.out.bump (s':={ ({ ({ sj with reads:=sj.reads+1 }:RCount) with home:=({ sj with reads:=sj.reads+1 }:RCount).home+1 }:RCount) with cache:=({ ({ sj with reads:=sj.reads+1 }:RCount) with home:=({ sj with reads:=sj.reads+1 }:RCount).home+1 }:RCount).cache+1 }) 3 (.int .i64 ((sj.cache:Int)+1)) rfl rfl)
            replace k12:=k12.set (i:=3) hne.out.2 (.int .i64 ((sj.cache:Int)+1))
            clear c73 f7
            generalize World.setCell wd ⟨b7,3,none⟩ _=wd at *
            have c121:=k12.cells 1
            obtain⟨fx,y1,y2⟩:=hC8.out.mx
            have y1h:=Lib.hid y1
            have y2h:=Lib.hid y2
            have hC8h:=hC8
            have hnx:4*j+3<maxLen:=by unfold maxLen;omega
            clear y1 y2 k11 k12 hC7 hC8
            go_wp2_with (at_mapUpdate;refine stopD ?_)
            unfold StopD
            refine wpList_store_mapV _ rfl _ _ _ 127 rfl 3 3 key_int Tryd.underlying127 bx (4*j+3) _ fx rfl y1h.out hnx (.int .i64 x) (.int .i64 1) _ rfl rfl (ikey_of hxi.out) ?_
            intro w9 g z1 z2 z3 z4
            have hC9:=(hC8h.out.cell hxi.out y2h.out z1 z2 z3 z4).less (ey:=[]) (fun _ h=>(nomatch h))
            have hend:({ ({ ({ ({ sj with reads:=sj.reads+1 }:RCount) with home:=({ sj with reads:=sj.reads+1 }:RCount).home+1 }:RCount) with cache:=({ ({ sj with reads:=sj.reads+1 }:RCount) with home:=({ sj with reads:=sj.reads+1 }:RCount).home+1 }:RCount).cache+1 }:RCount) with cells:=if x∈sj.cells then sj.cells else sj.cells++[x] }:RCount)=sj.tell homes cz ⟨th,1,x⟩:=by
             have hO:=hownh.out
             have hE:=hnrh.out
             unfold RCount.tell
             simp [hO,hE]
            have hC9h:Hid (CtMem w w9 b6 b7 b8 bx bc bh (4*(j+1)) [] (rcount homes ask ((l.map Prod.fst).take (j+1))).1 (rcount homes ask ((l.map Prod.fst).take (j+1))).2):=Lib.hid (by
             rw [hsth.out,rstep_ask (by simp) hakh.out]
             dsimp only at hC9 hend ⊢
             rw [<- hend]
             exact hC9)
            clear z1 z2 z3 z4 hC9 hend hC8h y1h y2h c121
            go_wp2_with fail
            refine⟨⟨j+1,by first | rfl | go_num,by omega,hC9h⟩,?_⟩
            simp [intOf];omega
          · have hnrh:=Lib.hid hnr
            clear hnr
            go_upto_region 19 with fail
            have hC8:=hC7
            have c121:=k12.cells 1
            obtain⟨fx,y1,y2⟩:=hC8.out.mx
            have y1h:=Lib.hid y1
            have y2h:=Lib.hid y2
            have hC8h:=hC8
            have hnx:4*j+3<maxLen:=by unfold maxLen;omega
            clear y1 y2 k11 k12 hC7 hC8
            go_wp2_with (at_mapUpdate;refine stopD ?_)
            unfold StopD
            refine wpList_store_mapV _ rfl _ _ _ 127 rfl 3 3 key_int Tryd.underlying127 bx (4*j+3) _ fx rfl y1h.out hnx (.int .i64 x) (.int .i64 1) _ rfl rfl (ikey_of hxi.out) ?_
            intro w9 g z1 z2 z3 z4
            have hC9:=(hC8h.out.cell hxi.out y2h.out z1 z2 z3 z4).less (ey:=[]) (fun _ h=>(nomatch h))
            have hend:({ ({ ({ sj with reads:=sj.reads+1 }:RCount) with home:=({ sj with reads:=sj.reads+1 }:RCount).home+1 }:RCount) with cells:=if x∈sj.cells then sj.cells else sj.cells++[x] }:RCount)=sj.tell homes cz ⟨th,1,x⟩:=by
             have hO:=hownh.out
             have hE:=hnrh.out
             unfold RCount.tell
             simp [hO,hE]
            have hC9h:Hid (CtMem w w9 b6 b7 b8 bx bc bh (4*(j+1)) [] (rcount homes ask ((l.map Prod.fst).take (j+1))).1 (rcount homes ask ((l.map Prod.fst).take (j+1))).2):=Lib.hid (by
             rw [hsth.out,rstep_ask (by simp) hakh.out]
             dsimp only at hC9 hend ⊢
             rw [<- hend]
             exact hC9)
            clear z1 z2 z3 z4 hC9 hend hC8h y1h y2h c121
            go_wp2_with fail
            refine⟨⟨j+1,by first | rfl | go_num,by omega,hC9h⟩,?_⟩
            simp [intOf];omega
        · have hownh:=Lib.hid hown
          clear hown
          go_upto_region 17 with fail
          have hC7:=hC6
          clear hC6
          cases hnr:cz.cp th x
          · have hnrh:=Lib.hid hnr
            clear hnr
            have c73:=hC7.out.k7.cells 3
            have f7:=frozen_of_heap hC7.out.k7
            go_upto_region 19 with fail
            have hC8:=Lib.hid (hC7.out.bump (s':={ ({ sj with reads:=sj.reads+1 }:RCount) with cache:=({ sj with reads:=sj.reads+1 }:RCount).cache+1 }) 3 (.int .i64 ((sj.cache:Int)+1)) rfl rfl)
            replace k12:=k12.set (i:=3) hne.out.2 (.int .i64 ((sj.cache:Int)+1))
            clear c73 f7
            generalize World.setCell wd ⟨b7,3,none⟩ _=wd at *
            have c121:=k12.cells 1
            obtain⟨fx,y1,y2⟩:=hC8.out.mx
            have y1h:=Lib.hid y1
            have y2h:=Lib.hid y2
            have hC8h:=hC8
            have hnx:4*j+3<maxLen:=by unfold maxLen;omega
            clear y1 y2 k11 k12 hC7 hC8
            go_wp2_with (at_mapUpdate;refine stopD ?_)
            unfold StopD
            refine wpList_store_mapV _ rfl _ _ _ 127 rfl 3 3 key_int Tryd.underlying127 bx (4*j+3) _ fx rfl y1h.out hnx (.int .i64 x) (.int .i64 1) _ rfl rfl (ikey_of hxi.out) ?_
            intro w9 g z1 z2 z3 z4
            have hC9:=(hC8h.out.cell hxi.out y2h.out z1 z2 z3 z4).less (ey:=[]) (fun _ h=>(nomatch h))
            have hend:({ ({ ({ sj with reads:=sj.reads+1 }:RCount) with cache:=({ sj with reads:=sj.reads+1 }:RCount).cache+1 }:RCount) with cells:=if x∈sj.cells then sj.cells else sj.cells++[x] }:RCount)=sj.tell homes cz ⟨th,1,x⟩:=by
             have hO:=hownh.out
             have hE:=hnrh.out
             unfold RCount.tell
             simp [hO,hE]
            have hC9h:Hid (CtMem w w9 b6 b7 b8 bx bc bh (4*(j+1)) [] (rcount homes ask ((l.map Prod.fst).take (j+1))).1 (rcount homes ask ((l.map Prod.fst).take (j+1))).2):=Lib.hid (by
             rw [hsth.out,rstep_ask (by simp) hakh.out]
             dsimp only at hC9 hend ⊢
             rw [<- hend]
             exact hC9)
            clear z1 z2 z3 z4 hC9 hend hC8h y1h y2h c121
            go_wp2_with fail
            refine⟨⟨j+1,by first | rfl | go_num,by omega,hC9h⟩,?_⟩
            simp [intOf];omega
          · have hnrh:=Lib.hid hnr
            clear hnr
            go_upto_region 19 with fail
            have hC8:=hC7
            have c121:=k12.cells 1
            obtain⟨fx,y1,y2⟩:=hC8.out.mx
            have y1h:=Lib.hid y1
            have y2h:=Lib.hid y2
            have hC8h:=hC8
            have hnx:4*j+3<maxLen:=by unfold maxLen;omega
            clear y1 y2 k11 k12 hC7 hC8
            go_wp2_with (at_mapUpdate;refine stopD ?_)
            unfold StopD
            refine wpList_store_mapV _ rfl _ _ _ 127 rfl 3 3 key_int Tryd.underlying127 bx (4*j+3) _ fx rfl y1h.out hnx (.int .i64 x) (.int .i64 1) _ rfl rfl (ikey_of hxi.out) ?_
            intro w9 g z1 z2 z3 z4
            have hC9:=(hC8h.out.cell hxi.out y2h.out z1 z2 z3 z4).less (ey:=[]) (fun _ h=>(nomatch h))
            have hend:({ ({ sj with reads:=sj.reads+1 }:RCount) with cells:=if x∈sj.cells then sj.cells else sj.cells++[x] }:RCount)=sj.tell homes cz ⟨th,1,x⟩:=by
             have hO:=hownh.out
             have hE:=hnrh.out
             unfold RCount.tell
             simp [hO,hE]
            have hC9h:Hid (CtMem w w9 b6 b7 b8 bx bc bh (4*(j+1)) [] (rcount homes ask ((l.map Prod.fst).take (j+1))).1 (rcount homes ask ((l.map Prod.fst).take (j+1))).2):=Lib.hid (by
             rw [hsth.out,rstep_ask (by simp) hakh.out]
             dsimp only at hC9 hend ⊢
             rw [<- hend]
             exact hC9)
            clear z1 z2 z3 z4 hC9 hend hC8h y1h y2h c121
            go_wp2_with fail
            refine⟨⟨j+1,by first | rfl | go_num,by omega,hC9h⟩,?_⟩
            simp [intOf];omega
    by_cases hk2:kd=2
    · subst hk2
      have c80:=hM1.out.k8.cells 0
      have c81:=hM1.out.k8.cells 1
      have c110:=k11.cells 0
      have c120:=k12.cells 0
      have c121:=k12.cells 1
      have c122:=k12.cells 2
      go_wp2_with fail
      have hM2:=hM1
      clear hM1
      refine (access_p hM2.out.ca (by omega) hti.out hxi.out).mono ?_
      rintro e w3 ⟨rfl,hM3,hK3⟩
      have hC3:=Lib.hid (hM2.out.acc hM3 hK3)
      replace k11:=hK3.blk (x:=b11) (by simp) k11
      replace k12:=hK3.blk (x:=b12) (by simp) k12
      clear hM2 hM3 hK3 c80 c81 c110 c120 c121 c122
      have c110:=k11.cells 0
      have k3t:=kth.out.ext hC3.out.ext
      have hw1:((sj.reads:Int))+1<9223372036854775807:=by have:=hnn.out;omega
      have hw2:((sj.writes:Int))+1<9223372036854775807:=by have:=hnn.out;omega
      have hw3:((sj.home:Int))+1<9223372036854775807:=by have:=hnn.out;omega
      have hw4:((sj.cache:Int))+1<9223372036854775807:=by have:=hnn.out;omega
      go_wp2_with fail
      refine (by1_p th t bt w3 k3t).mono ?_
      rintro e w4 ⟨rfl,rfl⟩
      clear c110 k3t
      rw [<- haskh.out th]
      cases hak:ask th
      · have hakh:=Lib.hid hak
        clear hak
        have hC9h:Hid (CtMem w w3 b6 b7 b8 bx bc bh (4*(j+1)) [] (rcount homes ask ((l.map Prod.fst).take (j+1))).1 (rcount homes ask ((l.map Prod.fst).take (j+1))).2):=Lib.hid (by
         rw [hsth.out,rstep_not (by simp) hakh.out]
         exact (hC3.out.mono (by omega)).less (fun _ h=>(nomatch h)))
        clear hC3 k11 k12
        go_wp2_with fail
        refine⟨⟨j+1,by first | rfl | go_num,by omega,hC9h⟩,?_⟩
        simp [intOf];omega
      · have hakh:=Lib.hid hak
        clear hak
        have c120:=k12.cells 0
        have c7:=hC3.out.k7.cells 1
        have f7:=frozen_of_heap hC3.out.k7
        go_upto_region 15 with fail
        have hC5:=Lib.hid (hC3.out.bump (s':={ sj with writes:=sj.writes+1 }) 1 (.int .i64 ((sj.writes:Int)+1)) rfl rfl)
        replace k11:=k11.set (i:=1) hne.out.1 (.int .i64 ((sj.writes:Int)+1))
        replace k12:=k12.set (i:=1) hne.out.2 (.int .i64 ((sj.writes:Int)+1))
        clear c120 c7 f7 hC3
        generalize World.setCell w3 _ _=w5 at *
        have c121:=k12.cells 1
        have c110:=k11.cells 0
        go_wp2_with fail
        refine (own_p Ah ch homes x th w5 (hhh.out.ext hC5.out.ext) (by omega)).mono ?_
        rintro e wd ⟨rfl,hx6⟩
        have hC6:=Lib.hid (hC5.out.extend hx6)
        replace k11:=k11.ext hx6
        replace k12:=k12.ext hx6
        clear hx6 hC5 c121 c110
        cases hown:ownR0 homes x th
        · have hownh:=Lib.hid hown
          clear hown
          have c72:=hC6.out.k7.cells 2
          have f7:=frozen_of_heap hC6.out.k7
          go_upto_region 17 with fail
          have hC7:=Lib.hid (hC6.out.bump (s':={ ({ sj with writes:=sj.writes+1 }:RCount) with home:=sj.home+1 }) 2 (.int .i64 ((sj.home:Int)+1)) rfl rfl)
          replace k11:=k11.set (i:=2) hne.out.1 (.int .i64 ((sj.home:Int)+1))
          replace k12:=k12.set (i:=2) hne.out.2 (.int .i64 ((sj.home:Int)+1))
          clear c72 f7 hC6
          generalize World.setCell wd ⟨b7,2,none⟩ _=wd at *
          have hnrh:Hid (True):=Lib.hid trivial
          have c73:=hC7.out.k7.cells 3
          have f7:=frozen_of_heap hC7.out.k7
          go_upto_region 19 with fail
          have hC8:=Lib.hid (hC7.out.bump (s':={ ({ ({ sj with writes:=sj.writes+1 }:RCount) with home:=({ sj with writes:=sj.writes+1 }:RCount).home+1 }:RCount) with cache:=({ ({ sj with writes:=sj.writes+1 }:RCount) with home:=({ sj with writes:=sj.writes+1 }:RCount).home+1 }:RCount).cache+1 }) 3 (.int .i64 ((sj.cache:Int)+1)) rfl rfl)
          replace k12:=k12.set (i:=3) hne.out.2 (.int .i64 ((sj.cache:Int)+1))
          clear c73 f7
          generalize World.setCell wd ⟨b7,3,none⟩ _=wd at *
          have c121:=k12.cells 1
          obtain⟨fx,y1,y2⟩:=hC8.out.mx
          have y1h:=Lib.hid y1
          have y2h:=Lib.hid y2
          have hC8h:=hC8
          have hnx:4*j+3<maxLen:=by unfold maxLen;omega
          clear y1 y2 k11 k12 hC7 hC8
          go_wp2_with (at_mapUpdate;refine stopD ?_)
          unfold StopD
          refine wpList_store_mapV _ rfl _ _ _ 127 rfl 3 3 key_int Tryd.underlying127 bx (4*j+3) _ fx rfl y1h.out hnx (.int .i64 x) (.int .i64 1) _ rfl rfl (ikey_of hxi.out) ?_
          intro w9 g z1 z2 z3 z4
          have hC9:=(hC8h.out.cell hxi.out y2h.out z1 z2 z3 z4).less (ey:=[]) (fun _ h=>(nomatch h))
          have hend:({ ({ ({ ({ sj with writes:=sj.writes+1 }:RCount) with home:=({ sj with writes:=sj.writes+1 }:RCount).home+1 }:RCount) with cache:=({ ({ sj with writes:=sj.writes+1 }:RCount) with home:=({ sj with writes:=sj.writes+1 }:RCount).home+1 }:RCount).cache+1 }:RCount) with cells:=if x∈sj.cells then sj.cells else sj.cells++[x] }:RCount)=sj.tell homes cz ⟨th,2,x⟩:=by
           have hO:=hownh.out
           have hE:=hnrh.out
           unfold RCount.tell
           simp [hO,hE]
          have hC9h:Hid (CtMem w w9 b6 b7 b8 bx bc bh (4*(j+1)) [] (rcount homes ask ((l.map Prod.fst).take (j+1))).1 (rcount homes ask ((l.map Prod.fst).take (j+1))).2):=Lib.hid (by
           rw [hsth.out,rstep_ask (by simp) hakh.out]
           dsimp only at hC9 hend ⊢
           rw [<- hend]
           exact hC9)
          clear z1 z2 z3 z4 hC9 hend hC8h y1h y2h c121
          go_wp2_with fail
          refine⟨⟨j+1,by first | rfl | go_num,by omega,hC9h⟩,?_⟩
          simp [intOf];omega
        · have hownh:=Lib.hid hown
          clear hown
          go_upto_region 17 with fail
          have hC7:=hC6
          clear hC6
          have hnrh:Hid (True):=Lib.hid trivial
          have c73:=hC7.out.k7.cells 3
          have f7:=frozen_of_heap hC7.out.k7
          go_upto_region 19 with fail
          have hC8:=Lib.hid (hC7.out.bump (s':={ ({ sj with writes:=sj.writes+1 }:RCount) with cache:=({ sj with writes:=sj.writes+1 }:RCount).cache+1 }) 3 (.int .i64 ((sj.cache:Int)+1)) rfl rfl)
          replace k12:=k12.set (i:=3) hne.out.2 (.int .i64 ((sj.cache:Int)+1))
          clear c73 f7
          generalize World.setCell wd ⟨b7,3,none⟩ _=wd at *
          have c121:=k12.cells 1
          obtain⟨fx,y1,y2⟩:=hC8.out.mx
          have y1h:=Lib.hid y1
          have y2h:=Lib.hid y2
          have hC8h:=hC8
          have hnx:4*j+3<maxLen:=by unfold maxLen;omega
          clear y1 y2 k11 k12 hC7 hC8
          go_wp2_with (at_mapUpdate;refine stopD ?_)
          unfold StopD
          refine wpList_store_mapV _ rfl _ _ _ 127 rfl 3 3 key_int Tryd.underlying127 bx (4*j+3) _ fx rfl y1h.out hnx (.int .i64 x) (.int .i64 1) _ rfl rfl (ikey_of hxi.out) ?_
          intro w9 g z1 z2 z3 z4
          have hC9:=(hC8h.out.cell hxi.out y2h.out z1 z2 z3 z4).less (ey:=[]) (fun _ h=>(nomatch h))
          have hend:({ ({ ({ sj with writes:=sj.writes+1 }:RCount) with cache:=({ sj with writes:=sj.writes+1 }:RCount).cache+1 }:RCount) with cells:=if x∈sj.cells then sj.cells else sj.cells++[x] }:RCount)=sj.tell homes cz ⟨th,2,x⟩:=by
           have hO:=hownh.out
           have hE:=hnrh.out
           unfold RCount.tell
           simp [hO,hE]
          have hC9h:Hid (CtMem w w9 b6 b7 b8 bx bc bh (4*(j+1)) [] (rcount homes ask ((l.map Prod.fst).take (j+1))).1 (rcount homes ask ((l.map Prod.fst).take (j+1))).2):=Lib.hid (by
           rw [hsth.out,rstep_ask (by simp) hakh.out]
           dsimp only at hC9 hend ⊢
           rw [<- hend]
           exact hC9)
          clear z1 z2 z3 z4 hC9 hend hC8h y1h y2h c121
          go_wp2_with fail
          refine⟨⟨j+1,by first | rfl | go_num,by omega,hC9h⟩,?_⟩
          simp [intOf];omega
    have e1:(kd != 1)=true:=by simpa using hk1
    have e2:(kd != 2)=true:=by simpa using hk2
    have c120:=k12.cells 0
    have hC9h:Hid (CtMem w w1 b6 b7 b8 bx bc bh (4*(j+1)) [] (rcount homes ask ((l.map Prod.fst).take (j+1))).1 (rcount homes ask ((l.map Prod.fst).take (j+1))).2):=Lib.hid (by
     rw [hsth.out,rstep_skip hk1 hk2]
     exact (hM1.out.mono (by omega)).less (fun _ h=>(nomatch h)))
    clear hM1 k11 k12
    go_wp2_with fail
    refine⟨⟨j+1,by first | rfl | go_num,by omega,hC9h⟩,?_⟩
    simp [intOf];omega
  · have dj:decide ((j:Int)<(l.length:Int))=false:=by rw [decide_eq_false_iff_not];omega
    obtain rfl:j=l.length:=by omega
    rw [show (l.map Prod.fst).take l.length=l.map Prod.fst by rw [List.take_of_length_le];simp] at hC
    obtain⟨fx,y1,y2⟩:=hC.out.mx
    obtain⟨⟨cz,s⟩,hp⟩:∃ p,rcount homes ask (l.map Prod.fst)=p:=⟨_,rfl⟩
    rw [hp] at hC y1 y2
    have hph:=Lib.hid hp
    clear hp
    dsimp only at hC y1 y2
    have y1h:=Lib.hid y1
    clear y1 y2
    have k6:=hC.out.k6
    have k7:=hC.out.k7
    have hx:=Lib.hid ((hC.out.ext.setCell (p:=⟨b7,4,none⟩) hC.out.ge.1 (.int .i64 (s.cells.length:Int))))
    have hn67:=hC.out.ne.1
    have hge6:=hC.out.ge6
    clear hC
    have c6:=k6.cells 0
    have f6:=frozen_of_heap k6
    have f7:=frozen_of_heap k7
    have c70:=k7.cells 0
    have c71:=k7.cells 1
    have c72:=k7.cells 2
    have c73:=k7.cells 3
    have c74:=k7.cells 4
    go_upto_region 22 with (at_len;refine wpList_len_mapV _ rfl _ 127 rfl 3 3 Tryd.underlying127 bx _ _ fx rfl y1h.out ?_)
    have k7w:=heap_setCell (i:=4) k7 (.int .i64 (s.cells.length:Int))
    have k6w:=k6.set (c:=b7) (i:=4) (Ne.symm hn67) (.int .i64 (s.cells.length:Int))
    clear c6 c70 c71 c72 c73 c74 f6 f7 k6 k7
    generalize World.setCell wr _ _=W at *
    replace k7w:Blk W b7 (.cells #[.int .i64 s.reads,.int .i64 s.writes,.int .i64 s.home,.int .i64 s.cache,.int .i64 s.cells.length] 47):=k7w
    have c70:=k7w.cells 0
    have c71:=k7w.cells 1
    have c72:=k7w.cells 2
    have c73:=k7w.cells 3
    have c74:=k7w.cells 4
    have f6:=frozen_of_heap k6w
    have c6:=k6w.cells
    clear k7w
    go_wp2_with fail
    have hK:=heap_setCell (i:=4) (heap_setCell (i:=3) (heap_setCell (i:=2) (heap_setCell (i:=1) (heap_setCell (i:=0) k6w (.int .i64 s.reads)) (.int .i64 s.writes)) (.int .i64 s.home)) (.int .i64 s.cache)) (.int .i64 s.cells.length)
    have c:=Blk.cells (w:=((((W.setCell ⟨b6,0,none⟩ (.int .i64 s.reads)).setCell ⟨b6,1,none⟩ (.int .i64 s.writes)).setCell ⟨b6,2,none⟩ (.int .i64 s.home)).setCell ⟨b6,3,none⟩ (.int .i64 s.cache)).setCell ⟨b6,4,none⟩ (.int .i64 s.cells.length)) hK
    have hx5:=((((hx.out.setCell (p:=⟨b6,0,none⟩) hge6 (.int .i64 s.reads)).setCell (p:=⟨b6,1,none⟩) hge6 (.int .i64 s.writes)).setCell (p:=⟨b6,2,none⟩) hge6 (.int .i64 s.home)).setCell (p:=⟨b6,3,none⟩) hge6 (.int .i64 s.cache)).setCell (p:=⟨b6,4,none⟩) hge6 (.int .i64 s.cells.length)
    refine bodyPost_ret (v:=encCt s) (by simp [results,Tryd.results48,go_sem,c,encCt]) rfl ?_
    rw [hph.out]
    exact⟨rfl,hx5⟩
set_option maxRecDepth 100000 in
set_option maxHeartbeats 8000000 in
theorem count_of_p (A:Option Addr)(cc:Nat)(l:List (RMark × Int))(Ah:Option Addr)(ch:Nat)(homes:List Int)(w:World)(hl:Vals w A (l.flatMap markVals))(hln:l.length<=1000)(hh:Ints w (.slice Ah homes.length ch) homes)(hhn:homes.length<=1000)
  (hb:∀ q∈l,I64 q.1.th/\I64 q.1.cell)(ask:Int->Bool)(hask:∀ x,ask x=true) :
  Calls Tryd.prog 48 #[.slice A l.length cc,.slice Ah homes.length ch,.func (.func 49) #[] #[]] w fun e w'=>e=.returned (encCt (rcount homes ask (l.map Prod.fst)).2)/\Ext w w':=by
 have hmm:=@run_makeMap Tryd.prog
 have hlh:=Lib.hid hl
 have hhh:=Lib.hid hh
 have hbh:=Lib.hid hb
 have haskh:=Lib.hid hask
 clear hl hh hb hask
 go_enter Tryd.func48,Tryd.ntmps48
 go_wp2_with fail
 have hC0:=CtMem.start w rfl rfl rfl rfl rfl rfl
 generalize World.alloc (World.alloc (World.alloc (World.alloc (World.alloc (World.alloc w _) _) _) _) _) _=W0 at *
 generalize hbx:w.heap.size+1+1+1+1+1=bx at *
 generalize hb8:w.heap.size+1+1+1+1=b8 at *
 generalize hbh2:w.heap.size+1+1+1=bh at *
 generalize hbc:w.heap.size+1+1=bc at *
 generalize hb7:w.heap.size+1=b7 at *
 generalize hb6:w.heap.size=b6 at *
 clear hbx hb8 hbh2 hbc hb7 hb6 hmm
 have hCh:=Lib.hid hC0
 clear hC0
 go_loopw [20] (fun a20 wr=>∃ j:Nat,a20=.int .i64 j/\j<=l.length/\Hid (CtMem w wr b6 b7 b8 bx bc bh (4*j) [] (rcount homes ask ((l.map Prod.fst).take j)).1 (rcount homes ask ((l.map Prod.fst).take j)).2)) (fun a20 _=>l.length-(intOf a20).toNat)
 case atStart=>exact⟨0,rfl,by omega,by rw [List.take_zero];exact hCh⟩
 case round =>
  clear hCh
  obtain⟨j,rfl,hj,hC⟩:=hrel
  by_cases hjl:j<l.length
  · have dj:decide ((j:Int)<(l.length:Int))=true:=by rw [decide_eq_true_eq];omega
    obtain⟨q,hq⟩:∃ q,l[j]?=some q:=⟨_,List.getElem?_eq_getElem hjl⟩
    obtain⟨⟨th,kd,x⟩,vl⟩:=q
    obtain⟨b,rfl,hbl,m0,m1,m2,m3⟩:=mark_at (hlh.out.ext hC.out.ext) hq
    have hti:=Lib.hid (hbh.out _ (List.mem_of_getElem? hq)).1
    have hxi:=Lib.hid (hbh.out _ (List.mem_of_getElem? hq)).2
    dsimp only at m0 m1 m2 m3 hti hxi
    have htk:(l.map Prod.fst).take (j+1)=(l.map Prod.fst).take j++[⟨th,kd,x⟩]:=by
     rw [List.take_add_one,List.getElem?_map,hq]
     rfl
    have hst:=rcount_snoc homes ask ((l.map Prod.fst).take j) ⟨th,kd,x⟩
    rw [<- htk] at hst
    obtain⟨n1,n2,n3,n4,n5⟩:=rcount_le homes ask ((l.map Prod.fst).take j)
    have hlt:((l.map Prod.fst).take j).length=j:=by simp;omega
    rw [hlt] at n1 n2 n3 n4 n5
    obtain⟨⟨cz,sj⟩,hp⟩:∃ p,rcount homes ask ((l.map Prod.fst).take j)=p:=⟨_,rfl⟩
    rw [hp] at hst n1 n2 n3 n4 hC
    dsimp only at n1 n2 n3 n4 hC
    have hsth:=Lib.hid hst
    have hnn:=Lib.hid (show sj.reads<=j/\sj.writes<=j/\sj.home<=j/\sj.cache<=j from ⟨n1,n2,n3,n4⟩)
    clear hst htk hq n1 n2 n3 n4 n5 hlt hp
    go_upto_region 8 with fail
    have hM1:=Lib.hid ((hC.out.alloc (.cells #[.int .i64 th,.int .i64 kd,.int .i64 x,.int .i64 vl] 45)).alloc (.cells #[.int .i64 kd,.int .i64 x,.int .i64 vl] 42))
    have k11:=(Blk.new wr (.cells #[.int .i64 th,.int .i64 kd,.int .i64 x,.int .i64 vl] 45)).alloc (.cells #[.int .i64 kd,.int .i64 x,.int .i64 vl] 42)
    have k12:=Blk.new (wr.alloc (.cells #[.int .i64 th,.int .i64 kd,.int .i64 x,.int .i64 vl] 45)) (.cells #[.int .i64 kd,.int .i64 x,.int .i64 vl] 42)
    rw [World.size_alloc] at hM1 k12
    have hne:=Lib.hid (show wr.heap.size≠b7/\wr.heap.size+1≠b7 by have:=hC.out.k7.lt;omega)
    clear hC m0 m1 m2 m3 dj
    generalize World.alloc (World.alloc wr _) _=w1 at *
    generalize hb12:wr.heap.size+1=b12 at *
    generalize hb11:wr.heap.size=b11 at *
    clear hb12 hb11
    by_cases hk1:kd=1
    · subst hk1
      have c80:=hM1.out.k8.cells 0
      have c81:=hM1.out.k8.cells 1
      have c110:=k11.cells 0
      have c120:=k12.cells 0
      have c121:=k12.cells 1
      have c122:=k12.cells 2
      go_wp2_with fail
      refine (holds_p hM1.out.ca hti.out hxi.out).mono ?_
      rintro e w2 ⟨rfl,hx2⟩
      have hM2:=Lib.hid (hM1.out.extend hx2)
      replace k11:=k11.ext hx2
      replace k12:=k12.ext hx2
      clear hx2 hM1 c80 c81 c110 c120 c121 c122
      have c80:=hM2.out.k8.cells 0
      have c81:=hM2.out.k8.cells 1
      have c110:=k11.cells 0
      have c120:=k12.cells 0
      have c121:=k12.cells 1
      have c122:=k12.cells 2
      go_wp2_with fail
      refine (access_p hM2.out.ca (by omega) hti.out hxi.out).mono ?_
      rintro e w3 ⟨rfl,hM3,hK3⟩
      have hC3:=Lib.hid (hM2.out.acc hM3 hK3)
      replace k11:=hK3.blk (x:=b11) (by simp) k11
      replace k12:=hK3.blk (x:=b12) (by simp) k12
      clear hM2 hM3 hK3 c80 c81 c110 c120 c121 c122
      have c110:=k11.cells 0
      have k3t:=trivial
      have hw1:((sj.reads:Int))+1<9223372036854775807:=by have:=hnn.out;omega
      have hw2:((sj.writes:Int))+1<9223372036854775807:=by have:=hnn.out;omega
      have hw3:((sj.home:Int))+1<9223372036854775807:=by have:=hnn.out;omega
      have hw4:((sj.cache:Int))+1<9223372036854775807:=by have:=hnn.out;omega
      go_wp2_with fail
      refine (of1_p th w3).mono ?_
      rintro e w4 ⟨rfl,rfl⟩
      clear c110 k3t
      cases hak:ask th
      · rw [haskh.out th] at hak
        cases hak
      · have hakh:=Lib.hid hak
        clear hak
        have c120:=k12.cells 0
        have c7:=hC3.out.k7.cells 0
        have f7:=frozen_of_heap hC3.out.k7
        go_upto_region 15 with fail
        have hC5:=Lib.hid (hC3.out.bump (s':={ sj with reads:=sj.reads+1 }) 0 (.int .i64 ((sj.reads:Int)+1)) rfl rfl)
        replace k11:=k11.set (i:=0) hne.out.1 (.int .i64 ((sj.reads:Int)+1))
        replace k12:=k12.set (i:=0) hne.out.2 (.int .i64 ((sj.reads:Int)+1))
        clear c120 c7 f7 hC3
        generalize World.setCell w3 _ _=w5 at *
        have c121:=k12.cells 1
        have c110:=k11.cells 0
        go_wp2_with fail
        refine (own_p Ah ch homes x th w5 (hhh.out.ext hC5.out.ext) (by omega)).mono ?_
        rintro e wd ⟨rfl,hx6⟩
        have hC6:=Lib.hid (hC5.out.extend hx6)
        replace k11:=k11.ext hx6
        replace k12:=k12.ext hx6
        clear hx6 hC5 c121 c110
        cases hown:ownR0 homes x th
        · have hownh:=Lib.hid hown
          clear hown
          have c72:=hC6.out.k7.cells 2
          have f7:=frozen_of_heap hC6.out.k7
          go_upto_region 17 with fail
          have hC7:=Lib.hid (hC6.out.bump (s':={ ({ sj with reads:=sj.reads+1 }:RCount) with home:=sj.home+1 }) 2 (.int .i64 ((sj.home:Int)+1)) rfl rfl)
          replace k11:=k11.set (i:=2) hne.out.1 (.int .i64 ((sj.home:Int)+1))
          replace k12:=k12.set (i:=2) hne.out.2 (.int .i64 ((sj.home:Int)+1))
          clear c72 f7 hC6
          generalize World.setCell wd ⟨b7,2,none⟩ _=wd at *
          cases hnr:cz.cp th x
          · have hnrh:=Lib.hid hnr
            clear hnr
            have c73:=hC7.out.k7.cells 3
            have f7:=frozen_of_heap hC7.out.k7
            go_upto_region 19 with fail
            have hC8:=Lib.hid (hC7.out.bump (s':={ ({ ({ sj with reads:=sj.reads+1 }:RCount) with home:=({ sj with reads:=sj.reads+1 }:RCount).home+1 }:RCount) with cache:=({ ({ sj with reads:=sj.reads+1 }:RCount) with home:=({ sj with reads:=sj.reads+1 }:RCount).home+1 }:RCount).cache+1 }) 3 (.int .i64 ((sj.cache:Int)+1)) rfl rfl)
            replace k12:=k12.set (i:=3) hne.out.2 (.int .i64 ((sj.cache:Int)+1))
            clear c73 f7
            generalize World.setCell wd ⟨b7,3,none⟩ _=wd at *
            have c121:=k12.cells 1
            obtain⟨fx,y1,y2⟩:=hC8.out.mx
            have y1h:=Lib.hid y1
            have y2h:=Lib.hid y2
            have hC8h:=hC8
            have hnx:4*j+3<maxLen:=by unfold maxLen;omega
            clear y1 y2 k11 k12 hC7 hC8
            go_wp2_with (at_mapUpdate;refine stopD ?_)
            unfold StopD
            refine wpList_store_mapV _ rfl _ _ _ 127 rfl 3 3 key_int Tryd.underlying127 bx (4*j+3) _ fx rfl y1h.out hnx (.int .i64 x) (.int .i64 1) _ rfl rfl (ikey_of hxi.out) ?_
            intro w9 g z1 z2 z3 z4
            have hC9:=(hC8h.out.cell hxi.out y2h.out z1 z2 z3 z4).less (ey:=[]) (fun _ h=>(nomatch h))
            have hend:({ ({ ({ ({ sj with reads:=sj.reads+1 }:RCount) with home:=({ sj with reads:=sj.reads+1 }:RCount).home+1 }:RCount) with cache:=({ ({ sj with reads:=sj.reads+1 }:RCount) with home:=({ sj with reads:=sj.reads+1 }:RCount).home+1 }:RCount).cache+1 }:RCount) with cells:=if x∈sj.cells then sj.cells else sj.cells++[x] }:RCount)=sj.tell homes cz ⟨th,1,x⟩:=by
             have hO:=hownh.out
             have hE:=hnrh.out
             unfold RCount.tell
             simp [hO,hE]
            have hC9h:Hid (CtMem w w9 b6 b7 b8 bx bc bh (4*(j+1)) [] (rcount homes ask ((l.map Prod.fst).take (j+1))).1 (rcount homes ask ((l.map Prod.fst).take (j+1))).2):=Lib.hid (by
             rw [hsth.out,rstep_ask (by simp) hakh.out]
             dsimp only at hC9 hend ⊢
             rw [<- hend]
             exact hC9)
            clear z1 z2 z3 z4 hC9 hend hC8h y1h y2h c121
            go_wp2_with fail
            refine⟨⟨j+1,by first | rfl | go_num,by omega,hC9h⟩,?_⟩
            simp [intOf];omega
          · have hnrh:=Lib.hid hnr
            clear hnr
            go_upto_region 19 with fail
            have hC8:=hC7
            have c121:=k12.cells 1
            obtain⟨fx,y1,y2⟩:=hC8.out.mx
            have y1h:=Lib.hid y1
            have y2h:=Lib.hid y2
            have hC8h:=hC8
            have hnx:4*j+3<maxLen:=by unfold maxLen;omega
            clear y1 y2 k11 k12 hC7 hC8
            go_wp2_with (at_mapUpdate;refine stopD ?_)
            unfold StopD
            refine wpList_store_mapV _ rfl _ _ _ 127 rfl 3 3 key_int Tryd.underlying127 bx (4*j+3) _ fx rfl y1h.out hnx (.int .i64 x) (.int .i64 1) _ rfl rfl (ikey_of hxi.out) ?_
            intro w9 g z1 z2 z3 z4
            have hC9:=(hC8h.out.cell hxi.out y2h.out z1 z2 z3 z4).less (ey:=[]) (fun _ h=>(nomatch h))
            have hend:({ ({ ({ sj with reads:=sj.reads+1 }:RCount) with home:=({ sj with reads:=sj.reads+1 }:RCount).home+1 }:RCount) with cells:=if x∈sj.cells then sj.cells else sj.cells++[x] }:RCount)=sj.tell homes cz ⟨th,1,x⟩:=by
             have hO:=hownh.out
             have hE:=hnrh.out
             unfold RCount.tell
             simp [hO,hE]
            have hC9h:Hid (CtMem w w9 b6 b7 b8 bx bc bh (4*(j+1)) [] (rcount homes ask ((l.map Prod.fst).take (j+1))).1 (rcount homes ask ((l.map Prod.fst).take (j+1))).2):=Lib.hid (by
             rw [hsth.out,rstep_ask (by simp) hakh.out]
             dsimp only at hC9 hend ⊢
             rw [<- hend]
             exact hC9)
            clear z1 z2 z3 z4 hC9 hend hC8h y1h y2h c121
            go_wp2_with fail
            refine⟨⟨j+1,by first | rfl | go_num,by omega,hC9h⟩,?_⟩
            simp [intOf];omega
        · have hownh:=Lib.hid hown
          clear hown
          go_upto_region 17 with fail
          have hC7:=hC6
          clear hC6
          cases hnr:cz.cp th x
          · have hnrh:=Lib.hid hnr
            clear hnr
            have c73:=hC7.out.k7.cells 3
            have f7:=frozen_of_heap hC7.out.k7
            go_upto_region 19 with fail
            have hC8:=Lib.hid (hC7.out.bump (s':={ ({ sj with reads:=sj.reads+1 }:RCount) with cache:=({ sj with reads:=sj.reads+1 }:RCount).cache+1 }) 3 (.int .i64 ((sj.cache:Int)+1)) rfl rfl)
            replace k12:=k12.set (i:=3) hne.out.2 (.int .i64 ((sj.cache:Int)+1))
            clear c73 f7
            generalize World.setCell wd ⟨b7,3,none⟩ _=wd at *
            have c121:=k12.cells 1
            obtain⟨fx,y1,y2⟩:=hC8.out.mx
            have y1h:=Lib.hid y1
            have y2h:=Lib.hid y2
            have hC8h:=hC8
            have hnx:4*j+3<maxLen:=by unfold maxLen;omega
            clear y1 y2 k11 k12 hC7 hC8
            go_wp2_with (at_mapUpdate;refine stopD ?_)
            unfold StopD
            refine wpList_store_mapV _ rfl _ _ _ 127 rfl 3 3 key_int Tryd.underlying127 bx (4*j+3) _ fx rfl y1h.out hnx (.int .i64 x) (.int .i64 1) _ rfl rfl (ikey_of hxi.out) ?_
            intro w9 g z1 z2 z3 z4
            have hC9:=(hC8h.out.cell hxi.out y2h.out z1 z2 z3 z4).less (ey:=[]) (fun _ h=>(nomatch h))
            have hend:({ ({ ({ sj with reads:=sj.reads+1 }:RCount) with cache:=({ sj with reads:=sj.reads+1 }:RCount).cache+1 }:RCount) with cells:=if x∈sj.cells then sj.cells else sj.cells++[x] }:RCount)=sj.tell homes cz ⟨th,1,x⟩:=by
             have hO:=hownh.out
             have hE:=hnrh.out
             unfold RCount.tell
             simp [hO,hE]
            have hC9h:Hid (CtMem w w9 b6 b7 b8 bx bc bh (4*(j+1)) [] (rcount homes ask ((l.map Prod.fst).take (j+1))).1 (rcount homes ask ((l.map Prod.fst).take (j+1))).2):=Lib.hid (by
             rw [hsth.out,rstep_ask (by simp) hakh.out]
             dsimp only at hC9 hend ⊢
             rw [<- hend]
             exact hC9)
            clear z1 z2 z3 z4 hC9 hend hC8h y1h y2h c121
            go_wp2_with fail
            refine⟨⟨j+1,by first | rfl | go_num,by omega,hC9h⟩,?_⟩
            simp [intOf];omega
          · have hnrh:=Lib.hid hnr
            clear hnr
            go_upto_region 19 with fail
            have hC8:=hC7
            have c121:=k12.cells 1
            obtain⟨fx,y1,y2⟩:=hC8.out.mx
            have y1h:=Lib.hid y1
            have y2h:=Lib.hid y2
            have hC8h:=hC8
            have hnx:4*j+3<maxLen:=by unfold maxLen;omega
            clear y1 y2 k11 k12 hC7 hC8
            go_wp2_with (at_mapUpdate;refine stopD ?_)
            unfold StopD
            refine wpList_store_mapV _ rfl _ _ _ 127 rfl 3 3 key_int Tryd.underlying127 bx (4*j+3) _ fx rfl y1h.out hnx (.int .i64 x) (.int .i64 1) _ rfl rfl (ikey_of hxi.out) ?_
            intro w9 g z1 z2 z3 z4
            have hC9:=(hC8h.out.cell hxi.out y2h.out z1 z2 z3 z4).less (ey:=[]) (fun _ h=>(nomatch h))
            have hend:({ ({ sj with reads:=sj.reads+1 }:RCount) with cells:=if x∈sj.cells then sj.cells else sj.cells++[x] }:RCount)=sj.tell homes cz ⟨th,1,x⟩:=by
             have hO:=hownh.out
             have hE:=hnrh.out
             unfold RCount.tell
             simp [hO,hE]
            have hC9h:Hid (CtMem w w9 b6 b7 b8 bx bc bh (4*(j+1)) [] (rcount homes ask ((l.map Prod.fst).take (j+1))).1 (rcount homes ask ((l.map Prod.fst).take (j+1))).2):=Lib.hid (by
             rw [hsth.out,rstep_ask (by simp) hakh.out]
             dsimp only at hC9 hend ⊢
             rw [<- hend]
             exact hC9)
            clear z1 z2 z3 z4 hC9 hend hC8h y1h y2h c121
            go_wp2_with fail
            refine⟨⟨j+1,by first | rfl | go_num,by omega,hC9h⟩,?_⟩
            simp [intOf];omega
    by_cases hk2:kd=2
    · subst hk2
      have c80:=hM1.out.k8.cells 0
      have c81:=hM1.out.k8.cells 1
      have c110:=k11.cells 0
      have c120:=k12.cells 0
      have c121:=k12.cells 1
      have c122:=k12.cells 2
      go_wp2_with fail
      have hM2:=hM1
      clear hM1
      refine (access_p hM2.out.ca (by omega) hti.out hxi.out).mono ?_
      rintro e w3 ⟨rfl,hM3,hK3⟩
      have hC3:=Lib.hid (hM2.out.acc hM3 hK3)
      replace k11:=hK3.blk (x:=b11) (by simp) k11
      replace k12:=hK3.blk (x:=b12) (by simp) k12
      clear hM2 hM3 hK3 c80 c81 c110 c120 c121 c122
      have c110:=k11.cells 0
      have k3t:=trivial
      have hw1:((sj.reads:Int))+1<9223372036854775807:=by have:=hnn.out;omega
      have hw2:((sj.writes:Int))+1<9223372036854775807:=by have:=hnn.out;omega
      have hw3:((sj.home:Int))+1<9223372036854775807:=by have:=hnn.out;omega
      have hw4:((sj.cache:Int))+1<9223372036854775807:=by have:=hnn.out;omega
      go_wp2_with fail
      refine (of1_p th w3).mono ?_
      rintro e w4 ⟨rfl,rfl⟩
      clear c110 k3t
      cases hak:ask th
      · rw [haskh.out th] at hak
        cases hak
      · have hakh:=Lib.hid hak
        clear hak
        have c120:=k12.cells 0
        have c7:=hC3.out.k7.cells 1
        have f7:=frozen_of_heap hC3.out.k7
        go_upto_region 15 with fail
        have hC5:=Lib.hid (hC3.out.bump (s':={ sj with writes:=sj.writes+1 }) 1 (.int .i64 ((sj.writes:Int)+1)) rfl rfl)
        replace k11:=k11.set (i:=1) hne.out.1 (.int .i64 ((sj.writes:Int)+1))
        replace k12:=k12.set (i:=1) hne.out.2 (.int .i64 ((sj.writes:Int)+1))
        clear c120 c7 f7 hC3
        generalize World.setCell w3 _ _=w5 at *
        have c121:=k12.cells 1
        have c110:=k11.cells 0
        go_wp2_with fail
        refine (own_p Ah ch homes x th w5 (hhh.out.ext hC5.out.ext) (by omega)).mono ?_
        rintro e wd ⟨rfl,hx6⟩
        have hC6:=Lib.hid (hC5.out.extend hx6)
        replace k11:=k11.ext hx6
        replace k12:=k12.ext hx6
        clear hx6 hC5 c121 c110
        cases hown:ownR0 homes x th
        · have hownh:=Lib.hid hown
          clear hown
          have c72:=hC6.out.k7.cells 2
          have f7:=frozen_of_heap hC6.out.k7
          go_upto_region 17 with fail
          have hC7:=Lib.hid (hC6.out.bump (s':={ ({ sj with writes:=sj.writes+1 }:RCount) with home:=sj.home+1 }) 2 (.int .i64 ((sj.home:Int)+1)) rfl rfl)
          replace k11:=k11.set (i:=2) hne.out.1 (.int .i64 ((sj.home:Int)+1))
          replace k12:=k12.set (i:=2) hne.out.2 (.int .i64 ((sj.home:Int)+1))
          clear c72 f7 hC6
          generalize World.setCell wd ⟨b7,2,none⟩ _=wd at *
          have hnrh:Hid (True):=Lib.hid trivial
          have c73:=hC7.out.k7.cells 3
          have f7:=frozen_of_heap hC7.out.k7
          go_upto_region 19 with fail
          have hC8:=Lib.hid (hC7.out.bump (s':={ ({ ({ sj with writes:=sj.writes+1 }:RCount) with home:=({ sj with writes:=sj.writes+1 }:RCount).home+1 }:RCount) with cache:=({ ({ sj with writes:=sj.writes+1 }:RCount) with home:=({ sj with writes:=sj.writes+1 }:RCount).home+1 }:RCount).cache+1 }) 3 (.int .i64 ((sj.cache:Int)+1)) rfl rfl)
          replace k12:=k12.set (i:=3) hne.out.2 (.int .i64 ((sj.cache:Int)+1))
          clear c73 f7
          generalize World.setCell wd ⟨b7,3,none⟩ _=wd at *
          have c121:=k12.cells 1
          obtain⟨fx,y1,y2⟩:=hC8.out.mx
          have y1h:=Lib.hid y1
          have y2h:=Lib.hid y2
          have hC8h:=hC8
          have hnx:4*j+3<maxLen:=by unfold maxLen;omega
          clear y1 y2 k11 k12 hC7 hC8
          go_wp2_with (at_mapUpdate;refine stopD ?_)
          unfold StopD
          refine wpList_store_mapV _ rfl _ _ _ 127 rfl 3 3 key_int Tryd.underlying127 bx (4*j+3) _ fx rfl y1h.out hnx (.int .i64 x) (.int .i64 1) _ rfl rfl (ikey_of hxi.out) ?_
          intro w9 g z1 z2 z3 z4
          have hC9:=(hC8h.out.cell hxi.out y2h.out z1 z2 z3 z4).less (ey:=[]) (fun _ h=>(nomatch h))
          have hend:({ ({ ({ ({ sj with writes:=sj.writes+1 }:RCount) with home:=({ sj with writes:=sj.writes+1 }:RCount).home+1 }:RCount) with cache:=({ ({ sj with writes:=sj.writes+1 }:RCount) with home:=({ sj with writes:=sj.writes+1 }:RCount).home+1 }:RCount).cache+1 }:RCount) with cells:=if x∈sj.cells then sj.cells else sj.cells++[x] }:RCount)=sj.tell homes cz ⟨th,2,x⟩:=by
           have hO:=hownh.out
           have hE:=hnrh.out
           unfold RCount.tell
           simp [hO,hE]
          have hC9h:Hid (CtMem w w9 b6 b7 b8 bx bc bh (4*(j+1)) [] (rcount homes ask ((l.map Prod.fst).take (j+1))).1 (rcount homes ask ((l.map Prod.fst).take (j+1))).2):=Lib.hid (by
           rw [hsth.out,rstep_ask (by simp) hakh.out]
           dsimp only at hC9 hend ⊢
           rw [<- hend]
           exact hC9)
          clear z1 z2 z3 z4 hC9 hend hC8h y1h y2h c121
          go_wp2_with fail
          refine⟨⟨j+1,by first | rfl | go_num,by omega,hC9h⟩,?_⟩
          simp [intOf];omega
        · have hownh:=Lib.hid hown
          clear hown
          go_upto_region 17 with fail
          have hC7:=hC6
          clear hC6
          have hnrh:Hid (True):=Lib.hid trivial
          have c73:=hC7.out.k7.cells 3
          have f7:=frozen_of_heap hC7.out.k7
          go_upto_region 19 with fail
          have hC8:=Lib.hid (hC7.out.bump (s':={ ({ sj with writes:=sj.writes+1 }:RCount) with cache:=({ sj with writes:=sj.writes+1 }:RCount).cache+1 }) 3 (.int .i64 ((sj.cache:Int)+1)) rfl rfl)
          replace k12:=k12.set (i:=3) hne.out.2 (.int .i64 ((sj.cache:Int)+1))
          clear c73 f7
          generalize World.setCell wd ⟨b7,3,none⟩ _=wd at *
          have c121:=k12.cells 1
          obtain⟨fx,y1,y2⟩:=hC8.out.mx
          have y1h:=Lib.hid y1
          have y2h:=Lib.hid y2
          have hC8h:=hC8
          have hnx:4*j+3<maxLen:=by unfold maxLen;omega
          clear y1 y2 k11 k12 hC7 hC8
          go_wp2_with (at_mapUpdate;refine stopD ?_)
          unfold StopD
          refine wpList_store_mapV _ rfl _ _ _ 127 rfl 3 3 key_int Tryd.underlying127 bx (4*j+3) _ fx rfl y1h.out hnx (.int .i64 x) (.int .i64 1) _ rfl rfl (ikey_of hxi.out) ?_
          intro w9 g z1 z2 z3 z4
          have hC9:=(hC8h.out.cell hxi.out y2h.out z1 z2 z3 z4).less (ey:=[]) (fun _ h=>(nomatch h))
          have hend:({ ({ ({ sj with writes:=sj.writes+1 }:RCount) with cache:=({ sj with writes:=sj.writes+1 }:RCount).cache+1 }:RCount) with cells:=if x∈sj.cells then sj.cells else sj.cells++[x] }:RCount)=sj.tell homes cz ⟨th,2,x⟩:=by
           have hO:=hownh.out
           have hE:=hnrh.out
           unfold RCount.tell
           simp [hO,hE]
          have hC9h:Hid (CtMem w w9 b6 b7 b8 bx bc bh (4*(j+1)) [] (rcount homes ask ((l.map Prod.fst).take (j+1))).1 (rcount homes ask ((l.map Prod.fst).take (j+1))).2):=Lib.hid (by
           rw [hsth.out,rstep_ask (by simp) hakh.out]
           dsimp only at hC9 hend ⊢
           rw [<- hend]
           exact hC9)
          clear z1 z2 z3 z4 hC9 hend hC8h y1h y2h c121
          go_wp2_with fail
          refine⟨⟨j+1,by first | rfl | go_num,by omega,hC9h⟩,?_⟩
          simp [intOf];omega
    have e1:(kd != 1)=true:=by simpa using hk1
    have e2:(kd != 2)=true:=by simpa using hk2
    have c120:=k12.cells 0
    have hC9h:Hid (CtMem w w1 b6 b7 b8 bx bc bh (4*(j+1)) [] (rcount homes ask ((l.map Prod.fst).take (j+1))).1 (rcount homes ask ((l.map Prod.fst).take (j+1))).2):=Lib.hid (by
     rw [hsth.out,rstep_skip hk1 hk2]
     exact (hM1.out.mono (by omega)).less (fun _ h=>(nomatch h)))
    clear hM1 k11 k12
    go_wp2_with fail
    refine⟨⟨j+1,by first | rfl | go_num,by omega,hC9h⟩,?_⟩
    simp [intOf];omega
  · have dj:decide ((j:Int)<(l.length:Int))=false:=by rw [decide_eq_false_iff_not];omega
    obtain rfl:j=l.length:=by omega
    rw [show (l.map Prod.fst).take l.length=l.map Prod.fst by rw [List.take_of_length_le];simp] at hC
    obtain⟨fx,y1,y2⟩:=hC.out.mx
    obtain⟨⟨cz,s⟩,hp⟩:∃ p,rcount homes ask (l.map Prod.fst)=p:=⟨_,rfl⟩
    rw [hp] at hC y1 y2
    have hph:=Lib.hid hp
    clear hp
    dsimp only at hC y1 y2
    have y1h:=Lib.hid y1
    clear y1 y2
    have k6:=hC.out.k6
    have k7:=hC.out.k7
    have hx:=Lib.hid ((hC.out.ext.setCell (p:=⟨b7,4,none⟩) hC.out.ge.1 (.int .i64 (s.cells.length:Int))))
    have hn67:=hC.out.ne.1
    have hge6:=hC.out.ge6
    clear hC
    have c6:=k6.cells 0
    have f6:=frozen_of_heap k6
    have f7:=frozen_of_heap k7
    have c70:=k7.cells 0
    have c71:=k7.cells 1
    have c72:=k7.cells 2
    have c73:=k7.cells 3
    have c74:=k7.cells 4
    go_upto_region 22 with (at_len;refine wpList_len_mapV _ rfl _ 127 rfl 3 3 Tryd.underlying127 bx _ _ fx rfl y1h.out ?_)
    have k7w:=heap_setCell (i:=4) k7 (.int .i64 (s.cells.length:Int))
    have k6w:=k6.set (c:=b7) (i:=4) (Ne.symm hn67) (.int .i64 (s.cells.length:Int))
    clear c6 c70 c71 c72 c73 c74 f6 f7 k6 k7
    generalize World.setCell wr _ _=W at *
    replace k7w:Blk W b7 (.cells #[.int .i64 s.reads,.int .i64 s.writes,.int .i64 s.home,.int .i64 s.cache,.int .i64 s.cells.length] 47):=k7w
    have c70:=k7w.cells 0
    have c71:=k7w.cells 1
    have c72:=k7w.cells 2
    have c73:=k7w.cells 3
    have c74:=k7w.cells 4
    have f6:=frozen_of_heap k6w
    have c6:=k6w.cells
    clear k7w
    go_wp2_with fail
    have hK:=heap_setCell (i:=4) (heap_setCell (i:=3) (heap_setCell (i:=2) (heap_setCell (i:=1) (heap_setCell (i:=0) k6w (.int .i64 s.reads)) (.int .i64 s.writes)) (.int .i64 s.home)) (.int .i64 s.cache)) (.int .i64 s.cells.length)
    have c:=Blk.cells (w:=((((W.setCell ⟨b6,0,none⟩ (.int .i64 s.reads)).setCell ⟨b6,1,none⟩ (.int .i64 s.writes)).setCell ⟨b6,2,none⟩ (.int .i64 s.home)).setCell ⟨b6,3,none⟩ (.int .i64 s.cache)).setCell ⟨b6,4,none⟩ (.int .i64 s.cells.length)) hK
    have hx5:=((((hx.out.setCell (p:=⟨b6,0,none⟩) hge6 (.int .i64 s.reads)).setCell (p:=⟨b6,1,none⟩) hge6 (.int .i64 s.writes)).setCell (p:=⟨b6,2,none⟩) hge6 (.int .i64 s.home)).setCell (p:=⟨b6,3,none⟩) hge6 (.int .i64 s.cache)).setCell (p:=⟨b6,4,none⟩) hge6 (.int .i64 s.cells.length)
    refine bodyPost_ret (v:=encCt s) (by simp [results,Tryd.results48,go_sem,c,encCt]) rfl ?_
    rw [hph.out]
    exact⟨rfl,hx5⟩
theorem within_any (n lo hi:Int)(w:World) :
  Calls Tryd.prog 47 #[.int .i64 n,.int .i64 lo,.int .i64 hi] w fun e w'=>e=.returned (.int .i64 (within n lo hi))/\w=w':=by
 unfold within
 go_enter Tryd.func47,Tryd.ntmps47
 go_wp2
 all_goals go_ret
 all_goals simp [*]
theorem wrap_r (n top:Int)(w:World) :
  Calls Tryd.prog 15 #[.int .i64 n,.int .i64 top] w fun e w'=>e=.returned (.int .i64 (wrapI n top))/\w=w':=by
 have h1:=within_bd top 0 1099511627776 (by omega)
 have he:=clamp_word top
 have h2:=tmod_neg_fix n (clamp top 1099511627776+1) (by omega)
 have h3:=tmod_pos_fix n (clamp top 1099511627776+1) (by omega)
 have h4:=Int.emod_lt_of_pos n (b:=clamp top 1099511627776+1) (by omega)
 have h5:=Int.emod_nonneg n (b:=clamp top 1099511627776+1) (by omega)
 rw [he] at h2 h3 h4 h5
 have H:Hid ((n.tmod (within top 0 1099511627776+1)<0->wrap64 (n.tmod (within top 0 1099511627776+1)+(within top 0 1099511627776+1))=wrapI n top)/\(0<=n.tmod (within top 0 1099511627776+1)->n.tmod (within top 0 1099511627776+1)=wrapI n top)):=by
  unfold wrapI
  rw [he]
  refine⟨fun h=>?_,fun h=>?_⟩
  · rw [h2 h,w64 _ (by omega) (by omega)]
  · rw [h3 h]
 clear h2 h3 h4 h5 he
 go_enter Tryd.func15,Tryd.ntmps15
 go_wp2_with (go_at_call 47;refine (within_any _ _ _ _).mono ?_;rintro e w' ⟨rfl,rfl⟩)
 all_goals go_ret
 · exact⟨ret_int (H.out.1 ‹_›),rfl⟩
 · exact⟨ret_int (H.out.2 ‹_›),rfl⟩
end Go.Proofs.YtiahgcaenneonaaDoor
namespace Go.Proofs
open Go.Shelf
def Tryd.lays156_ren:Go.Shelf.Ren:=⟨fun | 156=>68 | 165=>75 | 166=>76 | 169=>78 | 240=>88 | 241=>89 | 276=>96 | 277=>97 | n=>n,fun | 31=>121 | 9=>9 | 3=>3 | 4=>4 | 0=>0 | 20=>20 | 72=>137 | 76=>141 | 70=>134 | 37=>135 | 75=>140 | 127=>161 | 164=>167 | 5=>5 | 80=>144 | n=>n,fun | n=>n⟩
theorem Tryd.lays156:Go.Proofs.Lays.n156 Tryd.prog Tryd.lays156_ren:={
 mixed:=by kernel_rfl
 f156:=Tryd.func68.trans (congrArg some (by kernel_rfl))
 f165:=Tryd.func75.trans (congrArg some (by kernel_rfl))
 f166:=Tryd.func76.trans (congrArg some (by kernel_rfl))
 f169:=Tryd.func78.trans (congrArg some (by kernel_rfl))
 f240:=Tryd.func88.trans (congrArg some (by kernel_rfl))
 f241:=Tryd.func89.trans (congrArg some (by kernel_rfl))
 f276:=Tryd.func96.trans (congrArg some (by kernel_rfl))
 f277:=Tryd.func97.trans (congrArg some (by kernel_rfl))
 t0:=Tryd.underlying0
 a0:=Tryd.isAgg0
 z0:=Tryd.sizeOf0
 v0:=Tryd.zeroValue0
 t3:=Tryd.underlying3
 a3:=Tryd.isAgg3
 z3:=Tryd.sizeOf3
 v3:=Tryd.zeroValue3
 t4:=Tryd.underlying4
 a4:=Tryd.isAgg4
 z4:=Tryd.sizeOf4
 v4:=Tryd.zeroValue4
 t9:=Tryd.underlying9
 a9:=Tryd.isAgg9
 z9:=Tryd.sizeOf9
 v9:=Tryd.zeroValue9
 t20:=Tryd.underlying20
 a20:=Tryd.isAgg20
 z20:=Tryd.sizeOf20
 v20:=Tryd.zeroValue20
 t31:=Tryd.underlying121
 a31:=Tryd.isAgg121
 z31:=Tryd.sizeOf121
 v31:=Tryd.zeroValue121
 t37:=Tryd.underlying135
 a37:=Tryd.isAgg135
 z37:=Tryd.sizeOf135
 v37:=Tryd.zeroValue135
 t70:=Tryd.underlying134
 a70:=Tryd.isAgg134
 z70:=Tryd.sizeOf134
 v70:=Tryd.zeroValue134
 t72:=Tryd.underlying137
 a72:=Tryd.isAgg137
 z72:=Tryd.sizeOf137
 v72:=Tryd.zeroValue137
 t75:=Tryd.underlying140
 a75:=Tryd.isAgg140
 z75:=Tryd.sizeOf140
 v75:=Tryd.zeroValue140
 t76:=Tryd.underlying141
 a76:=Tryd.isAgg141
 z76:=Tryd.sizeOf141
 v76:=Tryd.zeroValue141
 t127:=Tryd.underlying161
 a127:=Tryd.isAgg161
 z127:=Tryd.sizeOf161
 v127:=Tryd.zeroValue161
 t164:=Tryd.underlying167
 a164:=Tryd.isAgg167
 z164:=Tryd.sizeOf167
 v164:=Tryd.zeroValue167 }
theorem Tryd.Builder_Extra_156:Builder.Extra Tryd.prog Tryd.lays156_ren:={
 sizeBuilder:=by kernel_rfl
 liesBuilder:=by kernel_rfl
 t5:=Tryd.underlying5
 a5:=Tryd.isAgg5
 z5:=Tryd.sizeOf5
 v5:=Tryd.zeroValue5
 infoByte:=by kernel_rfl
 cellsByte:=by kernel_rfl
 sizeByte:=by kernel_rfl
 neB5:=by decide }
open Go.RowKit in
theorem Tryd.strings_Join (bk o c:Nat)(xs:List ByteArray)(sep:ByteArray)(w:World)(hcells:∀ (j:Nat) x,xs[j]?=some x->w.cell? ⟨bk,o+j,none⟩=some (.string x))(hbk:bk<w.heap.size)(hN:xs.length<=140737488355328)(hcap:xs.length<=c)(hlen:(Lib.join (xs.map (·.data.toList)) sep.data.toList).length<=140737488355328) :
  Calls Tryd.prog 68 #[.slice (some ⟨bk,o,none⟩) xs.length c,.string sep] w fun e w'=>e=.returned (.string ⟨(Lib.join (xs.map (·.data.toList)) sep.data.toList).toArray⟩)/\Below w.heap.size w w':=Any.strings_Join Tryd.lays156 Tryd.Builder_Extra_156 bk o c xs sep w hcells hbk hN hcap hlen
def Tryd.lays171_ren:Go.Shelf.Ren:=⟨fun | 171=>55 | 243=>72 | 246=>84 | 283=>92 | 284=>93 | 285=>94 | 286=>95 | 129=>99 | 317=>98 | 318=>100 | 319=>101 | 320=>102 | 337=>103 | 338=>91 | n=>n,fun | 3=>3 | 9=>9 | 2=>2 | 4=>4 | 171=>163 | 0=>0 | 53=>91 | 37=>135 | 5=>5 | 173=>165 | 212=>172 | 51=>156 | 20=>20 | 213=>173 | 46=>130 | 232=>176 | 233=>170 | n=>n,fun | 17=>1 | 18=>3 | 19=>0 | n=>n⟩
theorem Tryd.lays171:Go.Proofs.Lays.n171 Tryd.prog Tryd.lays171_ren:={
 mixed:=by kernel_rfl
 f129:=Tryd.func99.trans (congrArg some (by kernel_rfl))
 f171:=Tryd.func55.trans (congrArg some (by kernel_rfl))
 f243:=Tryd.func72.trans (congrArg some (by kernel_rfl))
 f246:=Tryd.func84.trans (congrArg some (by kernel_rfl))
 f283:=Tryd.func92.trans (congrArg some (by kernel_rfl))
 f284:=Tryd.func93.trans (congrArg some (by kernel_rfl))
 f285:=Tryd.func94.trans (congrArg some (by kernel_rfl))
 f286:=Tryd.func95.trans (congrArg some (by kernel_rfl))
 f317:=Tryd.func98.trans (congrArg some (by kernel_rfl))
 f318:=Tryd.func100.trans (congrArg some (by kernel_rfl))
 f319:=Tryd.func101.trans (congrArg some (by kernel_rfl))
 f320:=Tryd.func102.trans (congrArg some (by kernel_rfl))
 f337:=Tryd.func103.trans (congrArg some (by kernel_rfl))
 f338:=Tryd.func91.trans (congrArg some (by kernel_rfl))
 t0:=Tryd.underlying0
 a0:=Tryd.isAgg0
 z0:=Tryd.sizeOf0
 v0:=Tryd.zeroValue0
 t2:=Tryd.underlying2
 a2:=Tryd.isAgg2
 z2:=Tryd.sizeOf2
 v2:=Tryd.zeroValue2
 t3:=Tryd.underlying3
 a3:=Tryd.isAgg3
 z3:=Tryd.sizeOf3
 v3:=Tryd.zeroValue3
 t4:=Tryd.underlying4
 a4:=Tryd.isAgg4
 z4:=Tryd.sizeOf4
 v4:=Tryd.zeroValue4
 t5:=Tryd.underlying5
 a5:=Tryd.isAgg5
 z5:=Tryd.sizeOf5
 v5:=Tryd.zeroValue5
 t9:=Tryd.underlying9
 a9:=Tryd.isAgg9
 z9:=Tryd.sizeOf9
 v9:=Tryd.zeroValue9
 t20:=Tryd.underlying20
 a20:=Tryd.isAgg20
 z20:=Tryd.sizeOf20
 v20:=Tryd.zeroValue20
 t37:=Tryd.underlying135
 a37:=Tryd.isAgg135
 z37:=Tryd.sizeOf135
 v37:=Tryd.zeroValue135
 t46:=Tryd.underlying130
 a46:=Tryd.isAgg130
 z46:=Tryd.sizeOf130
 v46:=Tryd.zeroValue130
 t51:=Tryd.underlying156
 a51:=Tryd.isAgg156
 z51:=Tryd.sizeOf156
 v51:=Tryd.zeroValue156
 t53:=Tryd.underlying91
 a53:=Tryd.isAgg91
 z53:=Tryd.sizeOf91
 v53:=Tryd.zeroValue91
 t171:=Tryd.underlying163
 a171:=Tryd.isAgg163
 z171:=Tryd.sizeOf163
 v171:=Tryd.zeroValue163
 t173:=Tryd.underlying165
 a173:=Tryd.isAgg165
 z173:=Tryd.sizeOf165
 v173:=Tryd.zeroValue165
 t212:=Tryd.underlying172
 a212:=Tryd.isAgg172
 z212:=Tryd.sizeOf172
 v212:=Tryd.zeroValue172
 t213:=Tryd.underlying173
 a213:=Tryd.isAgg173
 z213:=Tryd.sizeOf173
 t232:=Tryd.underlying176
 a232:=Tryd.isAgg176
 z232:=Tryd.sizeOf176
 v232:=Tryd.zeroValue176
 t233:=Tryd.underlying170
 a233:=Tryd.isAgg170
 z233:=Tryd.sizeOf170
 v233:=Tryd.zeroValue170
 g17:=by kernel_rfl
 g18:=by kernel_rfl
 g19:=by kernel_rfl }
open Go.RowKit Go.Sort Go.Lib in
theorem Tryd.strconv_Itoa_small (i:Nat)(hi:i<100)(w:World) :
  Calls Tryd.prog 55 #[.int .i64 i] w fun e w'=>e=.returned (.string ⟨(Lib.decDigits i).toArray⟩)/\w'=w:=Any.strconv_Itoa_small Tryd.lays171 i hi w
end Go.Proofs
namespace Go.Proofs.YtiahgcaenneonaaDoor
open Go.RowKit Kv
def deBruijn64:List Int:=[0,1,56,2,57,49,28,3,61,58,42,50,38,29,17,4,62,47,59,36,45,43,51,22,53,39,33,30,24,18,12,5,63,55,48,27,60,41,37,16,46,35,44,21,52,32,23,11,54,26,40,15,34,20,31,10,25,14,19,9,13,8,7,6]
structure Tabs (w:World):Prop where
 pow10:Lib.TabIs Tryd.prog w "internal/strconv.uint64pow10" .u64 Lib.pow10Tab
 bruijn:Lib.TabIs Tryd.prog w "math/bits.deBruijn64tab" .u8 deBruijn64
theorem Tabs.ext {w w':World}(h:Tabs w)(hx:Ext w w'):Tabs w' :=
 ⟨Lib.tabBelow_of_tabIs h.pow10 _ hx,Lib.tabBelow_of_tabIs h.bruijn _ hx⟩
theorem five_stored {w0 W:World}{b:Nat}{t:TypeId}{c0 c1 c2 c3 c4:Value}(k:Blk W b (.cells #[c0,c1,c2,c3,c4] t))(hx:Ext w0 W)(hb:w0.heap.size<=b)(a0 a1 a2 a3 a4:Value) :
  Blk (((((W.setCell ⟨b,0,none⟩ a0).setCell ⟨b,1,none⟩ a1).setCell ⟨b,2,none⟩ a2).setCell ⟨b,3,none⟩ a3).setCell ⟨b,4,none⟩ a4) b (.cells #[a0,a1,a2,a3,a4] t) /\
  Ext w0 (((((W.setCell ⟨b,0,none⟩ a0).setCell ⟨b,1,none⟩ a1).setCell ⟨b,2,none⟩ a2).setCell ⟨b,3,none⟩ a3).setCell ⟨b,4,none⟩ a4) :=
 ⟨heap_setCell (i:=4) (heap_setCell (i:=3) (heap_setCell (i:=2) (heap_setCell (i:=1) (heap_setCell (i:=0) k a0) a1) a2) a3) a4,((((hx.setCell (p:=⟨b,0,none⟩) hb a0).setCell (p:=⟨b,1,none⟩) hb a1).setCell (p:=⟨b,2,none⟩) hb a2).setCell (p:=⟨b,3,none⟩) hb a3).setCell (p:=⟨b,4,none⟩) hb a4⟩
theorem of_p (A:Option Addr)(cc:Nat)(l:List (RMark × Int))(Ah:Option Addr)(ch:Nat)(homes:List Int)(w:World)(hl:Vals w A (l.flatMap markVals))(hln:l.length<=1000)(hh:Ints w (.slice Ah homes.length ch) homes)(hhn:homes.length<=1000)
  (hb:∀ q∈l,I64 q.1.th/\I64 q.1.cell)(ask:Int->Bool)(hask:∀ x,ask x=true) :
  Calls Tryd.prog 16 #[.slice A l.length cc,.slice Ah homes.length ch] w fun e w'=>e=.returned (encCt (rcount homes ask (l.map Prod.fst)).2)/\Ext w w':=by
 have x1:=(Ext.refl w).alloc (.cells #[.int .i64 0,.int .i64 0,.int .i64 0,.int .i64 0,.int .i64 0] 47)
 have hx:=Lib.hid x1
 have hc:=Lib.hid (count_of_p A cc l Ah ch homes _ (hl.ext x1) hln (hh.ext x1) hhn hb ask hask)
 have k:=Blk.new w (.cells #[.int .i64 0,.int .i64 0,.int .i64 0,.int .i64 0,.int .i64 0] 47)
 have hkh:=Lib.hid k
 have hge:=Lib.hid (Nat.le_refl w.heap.size)
 clear x1 k hl hh hb hask
 go_enter Tryd.func16,Tryd.ntmps16
 go_wp2_with fail
 refine hc.out.mono ?_
 rintro e w2 ⟨rfl,hx2⟩
 have k2:=hkh.out.ext hx2
 have hxx:=Lib.hid (hx.out.trans hx2)
 clear hx hc hkh hx2
 obtain⟨⟨cq,s⟩,hp⟩:∃ p,rcount homes ask (l.map Prod.fst)=p:=⟨_,rfl⟩
 rw [hp]
 have hph:=Lib.hid hp
 clear hp
 have c0:=k2.cells
 have f0:=frozen_of_heap k2
 unfold encCt
 dsimp only
 go_wp2_with fail
 obtain⟨q1,q2⟩:=five_stored k2 hxx.out hge.out (.int .i64 s.reads) (.int .i64 s.writes) (.int .i64 s.home) (.int .i64 s.cache) (.int .i64 s.cells.length)
 have cz:=q1.cells
 refine bodyPost_ret (v:=.agg #[.int .i64 s.reads,.int .i64 s.writes,.int .i64 s.home,.int .i64 s.cache,.int .i64 s.cells.length]) (by simp [results,Tryd.results16,go_sem,cz]) rfl ?_
 rw [hph.out]
 exact⟨rfl,q2⟩
theorem by_p (A:Option Addr)(cc:Nat)(l:List (RMark × Int))(Ah:Option Addr)(ch:Nat)(homes:List Int)(w:World)(hl:Vals w A (l.flatMap markVals))(hln:l.length<=1000)(hh:Ints w (.slice Ah homes.length ch) homes)(hhn:homes.length<=1000)
  (hb:∀ q∈l,I64 q.1.th/\I64 q.1.cell)(t:Int)(ask:Int->Bool)(hask:∀ x,ask x=(x==t)) :
  Calls Tryd.prog 17 #[.slice A l.length cc,.slice Ah homes.length ch,.int .i64 t] w fun e w'=>e=.returned (encCt (rcount homes ask (l.map Prod.fst)).2)/\Ext w w':=by
 have x1:=((Ext.refl w).alloc (.cells #[.int .i64 t] 3)).alloc (.cells #[.int .i64 0,.int .i64 0,.int .i64 0,.int .i64 0,.int .i64 0] 47)
 have hx:=Lib.hid x1
 have hc:=Lib.hid (count_by_p A cc l Ah ch homes _ (hl.ext x1) hln (hh.ext x1) hhn hb w.heap.size t ((Blk.new w (.cells #[.int .i64 t] 3)).alloc _) ask hask)
 have k:=Blk.new (w.alloc (.cells #[.int .i64 t] 3)) (.cells #[.int .i64 0,.int .i64 0,.int .i64 0,.int .i64 0,.int .i64 0] 47)
 rw [World.size_alloc] at k
 have hkh:=Lib.hid k
 have hge:=Lib.hid (Nat.le_succ w.heap.size)
 clear x1 k hl hh hb hask
 go_enter Tryd.func17,Tryd.ntmps17
 go_wp2_with fail
 refine hc.out.mono ?_
 rintro e w2 ⟨rfl,hx2⟩
 have k2:=hkh.out.ext hx2
 have hxx:=Lib.hid (hx.out.trans hx2)
 clear hx hc hkh hx2
 obtain⟨⟨cq,s⟩,hp⟩:∃ p,rcount homes ask (l.map Prod.fst)=p:=⟨_,rfl⟩
 rw [hp]
 have hph:=Lib.hid hp
 clear hp
 have c0:=k2.cells
 have f0:=frozen_of_heap k2
 unfold encCt
 dsimp only
 go_wp2_with fail
 obtain⟨q1,q2⟩:=five_stored k2 hxx.out hge.out (.int .i64 s.reads) (.int .i64 s.writes) (.int .i64 s.home) (.int .i64 s.cache) (.int .i64 s.cells.length)
 have cz:=q1.cells
 refine bodyPost_ret (v:=.agg #[.int .i64 s.reads,.int .i64 s.writes,.int .i64 s.home,.int .i64 s.cache,.int .i64 s.cells.length]) (by simp [results,Tryd.results17,go_sem,cz]) rfl ?_
 rw [hph.out]
 exact⟨rfl,q2⟩
def StrRow (w:World) (base:Nat) (v:Value) (l:List ByteArray):Prop:=w.ownsRow base 9 1 v l.length (l.map Value.string)
theorem info_str:(Tryd.prog.info? 9).map (fun i=>(i.zero,i.size,i.bytes))=some (some (.string ⟨#[]⟩),1,16):=by kernel_rfl
theorem append_str {ops:Array Oper}{rest:List Oper}{o:Oper}{a:Act}{Q:Exit->Act->World->Prop}{w:World}(hgd:o.guard=none)(s x:Operand)
  (ho:o.op=.call { callee:=.builtin .append,args:=#[s,x],argTypes:=#[121,121] })
  (base:Nat)(v:Value)(l:List ByteArray)(y:ByteArray)(hown:StrRow w base v l)(hs:a.eval s=v)(hx:a.eval x=.slice (some ⟨w.heap.size,0,none⟩) 1 1)
  (hlen:l.length<1000000000000)(hbase:base<=w.heap.size)
  (h:∀ v' w',StrRow w' base v' (l++[y])->(w.alloc (.cells #[.string y] 9)).grownBy w' v.ownBlock->wpList Tryd.prog ops Q rest (a.put o.dst v') w') :
  wpList Tryd.prog ops Q (o :: rest) a (w.alloc (.cells #[.string y] 9)):=by
 obtain⟨i0,hi,hz0,hz1,hz2⟩:=info_parts info_str
 refine wpList_append_own _ hgd s x 121 ho base 9 i0 (.string ⟨#[]⟩) 1 16 Tryd.underlying121 hi hz0 hz1 hz2 rfl (by decide) v l.length _ hs (World.ownsRow.alloc hown _) ⟨w.heap.size,0,none⟩ 1 1 [.string y] hx rfl (cell_one_new _ _ _) (by simp [Value.oneCell']) (by unfold maxLen;omega) (by omega) (by simp;omega) fun v' w' h1 h2 _=>?_
 refine h v' w' ?_ h2
 unfold StrRow
 rw [List.length_append,List.map_append]
 exact h1
theorem StrRow.appended {w wr w':World}{v:Value}{l:List ByteArray}{o:Obj}(h:Ext w wr)(hown:StrRow wr w.heap.size v l)(hg:(wr.alloc o).grownBy w' v.ownBlock):Ext w w':=by
 refine Below.grown (Below.alloc h h.size o) hg (by have:=h.size;simp;omega) fun k hk=>?_
 obtain⟨_,h2⟩:=hown
 rcases h2 with⟨rfl,_⟩ | ⟨g,cap,cur,rfl,hgb,_⟩
 · simp [Value.ownBlock] at hk
 · simp [Value.ownBlock] at hk
   omega
def words49:List ByteArray:=[⟨#[50]⟩,⟨#[48]⟩,⟨#[50]⟩,⟨#[49]⟩,⟨#[49]⟩]
set_option maxRecDepth 100000 in
set_option maxHeartbeats 1600000 in
theorem line_p (w:World):Calls Tryd.prog 46 #[.agg #[.int .i64 2,.int .i64 0,.int .i64 2,.int .i64 1,.int .i64 1]] w fun e w'=>e=.returned (.string ⟨#[50,32,48,32,50,32,49,32,49]⟩)/\Ext w w':=by
 have hx0:=Lib.hid ((Ext.refl w).alloc (.cells #[.int .i64 2,.int .i64 0,.int .i64 2,.int .i64 1,.int .i64 1] 47))
 obtain⟨i0,hi,hz0,hz1,hz2⟩:=info_parts info_str
 go_enter Tryd.func46,Tryd.ntmps46
 go_wp2_with fail
 generalize World.alloc w _=W0 at *
 go_loopw [3,17] (fun a3 a17 wr=>∃ (q:Int) (j:Nat),a17=.int .i64 q/\(q=0/\j=0∨q=1/\j=1∨q=2/\j=2∨q=3/\j=3∨q=4/\j=4∨q=5/\j=5)/\StrRow wr w.heap.size a3 (words49.take j)/\Hid (Ext w wr)) (fun _ a17 _=>5-(intOf a17).toNat)
 case atStart=>exact⟨0,0,rfl,by omega,⟨rfl,.inl ⟨rfl,rfl⟩⟩,hx0⟩
 case round =>
  clear hx0
  obtain⟨q,j,rfl,hj6,hrow,hx⟩:=hrel
  obtain⟨A,cc,rfl,hcc,hcm,hv⟩:=vals_row hrow
  have hsz:=hx.out.size
  have e2:Lib.decDigits 2=[50]:=by rw [decDigits_one 2 (by omega)];rfl
  have e0:Lib.decDigits 0=[48]:=by rw [decDigits_one 0 (by omega)];rfl
  have e1:Lib.decDigits 1=[49]:=by rw [decDigits_one 1 (by omega)];rfl
  rcases hj6 with⟨rfl,rfl⟩ | ⟨rfl,rfl⟩ | ⟨rfl,rfl⟩ | ⟨rfl,rfl⟩ | ⟨rfl,rfl⟩ | ⟨rfl,rfl⟩
  · have hix:∀ W,(Instr.index 104 (.agg #[.int .i64 2,.int .i64 0,.int .i64 2,.int .i64 1,.int .i64 1]) (.int .i64 0)).run Tryd.prog W=.ok (.int .i64 2) W:=fun _=>by kernel_rfl
    go_wp2_with  fail
    refine (Tryd.strconv_Itoa_small 2 (by omega) _).mono ?_
    rintro e w' ⟨rfl,rfl⟩
    rw [e2]
    clear e0 e1 e2
    go_wp2_with (at_builtin;refine append_str rfl _ _ rfl w.heap.size _ (words49.take 0) ⟨#[50]⟩ hrow rfl rfl (by simp [words49]) hsz ?_)
    intro v' w1 hrow1 hg1
    have hx1:=Lib.hid (StrRow.appended hx.out hrow hg1)
    have hr1:=Lib.hid hrow1
    clear hrow hg1 hx hrow1
    go_wp2_with fail
    refine⟨⟨1,1,by first | rfl | go_num,by omega,hr1.out,hx1⟩,?_⟩
    simp [intOf]
  · have hix:∀ W,(Instr.index 104 (.agg #[.int .i64 2,.int .i64 0,.int .i64 2,.int .i64 1,.int .i64 1]) (.int .i64 1)).run Tryd.prog W=.ok (.int .i64 0) W:=fun _=>by kernel_rfl
    go_wp2_with  fail
    refine (Tryd.strconv_Itoa_small 0 (by omega) _).mono ?_
    rintro e w' ⟨rfl,rfl⟩
    rw [e0]
    clear e0 e1 e2
    go_wp2_with (at_builtin;refine append_str rfl _ _ rfl w.heap.size _ (words49.take 1) ⟨#[48]⟩ hrow rfl rfl (by simp [words49]) hsz ?_)
    intro v' w1 hrow1 hg1
    have hx1:=Lib.hid (StrRow.appended hx.out hrow hg1)
    have hr1:=Lib.hid hrow1
    clear hrow hg1 hx hrow1
    go_wp2_with fail
    refine⟨⟨2,2,by first | rfl | go_num,by omega,hr1.out,hx1⟩,?_⟩
    simp [intOf]
  · have hix:∀ W,(Instr.index 104 (.agg #[.int .i64 2,.int .i64 0,.int .i64 2,.int .i64 1,.int .i64 1]) (.int .i64 2)).run Tryd.prog W=.ok (.int .i64 2) W:=fun _=>by kernel_rfl
    go_wp2_with  fail
    refine (Tryd.strconv_Itoa_small 2 (by omega) _).mono ?_
    rintro e w' ⟨rfl,rfl⟩
    rw [e2]
    clear e0 e1 e2
    go_wp2_with (at_builtin;refine append_str rfl _ _ rfl w.heap.size _ (words49.take 2) ⟨#[50]⟩ hrow rfl rfl (by simp [words49]) hsz ?_)
    intro v' w1 hrow1 hg1
    have hx1:=Lib.hid (StrRow.appended hx.out hrow hg1)
    have hr1:=Lib.hid hrow1
    clear hrow hg1 hx hrow1
    go_wp2_with fail
    refine⟨⟨3,3,by first | rfl | go_num,by omega,hr1.out,hx1⟩,?_⟩
    simp [intOf]
  · have hix:∀ W,(Instr.index 104 (.agg #[.int .i64 2,.int .i64 0,.int .i64 2,.int .i64 1,.int .i64 1]) (.int .i64 3)).run Tryd.prog W=.ok (.int .i64 1) W:=fun _=>by kernel_rfl
    go_wp2_with  fail
    refine (Tryd.strconv_Itoa_small 1 (by omega) _).mono ?_
    rintro e w' ⟨rfl,rfl⟩
    rw [e1]
    clear e0 e1 e2
    go_wp2_with (at_builtin;refine append_str rfl _ _ rfl w.heap.size _ (words49.take 3) ⟨#[49]⟩ hrow rfl rfl (by simp [words49]) hsz ?_)
    intro v' w1 hrow1 hg1
    have hx1:=Lib.hid (StrRow.appended hx.out hrow hg1)
    have hr1:=Lib.hid hrow1
    clear hrow hg1 hx hrow1
    go_wp2_with fail
    refine⟨⟨4,4,by first | rfl | go_num,by omega,hr1.out,hx1⟩,?_⟩
    simp [intOf]
  · have hix:∀ W,(Instr.index 104 (.agg #[.int .i64 2,.int .i64 0,.int .i64 2,.int .i64 1,.int .i64 1]) (.int .i64 4)).run Tryd.prog W=.ok (.int .i64 1) W:=fun _=>by kernel_rfl
    go_wp2_with  fail
    refine (Tryd.strconv_Itoa_small 1 (by omega) _).mono ?_
    rintro e w' ⟨rfl,rfl⟩
    rw [e1]
    clear e0 e1 e2
    go_wp2_with (at_builtin;refine append_str rfl _ _ rfl w.heap.size _ (words49.take 4) ⟨#[49]⟩ hrow rfl rfl (by simp [words49]) hsz ?_)
    intro v' w1 hrow1 hg1
    have hx1:=Lib.hid (StrRow.appended hx.out hrow hg1)
    have hr1:=Lib.hid hrow1
    clear hrow hg1 hx hrow1
    go_wp2_with fail
    refine⟨⟨5,5,by first | rfl | go_num,by omega,hr1.out,hx1⟩,?_⟩
    simp [intOf]
  · have hv2:=hv (by simp [words49])
    obtain⟨b,rfl,hb,hcc2⟩:=hv2
    have hxh:=hx
    clear hv hrow hx e0 e1 e2
    have hjn:=Lib.hid (Tryd.strings_Join b 0 cc words49 ⟨#[32]⟩ wr (fun i x hi=>by
     rw [Nat.zero_add]
     exact hcc2 i (.string x) (by rw [List.take_of_length_le (by simp [words49])];rw [List.getElem?_map,hi];rfl)) hb (by simp [words49]) (by simpa [words49] using hcc) (by simp [words49,Lib.join]))
    clear hcc2 hcc hcm hb
    go_wp2_with fail
    refine hjn.out.mono ?_
    rintro e w2 ⟨rfl,hx2⟩
    have hxx:=Lib.hid (hxh.out.trans hx2)
    clear hx2 hjn hxh
    go_wp2_with fail
    go_ret
    exact⟨rfl,hxx.out⟩
@[go_sem] theorem eqIn_five (a b c d e a' b' c' d' e':Int) (w:World):(Op.equalIn 10000 104 (.agg #[.int .i64 a,.int .i64 b,.int .i64 c,.int .i64 d,.int .i64 e]) (.agg #[.int .i64 a',.int .i64 b',.int .i64 c',.int .i64 d',.int .i64 e'])).run Tryd.prog w=.ok (decide (a=a'/\b=b'/\c=c'/\d=d'/\e=e')) w:=by
 obtain⟨i0,hi,hz0,hz1,hz2⟩:=info_parts info_int
 have hu:Tryd.prog.underlying 3=some (.int .i64):=Tryd.underlying3
 have hc:Tryd.prog.cellsOf 3=1:=by kernel_rfl
 rw [run_equalIn_array w 9999 _ _ (show Tryd.prog.underlying 104=some (.array 5 3) from by kernel_rfl) hi,hc]
 simp [List.range,List.range.loop,Op.eqItems,go_sem,run_equalIn_int,hu]
 by_cases h0:a=a' <;> by_cases h1:b=b' <;> by_cases h2:c=c' <;> by_cases h3:d=d' <;> by_cases h4:e=e' <;> simp [h0,h1,h2,h3,h4]
@[go_sem] theorem eqIn_cnt (a b c d e a' b' c' d' e':Int) (w:World):(Op.equalIn 10000 47 (.agg #[.int .i64 a,.int .i64 b,.int .i64 c,.int .i64 d,.int .i64 e]) (.agg #[.int .i64 a',.int .i64 b',.int .i64 c',.int .i64 d',.int .i64 e'])).run Tryd.prog w=.ok (decide (a=a'/\b=b'/\c=c'/\d=d'/\e=e')) w:=by
 rw [run_equalIn_struct w 9999 47 _ _ (by kernel_rfl) (by kernel_rfl)]
 have hu:Tryd.prog.underlying 3=some (.int .i64):=Tryd.underlying3
 simp only [Program.fieldsOf,Tryd.underlying47,Op.eqFields]
 simp [go_sem,run_equalIn_int,hu]
 by_cases h0:a=a' <;> by_cases h1:b=b' <;> by_cases h2:c=c' <;> by_cases h3:d=d' <;> by_cases h4:e=e' <;> simp [h0,h1,h2,h3,h4]
set_option maxHeartbeats 1600000 in
theorem five_p (a0 a1 a2 a3 a4:Int)(w:World):Calls Tryd.prog 45 #[.agg #[.int .i64 a0,.int .i64 a1,.int .i64 a2,.int .i64 a3,.int .i64 a4]] w fun e w'=>e=.returned (.agg #[.int .i64 a0,.int .i64 a1,.int .i64 a2,.int .i64 a3,.int .i64 a4])/\Ext w w':=by
 have k:=Blk.new (w.alloc (.cells #[.int .i64 a0,.int .i64 a1,.int .i64 a2,.int .i64 a3,.int .i64 a4] 47)) (.cells #[.int .i64 a0,.int .i64 a1,.int .i64 a2,.int .i64 a3,.int .i64 a4] 104)
 rw [World.size_alloc] at k
 have hx:=Lib.hid (((Ext.refl w).alloc (.cells #[.int .i64 a0,.int .i64 a1,.int .i64 a2,.int .i64 a3,.int .i64 a4] 47)).alloc (.cells #[.int .i64 a0,.int .i64 a1,.int .i64 a2,.int .i64 a3,.int .i64 a4] 104))
 have kh:=Lib.hid k
 clear k
 go_enter Tryd.func45,Tryd.ntmps45
 go_wp2_with fail
 have cz:=kh.out.cells
 refine bodyPost_ret (v:=.agg #[.int .i64 a0,.int .i64 a1,.int .i64 a2,.int .i64 a3,.int .i64 a4]) (by simp [results,Tryd.results45,go_sem,cz]) rfl ?_
 exact⟨rfl,hx.out⟩
theorem marks_blk {w:World}{b:Nat}{t:TypeId}(l:List (RMark × Int))(h:Blk w b (.cells (l.flatMap markVals).toArray t)):Vals w (some ⟨b,0,none⟩) (l.flatMap markVals):=fun _ =>
 ⟨b,rfl,h.lt,fun i u hi=>by rw [h.cells i];simpa using hi⟩
theorem ints_blk {w:World}{b:Nat}{t:TypeId}(l:List Int)(hl:l.length<=1000000)(h:Blk w b (.cells (l.map (Value.int .i64)).toArray t)):Ints w (.slice (some ⟨b,0,none⟩) l.length l.length) l :=
 ⟨_,_,rfl,Nat.le_refl _,by omega,fun _=>⟨b,0,rfl,h.lt,fun i x hi=>by rw [Nat.zero_add,h.cells i];simp [hi]⟩⟩
set_option maxRecDepth 100000 in
set_option maxHeartbeats 1600000 in
theorem alive49 (w:World):Calls Tryd.prog 14 #[] w fun e w'=>e=.returned (.bool true)/\Ext w w':=by
 have k1:=Blk.new w (.cells #[.int .i64 0,.int .i64 1,.int .i64 3,.int .i64 0] 45)
 have hx1:=Lib.hid ((Ext.refl w).alloc (.cells #[.int .i64 0,.int .i64 1,.int .i64 3,.int .i64 0] 45))
 have kh:=Lib.hid k1
 clear k1
 go_enter Tryd.func14,Tryd.ntmps14
 go_upto_region 2 with fail
 generalize World.alloc w _=W1 at *
 generalize hb:w.heap.size=b at *
 clear hb
 have c1:=kh.out.cells
 have kr:=Blk.new W1 (.cells #[.int .i64 0,.int .i64 1,.int .i64 3,.int .i64 0,.int .i64 0,.int .i64 1,.int .i64 3,.int .i64 0] 45)
 have x2:=(Ext.refl W1).alloc (.cells #[.int .i64 0,.int .i64 1,.int .i64 3,.int .i64 0,.int .i64 0,.int .i64 1,.int .i64 3,.int .i64 0] 45)
 have hof:=Lib.hid (of_p (some ⟨W1.heap.size,0,none⟩) 2 [(⟨0,1,3⟩,0),(⟨0,1,3⟩,0)] none 0 [] _ (marks_blk _ kr) (by simp) (Ints.nil _) (by simp) (by simp [I64]) (fun _=>true) (fun _=>rfl))
 rw [show (rcount [] (fun _=>true) ([((⟨0,1,3⟩:RMark),(0:Int)),(⟨0,1,3⟩,0)].map Prod.fst)).2=⟨2,0,2,1,[3]⟩ from rfl] at hof
 have hx2:=Lib.hid (hx1.out.trans x2)
 have kh2:=Lib.hid (kh.out.ext x2)
 clear x2 kr
 go_wp2_with fail
 refine hof.out.mono ?_
 rintro e w2 ⟨rfl,hxa⟩
 have hx3:=Lib.hid (hx2.out.trans hxa)
 have kh3:=Lib.hid (kh2.out.ext hxa)
 clear hof hx1 hx2 kh kh2 c1 hxa
 unfold encCt
 dsimp only
 go_upto_region 3 with fail
 have kc:=Blk.new w2 (.cells #[.int .i64 2,.int .i64 0,.int .i64 2,.int .i64 1,.int .i64 1] 47)
 have hx4:=Lib.hid (hx3.out.alloc (.cells #[.int .i64 2,.int .i64 0,.int .i64 2,.int .i64 1,.int .i64 1] 47))
 have kh4:=Lib.hid (kh3.out.alloc (.cells #[.int .i64 2,.int .i64 0,.int .i64 2,.int .i64 1,.int .i64 1] 47))
 clear hx3 kh3
 simp only [List.length_cons,List.length_nil,Nat.zero_add,Nat.reduceAdd] at *
 generalize World.alloc w2 _=W3 at *
 generalize hbc:w2.heap.size=bc at *
 clear hbc
 have c1:=kh4.out.cells
 have cC:=kc.cells
 have kch:=Lib.hid kc
 clear kc
 go_wp2_with fail
 refine (five_p 2 0 2 1 1 _).mono ?_
 rintro e w4 ⟨rfl,hxb⟩
 have hx5:=Lib.hid (hx4.out.trans hxb)
 have kh5:=Lib.hid (kh4.out.ext hxb)
 have kc5:=Lib.hid (kch.out.ext hxb)
 clear hx4 kh4 kch c1 cC hxb
 have c1:=kh5.out.cells
 have cC:=kc5.out.cells
 go_wp2_with fail
 refine (line_p _).mono ?_
 rintro e w5 ⟨rfl,hxb⟩
 have hx6:=Lib.hid (hx5.out.trans hxb)
 have kh6:=Lib.hid (kh5.out.ext hxb)
 clear hx5 kh5 kc5 c1 cC hxb
 have c1:=kh6.out.cells
 have kr:=Blk.new w5 (.cells #[.int .i64 0,.int .i64 1,.int .i64 3,.int .i64 0] 45)
 have x2:=(Ext.refl w5).alloc (.cells #[.int .i64 0,.int .i64 1,.int .i64 3,.int .i64 0] 45)
 have hby:=Lib.hid (by_p (some ⟨w5.heap.size,0,none⟩) 1 [(⟨0,1,3⟩,0)] none 0 [] _ (marks_blk _ kr) (by simp) (Ints.nil _) (by simp) (by simp [I64]) 1 (fun x=>x==1) (fun _=>rfl))
 rw [show (rcount [] (fun x=>x==1) ([((⟨0,1,3⟩:RMark),(0:Int))].map Prod.fst)).2=⟨0,0,0,0,[]⟩ from rfl] at hby
 have hx7:=Lib.hid (hx6.out.trans x2)
 have kh7:=Lib.hid (kh6.out.ext x2)
 clear x2 kr hx6 kh6
 go_wp2_with fail
 refine hby.out.mono ?_
 rintro e w6 ⟨rfl,hxb⟩
 have hx8:=Lib.hid (hx7.out.trans hxb)
 have kh8:=Lib.hid (kh7.out.ext hxb)
 clear hby hx7 kh7 c1 hxb
 unfold encCt
 dsimp only
 have c1:=kh8.out.cells
 have kr:=(Blk.new w6 (.cells #[.int .i64 0,.int .i64 1,.int .i64 3,.int .i64 0] 45)).alloc (.cells #[.int .i64 (-1),.int .i64 (-1),.int .i64 (-1),.int .i64 0] 3)
 have kr2:=Blk.new (w6.alloc (.cells #[.int .i64 0,.int .i64 1,.int .i64 3,.int .i64 0] 45)) (.cells #[.int .i64 (-1),.int .i64 (-1),.int .i64 (-1),.int .i64 0] 3)
 rw [World.size_alloc] at kr2
 have x2:=((Ext.refl w6).alloc (.cells #[.int .i64 0,.int .i64 1,.int .i64 3,.int .i64 0] 45)).alloc (.cells #[.int .i64 (-1),.int .i64 (-1),.int .i64 (-1),.int .i64 0] 3)
 have hof:=Lib.hid (of_p (some ⟨w6.heap.size,0,none⟩) 1 [(⟨0,1,3⟩,0)] (some ⟨w6.heap.size+1,0,none⟩) 4 [-1,-1,-1,0] _ (marks_blk _ kr) (by simp) (ints_blk _ (by simp) kr2) (by simp) (by simp [I64]) (fun _=>true) (fun _=>rfl))
 rw [show (rcount [-1,-1,-1,0] (fun _=>true) ([((⟨0,1,3⟩:RMark),(0:Int))].map Prod.fst)).2=⟨1,0,0,1,[3]⟩ from rfl] at hof
 have hx9:=Lib.hid (hx8.out.trans x2)
 clear x2 kr kr2 hx8 kh8
 go_wp2_with fail
 refine hof.out.mono ?_
 rintro e w7 ⟨rfl,hxb⟩
 have hxz:=Lib.hid (hx9.out.trans hxb)
 clear hof hx9 c1 hxb
 unfold encCt
 dsimp only
 have hfd:∀ W,(Instr.field 47 (.agg #[.int .i64 1,.int .i64 0,.int .i64 0,.int .i64 1,.int .i64 1]) 2).run Tryd.prog W=.ok (.int .i64 0) W:=fun _=>by kernel_rfl
 go_wp2_with fail
 first | exact⟨rfl,hxz.out⟩ | (go_ret;exact⟨rfl,hxz.out⟩)
end Go.Proofs.YtiahgcaenneonaaDoor
namespace Go.Proofs.YtiahgcaenneonaaDoor
open Go.RowKit Go.WideShapes Go.ChangeShapes
section
variable {H:Type} {enc:TypeId × Value->H} {P:Program}
theorem post_of_below {f:Func}{s:ChangeSpec}{apart fresh handsOn again:Bool}{W W':World}{args:Array Value}{v:Value}{ds gs:List (DataW H)}{before pa pv:List MemPlace}
  (hW:DataW.Whole enc P f.params.toList s.vars apart W args.toList ds gs before)
  (hres:∀ (b:Nat) (sp:Nat->Bool) (hd:Bool),DataW.TrodAll enc P W' b sp hd f.resultTypes.toList (v.resultList f.resultTypes.size) (s.fn H (ds++gs)).results [])
  (hargs:∀ sp:Nat->Bool,(∀ p∈before,sp p.block=true)->DataW.TrodAll enc P W' 0 sp true f.params.toList args.toList (s.fn H (ds++gs)).args pa)
  (hvars:∀ sp:Nat->Bool,(∀ p∈before,sp p.block=true)->DataW.TrodVars enc P W' sp s.vars (s.fn H (ds++gs)).vars pv)
  (hps:before=pa++pv)(hb:Below W.heap.size W W')
  (hok:∀ (j:Nat) (t:TypeId) (r:Value),f.resultTypes[j]?=some t->(v.resultList f.resultTypes.size)[j]?=some r->Value.okWide P W' .any 0 t r) :
  s.post enc P f apart fresh handsOn again W args v W':=by
 have hlt:∀ p∈before,p.block<W.heap.size:=fun p hp=>hW.lt p hp
 have hold:∀ p∈before,(fun b=>decide (b<W.heap.size)) p.block=true:=fun p hp=>by simpa using hlt p hp
 refine⟨ds,gs,before,[],pa,pv,hW,hres _ _ _,hargs _ hold,hvars _ hold,World.keptBut_mono (fun p hp=>⟨hp,?_⟩) (hb.frame (·∈before)),fun _=>?_⟩
 · rw [hps,List.mem_append] at hp
   exact Or.inr hp
 · obtain⟨_,_,_,_,_,hz,hn⟩:=hW
   refine⟨hok,_,_,([]++pa)++pv,⟨[]++pa,pv,trodAll_append (hargs _ (fun _ _=>rfl)) (hres _ _ _),hvars _ (fun _ _=>rfl),rfl,?_,?_⟩,?_⟩
   · intro b off hp
     have hin:MemPlace.cell b off∈before:=by rw [hps];simpa using hp
     rw [hb.frozen (hlt _ hin)]
     exact hz b off hin
   · intro ha
     have:=hn ha
     rw [hps] at this
     simpa using this
   · intro p hp _
     rw [hps]
     simpa using hp
end
section
variable {H:Type} {enc:TypeId × Value->H} {P:Program}
theorem trodAll_stays (hl:laidOutB P=true):∀ (ts:List TypeId),(∀ t∈ts,P.readableRec t=true/\t<P.types.size)->∀ {W W':World} {sp:Nat->Bool} {vs:List Value} {ds:List (DataW H)} {ps:List MemPlace},
  DataW.TrodAll enc P W 0 (fun _=>true) true ts vs ds ps->(∀ p∈ps,W.sameAt W' p)->(∀ p∈ps,sp p.block=true)->DataW.TrodAll enc P W' 0 sp true ts vs ds ps
 | [],_,W,W',sp,vs,ds,ps,h,_,_=>by
   cases vs <;> cases ds <;> simp_all [DataW.TrodAll]
 | t :: ts,ht,W,W',sp,vs,ds,ps,h,hs,hsp=>by
   obtain⟨v,vs',d,ds',p,q,rfl,rfl,rfl,hp,hq⟩:=trodAll_cons h
   have h1:=ht t (by simp)
   refine trodAll_cons_mk (WideElems.Trod_stays hl h1.1 h1.2 hp (fun x hx=>hs x (by simp [hx])) (fun x hx=>hsp x (by simp [hx]))) ?_
   exact trodAll_stays hl ts (fun t' h'=>ht t' (by simp [h'])) hq (fun x hx=>hs x (by simp [hx])) (fun x hx=>hsp x (by simp [hx]))
theorem trodAll_length:∀ (ts:List TypeId) {W:World} {b:Nat} {sp:Nat->Bool} {held:Bool} {vs:List Value} {ds:List (DataW H)} {ps:List MemPlace},DataW.TrodAll enc P W b sp held ts vs ds ps->ds.length=ts.length
 | [],W,b,sp,held,vs,ds,ps,h=>by cases vs <;> cases ds <;> simp_all [DataW.TrodAll]
 | t :: ts,W,b,sp,held,vs,ds,ps,h=>by
   obtain⟨v,vs',d,ds',p,q,rfl,rfl,rfl,hp,hq⟩:=trodAll_cons h
   simp [trodAll_length ts hq]
theorem law_post {f:Func}{s:ChangeSpec}{W W':World}{args:Array Value}{ds gs:List (DataW H)}{before:List MemPlace}{tb:TypeId}
  (hl:laidOutB P=true)(hr:∀ t∈f.params.toList,P.readableRec t=true/\t<P.types.size)(hres:f.resultTypes=#[tb])(htb:P.underlying tb=some .bool)
  (hvars:s.vars=[])(hspec:∀ ds:List (DataW H),ds.length=f.params.size->s.fn H ds={ results:=[.lit (.bool true)],args:=ds })
  (hW:DataW.Whole enc P f.params.toList s.vars false W args.toList ds gs before)(hx:Ext W W') :
  s.post enc P f false true false false W args (.bool true) W':=by
 have hWlt:∀ p∈before,p.block<W.heap.size:=fun p hp=>hW.lt p hp
 obtain⟨p,q,hA,hV,hpq,hfz,hnd⟩:=hW
 rw [hvars] at hV
 have hgs:gs=[]/\q=[]:=trodVars_none hV
 obtain⟨rfl,rfl⟩:=hgs
 have hlen:=trodAll_length _ hA
 have hsp:=hspec ds (by rw [hlen];simp)
 have hb:before=p:=by rw [hpq];simp
 subst hb
 have hn:f.resultTypes.size=1:=by rw [hres];rfl
 have hlo:(Value.bool true).resultList f.resultTypes.size=[Value.bool true]:=by rw [hn];rfl
 have e0:ds++([]:List (DataW H))=ds:=List.append_nil _
 refine post_of_below (pa:=before) (pv:=[]) (ds:=ds) (gs:=[]) ⟨before,[],hA,by rw [hvars];exact hV,hpq,hfz,hnd⟩ ?_ ?_ ?_ hpq hx ?_
 · intro b sp hd
   rw [e0,hsp,hlo,hres]
   exact trodAll_cons_mk (shut_bool htb _) trodAll_mk0
 · intro sp hsp'
   rw [e0,hsp]
   exact trodAll_stays hl _ hr hA (fun p hp=>Below.same hx (hWlt p hp)) hsp'
 · intro sp _
   rw [e0,hsp,hvars]
   rfl
 · intro j t r ht hr'
   rw [hres] at ht
   rw [hlo] at hr'
   cases j with
   | zero =>
     obtain rfl:tb=t:=by simpa using ht
     obtain rfl:Value.bool true=r:=by simpa using hr'
     exact okWide_bool_mk htb _
   | succ j=>simp at ht
end
end Go.Proofs.YtiahgcaenneonaaDoor
namespace Go.Proofs.YtiahgcaenneonaaDoor
open Go.ChangeShapes Go.WideShapes Go.ChangeAt Go.RowKit Kv
theorem cellsInt:Tryd.prog.cellsOf 3=1:=by kernel_rfl
theorem cell_lt {w:World}{a:Addr}{v:Value}(h:w.cell? a=some v):a.block<w.heap.size:=by
 rcases Nat.lt_or_ge a.block w.heap.size with hlt | hge
 · exact hlt
 · simp [World.cell?,Array.getElem?_eq_none hge] at h
set_option maxRecDepth 100000 in
theorem ints_arg {H:Type}{enc:TypeId × Value->H}{W:World}{b0:Nat}{r:Reach}{v:Value}{d:DataW H}{p:List MemPlace}
  (hv:Value.okWide Tryd.prog W r b0 25 v)(h:DataW.Trod enc Tryd.prog W 0 (fun _=>true) true 25 v d p) :
  ∃ l,Ints W v l/\∀ x∈l,-9223372036854775808<=x/\x<=9223372036854775807:=by
 obtain⟨a0,len,cap,rfl⟩:=okWide_slice Tryd.underlying25 hv
 obtain⟨fuel,hf⟩:=h
 rcases open_ints Tryd.underlying25 Tryd.underlying3 cellsInt hf with⟨hcs,hx⟩ | ⟨a,len',cap',zs,hcs,_,hl,hm,hz,hx,hcell,hwz⟩
 · simp [Value.cells] at hcs
   obtain⟨rfl,rfl,rfl⟩:=hcs
   exact⟨[],Ints.nil W,by simp⟩
 · simp [Value.cells] at hcs
   obtain⟨rfl,rfl,rfl⟩:=hcs
   simp only [if_true] at hz
   refine⟨zs.take len,?_,fun x hx=>bounds_i64 (hwz x (List.mem_of_mem_take hx))⟩
   have hlen:(zs.take len).length=len:=by rw [List.length_take];omega
   refine⟨some a,cap,by rw [hlen],by omega,by unfold maxLen at hm;exact hm,fun hne=>?_⟩
   have hpos:0<zs.length:=by
    rcases Nat.eq_zero_or_pos zs.length with h0 | h0
    · have:zs=[]:=List.eq_nil_of_length_eq_zero h0
      subst this
      simp at hne
    · exact h0
   obtain⟨b,off,rfl,hc⟩:=ints_at hcell hpos
   refine⟨b,off,rfl,cell_lt (hc 0 hpos),fun i x hi=>?_⟩
   have hi2:i<zs.length:=by
    have:=(List.getElem?_eq_some_iff.1 hi).1
    rw [List.length_take] at this
    omega
   rw [hc i hi2]
   have hi3:i<len:=by
    have:=(List.getElem?_eq_some_iff.1 hi).1
    omega
   rw [List.getElem?_take,if_pos hi3] at hi
   rw [List.getD_eq_getElem?_getD,hi]
   rfl
def MarksIn (w:World) (A:Option Addr) (l:List (RMark × Int)):Prop:=l≠[]->∃ b off,A=some ⟨b,off,none⟩/\b<w.heap.size/\∀ i q,l[i]?=some q ->
 w.cell? ⟨b,off+i*4,none⟩=some (.int .i64 q.1.th)/\w.cell? ⟨b,off+i*4+1,none⟩=some (.int .i64 q.1.kind)/\w.cell? ⟨b,off+i*4+2,none⟩=some (.int .i64 q.1.cell)/\w.cell? ⟨b,off+i*4+3,none⟩=some (.int .i64 q.2)
theorem MarksIn.ext {w w':World}{A:Option Addr}{l:List (RMark × Int)}(h:MarksIn w A l)(hx:Ext w w'):MarksIn w' A l:=fun hl=>by
 obtain⟨b,off,e,hb,hc⟩:=h hl
 refine⟨b,off,e,Nat.lt_of_lt_of_le hb hx.size,fun i q hi=>?_⟩
 obtain⟨h0,h1,h2,h3⟩:=hc i q hi
 exact⟨(hx.cell (p:=⟨b,_,none⟩) hb).trans h0,(hx.cell (p:=⟨b,_,none⟩) hb).trans h1,(hx.cell (p:=⟨b,_,none⟩) hb).trans h2,(hx.cell (p:=⟨b,_,none⟩) hb).trans h3⟩
theorem cellsMark:Tryd.prog.cellsOf 44=4:=by kernel_rfl
theorem cellsAccess:Tryd.prog.cellsOf 42=3:=by kernel_rfl
theorem cellsI:Tryd.prog.cellsOf 3=1:=by kernel_rfl
instance:Inhabited RMark:=⟨⟨0,0,0⟩⟩
set_option maxRecDepth 100000 in
theorem mark_cells {H:Type}{enc:TypeId × Value->H}{W:World}{base:Nat}{sp:Nat->Bool}{held:Bool}{fuel:Nat}{cs:List Value}{x:DataW H × List MemPlace}(h:DataW.trod enc Tryd.prog W base sp held fuel 44 cs=some x) :
  ∃ q:RMark × Int,cs=markVals q/\I64 q.1.th/\I64 q.1.kind/\I64 q.1.cell/\I64 q.2:=by
 obtain⟨xs,n,_,_,hlen,hxl,hf⟩:=DataW.trod_struct Tryd.underlying44 h
 rw [cellsMark] at hlen
 match cs,hlen with
 | [c0,c1,c2,c3],_ =>
   have g0:DataW.trod enc Tryd.prog W base sp held n 3 ((([c0,c1,c2,c3]:List Value).drop 0).take (Tryd.prog.cellsOf 3))=xs[0]?:=hf 0 _ rfl
   have g1:DataW.trod enc Tryd.prog W base sp held n 42 ((([c0,c1,c2,c3]:List Value).drop 1).take (Tryd.prog.cellsOf 42))=xs[1]?:=hf 1 _ rfl
   match xs,hxl with
   | [y0,y1],_ =>
     rw [cellsI] at g0
     rw [cellsAccess] at g1
     simp only [List.drop,List.take,List.getElem?_cons_zero,List.getElem?_cons_succ] at g0 g1
     obtain⟨a,ea,_,wa⟩:=DataW.trod_int Tryd.underlying3 g0
     obtain⟨zs,m,_,_,_,hzl,hg⟩:=DataW.trod_struct Tryd.underlying42 g1
     have k0:DataW.trod enc Tryd.prog W base sp held m 3 ((([c1,c2,c3]:List Value).drop 0).take (Tryd.prog.cellsOf 3))=zs[0]?:=hg 0 _ rfl
     have k1:DataW.trod enc Tryd.prog W base sp held m 3 ((([c1,c2,c3]:List Value).drop 1).take (Tryd.prog.cellsOf 3))=zs[1]?:=hg 1 _ rfl
     have k2:DataW.trod enc Tryd.prog W base sp held m 3 ((([c1,c2,c3]:List Value).drop 2).take (Tryd.prog.cellsOf 3))=zs[2]?:=hg 2 _ rfl
     match zs,hzl with
     | [z0,z1,z2],_ =>
       rw [cellsI] at k0 k1 k2
       simp only [List.drop,List.take,List.getElem?_cons_zero,List.getElem?_cons_succ] at k0 k1 k2
       obtain⟨k,ek,_,wk⟩:=DataW.trod_int Tryd.underlying3 k0
       obtain⟨c,ec,_,wc⟩:=DataW.trod_int Tryd.underlying3 k1
       obtain⟨v,ev,_,wv⟩:=DataW.trod_int Tryd.underlying3 k2
       simp only [List.cons.injEq,and_true] at ea ek ec ev
       subst ea ek ec ev
       exact⟨(⟨a,k,c⟩,v),rfl,bounds_i64 wa,bounds_i64 wk,bounds_i64 wc,bounds_i64 wv⟩
set_option maxRecDepth 100000 in
theorem marks_arg {H:Type}{enc:TypeId × Value->H}{W:World}{b0:Nat}{r:Reach}{v:Value}{d:DataW H}{p:List MemPlace}
  (hv:Value.okWide Tryd.prog W r b0 38 v)(h:DataW.Trod enc Tryd.prog W 0 (fun _=>true) true 38 v d p) :
  ∃ l A c,v=.slice A (l:List (RMark × Int)).length c/\MarksIn W A l/\(∀ q∈l,I64 q.1.th/\I64 q.1.kind/\I64 q.1.cell/\I64 q.2)/\l.length<=9223372036854775807:=by
 obtain⟨a0,len,cap,rfl⟩:=okWide_slice Tryd.underlying38 hv
 obtain⟨fuel,hf⟩:=h
 rcases Deep.open_slice Tryd.underlying38 hf with⟨hcs,hx⟩ | ⟨a,len',cap',m,n,D,Pl,hcs,_,hl,hm,hmm,hx,hcell⟩
 · simp [Value.cells] at hcs
   obtain⟨rfl,rfl,rfl⟩:=hcs
   exact⟨[],none,0,rfl,fun h=>absurd rfl h,by simp,by simp⟩
 · simp [Value.cells] at hcs
   obtain⟨rfl,rfl,rfl⟩:=hcs
   simp only [if_true] at hmm
   have each:∀ i,i<len->∃ q:RMark × Int,(W.cells? 0 (a.add (i*4)) 4=some (markVals q))/\I64 q.1.th/\I64 q.1.kind/\I64 q.1.cell/\I64 q.2:=fun i hi=>by
    obtain⟨cs',h1,h2⟩:=hcell i (by omega)
    rw [cellsMark] at h1
    obtain⟨q,rfl,hq⟩:=mark_cells h2
    exact⟨q,h1,hq⟩
   obtain⟨f,hf2⟩:=Deep.choose_lt each
   refine⟨(List.range len).map f,some a,cap,by simp,fun hne=>?_,fun q hq=>?_,by simp;unfold maxLen at hm;omega⟩
   · have hpos:0<len:=by
      rcases Nat.eq_zero_or_pos len with h0 | h0
      · subst h0;simp at hne
      · exact h0
     obtain⟨b,off,spot⟩:=a
     have hcells:∀ i,i<len->∀ k,k<4->W.cell? ((⟨b,off,spot⟩:Addr).add (i*4+k))=(markVals (f i))[k]?:=fun i hi k hk=>by
      have:=(World.cells?_some (hf2 i hi).1).2.2 k hk
      rw [Deep.add_add] at this
      exact this
     have hspot:spot=none:=by simpa [Addr.add] using World.cell?_spot (hcells 0 hpos 0 (by omega))
     subst hspot
     have hcl:=hcells 0 hpos 0 (by omega)
     rw [Go.WideShapes.add_plain] at hcl
     refine⟨b,off,rfl,cell_lt (a:=⟨b,off+(0*4+0),none⟩) hcl,fun i q hi=>?_⟩
     have hil:i<len:=by
      have:=(List.getElem?_eq_some_iff.1 hi).1
      simpa using this
     rw [List.getElem?_map,List.getElem?_range hil] at hi
     obtain rfl:f i=q:=by simpa using hi
     have q0:=hcells i hil 0 (by omega)
     have q1:=hcells i hil 1 (by omega)
     have q2:=hcells i hil 2 (by omega)
     have q3:=hcells i hil 3 (by omega)
     rw [Go.WideShapes.add_plain] at q0 q1 q2 q3
     exact⟨q0,q1,q2,q3⟩
   · obtain⟨i,hi,rfl⟩:=List.mem_map.1 hq
     exact (hf2 i (by simpa using hi)).2
theorem info_mark:(Tryd.prog.info? 45).map (fun i=>(i.zero,i.size,i.bytes))=some (some (.agg #[.int .i64 0,.int .i64 0,.int .i64 0,.int .i64 0]),4,32):=by kernel_rfl
def MkRow (w:World) (base:Nat) (v:Value) (l:List (RMark × Int)):Prop:=w.ownsRow base 45 4 v l.length (l.flatMap markVals)
theorem MkRow.ext {w w':World}{base:Nat}{v:Value}{l:List (RMark × Int)}(h:MkRow w base v l)(hx:Ext w w'):MkRow w' base v l:=row_ext h hx
theorem append_mk {ops:Array Oper}{rest:List Oper}{o:Oper}{a:Act}{Q:Exit->Act->World->Prop}{w:World}(hgd:o.guard=none)(s x:Operand)
  (ho:o.op=.call { callee:=.builtin .append,args:=#[s,x],argTypes:=#[39,39] })
  (base:Nat)(v:Value)(l:List (RMark × Int))(y:RMark × Int)(hown:MkRow w base v l)(hs:a.eval s=v)(hx:a.eval x=.slice (some ⟨w.heap.size,0,none⟩) 1 1)
  (hlen:l.length<1000000000)(hbase:base<=w.heap.size)
  (h:∀ v' w',MkRow w' base v' (l++[y])->(w.alloc (.cells #[.int .i64 y.1.th,.int .i64 y.1.kind,.int .i64 y.1.cell,.int .i64 y.2] 45)).grownBy w' v.ownBlock->wpList Tryd.prog ops Q rest (a.put o.dst v') w') :
  wpList Tryd.prog ops Q (o :: rest) a (w.alloc (.cells #[.int .i64 y.1.th,.int .i64 y.1.kind,.int .i64 y.1.cell,.int .i64 y.2] 45)):=by
 obtain⟨i0,hi,hz0,hz1,hz2⟩:=info_parts info_mark
 refine wpList_append_own _ hgd s x 39 ho base 45 i0 _ 4 32 Tryd.underlying39 hi hz0 hz1 hz2 rfl (by decide) v l.length _ hs (World.ownsRow.alloc hown _) ⟨w.heap.size,0,none⟩ 1 1 (markVals y) hx rfl (fun j u hu=>by
  rw [Addr.add_lit,Nat.zero_add]
  exact ((Blk.new w (.cells #[.int .i64 y.1.th,.int .i64 y.1.kind,.int .i64 y.1.cell,.int .i64 y.2] 45)).cells j).trans (by simpa [markVals] using hu)) (by simp [markVals,Value.oneCell']) (by unfold maxLen;omega) (by omega) (by simp;omega) fun v' w' h1 h2 _=>?_
 refine h v' w' ?_ h2
 unfold MkRow
 rw [List.length_append,List.flatMap_append]
 simpa using h1
theorem MkRow.appended {w wr w':World}{v:Value}{l:List (RMark × Int)}{o:Obj}(h:Ext w wr)(hown:MkRow wr w.heap.size v l)(hg:(wr.alloc o).grownBy w' v.ownBlock):Ext w w':=by
 refine Below.grown (Below.alloc h h.size o) hg (by have:=h.size;simp;omega) fun k hk=>?_
 obtain⟨_,h2⟩:=hown
 rcases h2 with⟨rfl,_⟩ | ⟨g,cap,cur,rfl,hgb,_⟩
 · simp [Value.ownBlock] at hk
 · simp [Value.ownBlock] at hk
   omega
end Go.Proofs.YtiahgcaenneonaaDoor
namespace Kv
theorem rsum_le {f:Nat->RCount}{N:Nat}(hf:∀ t,(f t).reads<=N/\(f t).writes<=N/\(f t).home<=N/\(f t).cache<=N):∀ n,(rsum f n).reads<=N*n/\(rsum f n).writes<=N*n/\(rsum f n).home<=N*n/\(rsum f n).cache<=N*n
 | 0=>by simp [rsum,RCount.zero]
 | n+1=>by
   have h1:=rsum_le hf n
   have h2:=hf n
   unfold rsum
   rw [Nat.mul_add,Nat.mul_one]
   dsimp only
   omega
theorem wrap7 (x:Int):0<=wrapI x 7/\wrapI x 7<8:=by
 have:=wrapI_bd x 7
 have e:clamp 7 1099511627776=7:=by decide
 omega
end Kv
namespace Go.Proofs.YtiahgcaenneonaaDoor
open Go.RowKit Kv
theorem mk_own {B k:Nat}{w:World}{v:Value}{xs:List Value}(h:w.ownsRow B 45 4 v k xs){b:Nat}(hb:v.ownBlock=some b):B<=b/\b<w.heap.size:=by
 rcases h.2 with⟨rfl,_⟩ | ⟨g,cap,cur,rfl,h1,h2,_⟩
 · simp [Value.ownBlock] at hb
 · simp only [Value.ownBlock,Option.some.injEq] at hb
   subst hb
   exact⟨h1,(Array.getElem?_eq_some_iff.1 h2).1⟩
theorem vals_of_row {B e s n n' c:Nat}{w:World}{A:Option Addr}{xs:List Value}(h:w.ownsRow B e s (.slice A n c) n' xs):Vals w A xs:=by
 obtain⟨A',c',e,_,_,hv⟩:=vals_row h
 injection e with e1 e2 e3
 subst e1
 exact hv
def wrapM (q:RMark × Int):RMark × Int:=(⟨wrapI q.1.th 7,q.1.kind,q.1.cell⟩,q.2)
set_option maxRecDepth 100000 in
set_option maxHeartbeats 4000000 in
theorem rm_walk (A:Option Addr)(c:Nat)(l:List (RMark × Int))(Ah:Option Addr)(ch:Nat)(homes:List Int)(cell many:Nat)(w:World)(hl:MarksIn w A l)(hln:l.length<=9223372036854775807)(hb:∀ q∈l,I64 q.1.th/\I64 q.1.kind/\I64 q.1.cell/\I64 q.2)
  (hh:Ints w (.slice Ah homes.length ch) homes)(hc:cell<256)(hm:many<256) :
  Calls Tryd.prog 4 #[.slice A l.length c,.slice Ah homes.length ch,.int .u8 cell,.int .u8 many] w fun e w'=>e=.returned (.bool true)/\Ext w w':=by
 have hx0:=Lib.hid (Ext.refl w)
 by_cases h1:l.length<=150
 rotate_left
 · have d1:decide ((150:Int)<(l.length:Int))=true:=by rw [decide_eq_true_eq];omega
   clear hl hb hh
   go_enter Tryd.func4,Tryd.ntmps4
   go_wp2_with fail
   refine (alive49 _).mono ?_
   rintro e w2 ⟨rfl,hx⟩
   have hf:=Lib.hid hx
   clear hx
   go_wp2_with fail
   go_ret
   exact⟨rfl,hf.out⟩
 have d1:decide ((150:Int)<(l.length:Int))=false:=by rw [decide_eq_false_iff_not];omega
 by_cases h2:homes.length<=100
 rotate_left
 · have d2:decide ((100:Int)<(homes.length:Int))=true:=by rw [decide_eq_true_eq];omega
   clear hl hb hh
   go_enter Tryd.func4,Tryd.ntmps4
   go_wp2_with fail
   refine (alive49 _).mono ?_
   rintro e w2 ⟨rfl,hx⟩
   have hf:=Lib.hid hx
   clear hx
   go_wp2_with fail
   go_ret
   exact⟨rfl,hf.out⟩
 have d2:decide ((100:Int)<(homes.length:Int))=false:=by rw [decide_eq_false_iff_not];omega
 have hlh:=Lib.hid hl
 have hbh:=Lib.hid hb
 have hhh:=Lib.hid hh
 obtain⟨ms,hms⟩:∃ ms,ms=l.map wrapM:=⟨_,rfl⟩
 have hmsh:=Lib.hid hms
 have hml:ms.length=l.length:=by rw [hms];simp
 have hmb:=Lib.hid (show ∀ q∈ms,0<=q.1.th/\q.1.th<8/\I64 q.1.cell from fun q hq=>by
  rw [hms] at hq
  obtain⟨q0,hq0,rfl⟩:=List.mem_map.1 hq
  have:=wrap7 q0.1.th
  exact⟨this.1,this.2,(hb q0 hq0).2.2.1⟩)
 have hmlh:=Lib.hid hml
 clear hl hb hh hms hml
 go_enter Tryd.func4,Tryd.ntmps4
 go_wp2_with fail
 go_loopw [9,10] (fun a9 a10 wr=>∃ j:Nat,a10=.int .i64 j/\j<=l.length/\MkRow wr w.heap.size a9 (ms.take j)/\Hid (Ext w wr)) (fun _ a10 _=>l.length-(intOf a10).toNat)
 case atStart=>exact⟨0,rfl,by omega,⟨rfl,.inl ⟨rfl,rfl⟩⟩,hx0⟩
 case round =>
  obtain⟨j,rfl,hj,hrow,hx⟩:=hrel
  obtain⟨Am,cm,e,hcm,hcmm,hvals⟩:=vals_row hrow
  have hlj:(ms.take j).length=j:=by rw [List.length_take,hmlh.out];omega
  rw [hlj] at e hcm
  subst e
  unfold MkRow at hrow
  rw [hlj] at hrow
  have hsz:=hx.out.size
  by_cases hjl:j<l.length
  · have dj:decide ((j:Int)<(l.length:Int))=true:=by rw [decide_eq_true_eq];omega
    obtain⟨q,hq⟩:∃ q,l[j]?=some q:=⟨_,List.getElem?_eq_getElem hjl⟩
    obtain⟨b,off,rfl,hbl,hcell⟩:=(hlh.out.ext hx.out) (by rintro rfl;simp at hjl)
    obtain⟨c0,c1,c2,c3⟩:=hcell j q hq
    have hbw:b<w.heap.size:=by
     obtain⟨b',off',e',hb',_⟩:=hlh.out (by rintro rfl;simp at hjl)
     injection e' with e'
     injection e' with e' _ _
     subst e'
     exact hb'
    have htk:=Lib.hid (show ms.take (j+1)=ms.take j++[wrapM q] by
     rw [List.take_add_one,hmsh.out,List.getElem?_map,hq]
     rfl)
    obtain⟨⟨th,kd,x⟩,vl⟩:=q
    dsimp only at c0 c1 c2 c3
    have hrowh:=Lib.hid hrow
    clear hcell hvals hrow hq
    go_upto_region 7 with fail
    have hC0:Hid (∀ W,Ext w W->W.cell? ⟨b,off+j*4,none⟩=some (.int .i64 th)/\W.cell? ⟨b,off+j*4+1,none⟩=some (.int .i64 kd)/\W.cell? ⟨b,off+j*4+2,none⟩=some (.int .i64 x)/\W.cell? ⟨b,off+j*4+3,none⟩=some (.int .i64 vl)):=Lib.hid fun W h=>by
     have e:∀ k,W.cell? ⟨b,k,none⟩=wr.cell? ⟨b,k,none⟩:=fun k=>(h.cell (p:=⟨b,k,none⟩) hbw).trans (hx.out.cell (p:=⟨b,k,none⟩) hbw).symm
     rw [e,e,e,e]
     exact⟨c0,c1,c2,c3⟩
    have hCx:=hC0
    clear hC0
    obtain⟨i0,hi,hz0,hz1,hz2⟩:=info_parts info_mark
    have hSx:Hid (∀ W,Ext wr W->W.cell? ⟨b,off+j*4,none⟩=some (.int .i64 th)/\W.cell? ⟨b,off+j*4+1,none⟩=some (.int .i64 kd)/\W.cell? ⟨b,off+j*4+2,none⟩=some (.int .i64 x)/\W.cell? ⟨b,off+j*4+3,none⟩=some (.int .i64 vl)):=Lib.hid fun W h=>⟨(h.cell (p:=⟨b,_,none⟩) hbl).trans c0,(h.cell (p:=⟨b,_,none⟩) hbl).trans c1,(h.cell (p:=⟨b,_,none⟩) hbl).trans c2,(h.cell (p:=⟨b,_,none⟩) hbl).trans c3⟩
    have hS:=hSx.out _ ((Ext.refl wr).drew)
    refine wp_region_held_drew (S:=fun w'=>w'.cell? ⟨b,off+j*4,none⟩=some (.int .i64 th)/\w'.cell? ⟨b,off+j*4+1,none⟩=some (.int .i64 kd)/\w'.cell? ⟨b,off+j*4+2,none⟩=some (.int .i64 x)/\w'.cell? ⟨b,off+j*4+3,none⟩=some (.int .i64 vl)) rfl hS (fun hHeld=>?_)
    clear c0 c1 c2 c3
    refine tkb 0 ?_
    iterate 6
     refine tkn (v:=?_) rfl (by kernel_rfl) (fun _ _ _ h=>h) (by assumption) ?_ ?_
     rotate_left
     · (intro w hSw;(try dsimp only at hSw);go_simp;try with_reducible rfl)
     try simp only [put_pack]
    refine tke ?_
    refine tkb 7 ?_
    iterate 5
     refine tkn (v:=?_) rfl (by kernel_rfl) (fun _ _ _ h=>h) (by assumption) ?_ ?_
     rotate_left
     · (intro w hSw;(try dsimp only at hSw);go_simp;try with_reducible rfl)
     try simp only [put_pack]
    refine tke ?_
    refine wpAnyH_ready (rs:=[6]) (by kernel_rfl) (by simp) ?_
    refine AllReadyH.cons rfl (fun K hKK=>?_) (AllReadyH.nil)
    go_simp
    refine (wrap_r th 7 _).mono ?_
    rintro e wx ⟨rfl,rfl⟩
    refine hKK.out _ _ hS (fun hHeld=>?_)
    clear hKK K
    try dsimp only
    refine tk 12 (v:=?_) rfl (by kernel_rfl) (fun _ _ _ h=>h) (by assumption) ?_ ?_
    rotate_left
    · (intro w hSw;(try dsimp only at hSw);go_simp;try with_reducible rfl)
    try simp only [put_pack]
    refine wpAnyH_ready (rs:=[13]) (by kernel_rfl) (by simp) ?_
    refine AllReadyH.cons rfl (fun K hKK=>?_) (AllReadyH.nil)
    go_simp
    have hS2:=hSx.out _ (((Ext.refl wr).alloc (.cells #[.int .i64 (wrapI th 7),.int .i64 kd,.int .i64 x,.int .i64 vl] 45)).drew)
    refine hKK.out _ _ hS2 (fun hHeld=>?_)
    clear hKK K
    try dsimp only
    refine wpAnyH_ready (rs:=[14]) (by kernel_rfl) (by simp) ?_
    refine AllReadyH.cons rfl (fun K hKK=>?_) (AllReadyH.nil)
    refine step_append_lies _ (by rfl) _ _ _ (by rfl) w.heap.size 45 i0 _ 4 32 Tryd.underlying39 hi hz0 hz1 hz2 rfl (by omega) (Value.slice Am j cm) j ((ms.take j).flatMap markVals) (by rfl) ((World.ownsRow.drew hrowh.out).alloc _) ⟨wr.heap.size,0,none⟩ 1 1 [.int .i64 (wrapI th 7),.int .i64 kd,.int .i64 x,.int .i64 vl] (by rfl) (by rfl) (cells_new1 wr _ _) (by simp [Value.oneCell']) (by omega) (by unfold maxLen;omega) (by omega) (by simp;omega) (wr.heap.size+1) (by simp) ?_
    intro gg cap w4 hown1 hgrow hat1 hlt1
    have hx4:Ext w w4:=Below.grown hx.out (grown1 hgrow) hsz (fun k hk=>(mk_own hrowh.out hk).1)
    have hr4:MkRow w4 w.heap.size (.slice (some ⟨gg,0,none⟩) (j+1) cap) (ms.take (j+1)):=by
     rw [htk.out]
     unfold MkRow
     rw [List.length_append,List.flatMap_append,hlj]
     simpa [wrapM,markVals] using hown1
    have hS4:=hCx.out _ hx4
    refine hKK.out _ _ hS4 (fun hHeld=>?_)
    clear hKK K hown1 hgrow hat1 hlt1
    try dsimp only
    refine tk 15 (v:=?_) rfl (by kernel_rfl) (fun _ _ _ h=>h) (by assumption) ?_ ?_
    rotate_left
    · (intro w hSw;(try dsimp only at hSw);go_simp;try with_reducible rfl)
    try simp only [put_pack]
    refine wpAnyH_done (by kernel_rfl) ?_ _
    go_simp
    have hr4h:=Lib.hid hr4
    have hx4h:=Lib.hid hx4
    clear hr4 hx4 hS hS2 hS4 hi hz0 hz1 hz2
    go_wp2_with fail
    refine⟨⟨j+1,by first | rfl | go_num,by omega,hr4h.out,hx4h⟩,?_⟩
    simp [intOf];omega
  · have dj:decide ((j:Int)<(l.length:Int))=false:=by rw [decide_eq_false_iff_not];omega
    obtain rfl:j=l.length:=by omega
    rw [show ms.take l.length=ms by rw [List.take_of_length_le (by rw [hmlh.out];exact Nat.le_refl _)]] at hrow hvals
    obtain⟨F,hF⟩:∃ F:Nat->RCount,∀ t:Nat,F t=(rcount homes (fun x=>x==(t:Int)) (ms.map Prod.fst)).2:=⟨_,fun _=>rfl⟩
    obtain⟨sA,hA⟩:∃ s,(rcount homes (fun _=>true) (ms.map Prod.fst)).2=s:=⟨_,rfl⟩
    have hadd:=Lib.hid (show (rsum F 8).reads=sA.reads/\(rsum F 8).writes=sA.writes/\(rsum F 8).home=sA.home/\(rsum F 8).cache=sA.cache by
     have h:=radds homes (ms.map Prod.fst) (fun m hm=>by
      obtain⟨q,hq,rfl⟩:=List.mem_map.1 hm
      exact⟨(hmb.out q hq).1,(hmb.out q hq).2.1⟩)
     have e:F=fun t:Nat=>(rcount homes (fun x=>x==(t:Int)) (ms.map Prod.fst)).2:=funext hF
     simp only at h
     rw [<- e,hA] at h
     exact h.2)
    have hFb:∀ t,(F t).reads<=150/\(F t).writes<=150/\(F t).home<=150/\(F t).cache<=150:=fun t=>by
     rw [hF]
     have:=rcount_le homes (fun x=>x==(t:Int)) (ms.map Prod.fst)
     rw [List.length_map,hmlh.out] at this
     omega
    have hFbh:=Lib.hid hFb
    have hsb:=Lib.hid (rsum_le hFb)
    have hFh:=Lib.hid hF
    have hms2:=Lib.hid (show ∀ q∈ms,I64 q.1.th/\I64 q.1.cell from fun q hq=>⟨by have:=hmb.out q hq;unfold I64;omega,(hmb.out q hq).2.2⟩)
    have hof:=of_p Am cm ms Ah ch homes wr hvals (by rw [hmlh.out];omega) (hhh.out.ext hx.out) (by omega) hms2.out (fun _=>true) (fun _=>rfl)
    rw [hA,hmlh.out] at hof
    have hofh:=Lib.hid hof
    have hrowh:=Lib.hid hrow
    clear hof hFb hF hA hvals hrow dj
    go_wp2_with fail
    refine hofh.out.mono ?_
    rintro e w2 ⟨rfl,hx2⟩
    have hsepw:∀ b,(Value.slice Am l.length cm).ownBlock=some b->b<w2.heap.size:=fun b hb=>Nat.lt_of_lt_of_le (mk_own hrowh.out hb).2 hx2.size
    have hrow2:=Lib.hid (row_ext hrowh.out hx2)
    have hxx:=Lib.hid (hx.out.trans hx2)
    clear hofh hrowh hx hx2 hsz
    unfold encCt
    dsimp only
    go_upto_region 10 with fail
    have k11:=(Blk.new w2 (.cells #[.int .i64 sA.reads,.int .i64 sA.writes,.int .i64 sA.home,.int .i64 sA.cache,.int .i64 sA.cells.length] 47)).alloc (.cells #[.int .i64 0,.int .i64 0,.int .i64 0,.int .i64 0,.int .i64 0] 47)
    have k12:=Blk.new (w2.alloc (.cells #[.int .i64 sA.reads,.int .i64 sA.writes,.int .i64 sA.home,.int .i64 sA.cache,.int .i64 sA.cells.length] 47)) (.cells #[.int .i64 0,.int .i64 0,.int .i64 0,.int .i64 0,.int .i64 0] 47)
    rw [World.size_alloc] at k12
    have hrow3:=Lib.hid ((hrow2.out.alloc (.cells #[.int .i64 sA.reads,.int .i64 sA.writes,.int .i64 sA.home,.int .i64 sA.cache,.int .i64 sA.cells.length] 47)).alloc (.cells #[.int .i64 0,.int .i64 0,.int .i64 0,.int .i64 0,.int .i64 0] 47))
    have hx3:=Lib.hid ((hxx.out.alloc (.cells #[.int .i64 sA.reads,.int .i64 sA.writes,.int .i64 sA.home,.int .i64 sA.cache,.int .i64 sA.cells.length] 47)).alloc (.cells #[.int .i64 0,.int .i64 0,.int .i64 0,.int .i64 0,.int .i64 0] 47))
    have hge:=Lib.hid (show w.heap.size<=w2.heap.size+1 by have:=hxx.out.size;omega)
    have hsep:=Lib.hid (show (∀ b,(Value.slice Am l.length cm).ownBlock=some b->b≠w2.heap.size+1)/\w2.heap.size≠w2.heap.size+1 from ⟨fun b hb=>by have:=hsepw b hb;omega,by omega⟩)
    clear hrow2 hxx hsepw
    generalize World.alloc (World.alloc w2 _) _=W3 at *
    generalize hb12:w2.heap.size+1=b12 at *
    generalize hb11:w2.heap.size=b11 at *
    clear hb12 hb11
    have k11h:=Lib.hid k11
    have k12h:=Lib.hid k12
    clear k11 k12
    go_wp2_with fail
    go_loopw [13] (fun a13 wq=>∃ j:Nat,a13=.int .i64 j/\j<=8/\Hid (Ext w wq/\Blk wq b11 (.cells #[.int .i64 sA.reads,.int .i64 sA.writes,.int .i64 sA.home,.int .i64 sA.cache,.int .i64 sA.cells.length] 47)/\Blk wq b12 (.cells #[.int .i64 (rsum F j).reads,.int .i64 (rsum F j).writes,.int .i64 (rsum F j).home,.int .i64 (rsum F j).cache,.int .i64 0] 47)/\wq.ownsRow w.heap.size 45 4 (.slice Am l.length cm) l.length (ms.flatMap markVals))) (fun a13 _=>8-(intOf a13).toNat)
    case atStart=>exact⟨0,rfl,by omega,hx3.out,k11h.out,k12h.out,hrow3.out⟩
    case round =>
     clear hx3 k11h k12h hrow3
     obtain⟨j,rfl,hj,hR⟩:=hrel
     obtain⟨hx4,k11,k12,hrow4⟩:=hR.out
     clear hR
     by_cases hj8:j<8
     · have dj:decide ((j:Int)<8)=true:=by rw [decide_eq_true_eq];omega
       have hby:=by_p Am cm ms Ah ch homes wr (vals_of_row hrow4) (by rw [hmlh.out];omega) (hhh.out.ext hx4) (by omega) hms2.out j (fun x=>x==(j:Int)) (fun _=>rfl)
       rw [<- hFh.out j,hmlh.out] at hby
       have hbyh:=Lib.hid hby
       have hrow4h:=Lib.hid hrow4
       have hx4h:=Lib.hid hx4
       have k11h:=Lib.hid k11
       have k12h:=Lib.hid k12
       clear hby hrow4 hx4 k11 k12
       go_wp2_with fail
       refine hbyh.out.mono ?_
       rintro e w5 ⟨rfl,hx5⟩
       have k11:=k11h.out.ext hx5
       have k12:=k12h.out.ext hx5
       have hrow5:=Lib.hid (row_ext hrow4h.out hx5)
       have hx5h:=Lib.hid (hx4h.out.trans hx5)
       clear hbyh hrow4h hx4h k11h k12h hx5
       unfold encCt
       dsimp only
       go_upto_region 14 with fail
       obtain⟨R,hRe⟩:∃ R,rsum F j=R:=⟨_,rfl⟩
       obtain⟨G,hGe⟩:∃ G,F j=G:=⟨_,rfl⟩
       have hRb:=hsb.out j
       have hGb:=hFbh.out j
       have hRs:rsum F (j+1)=⟨R.reads+G.reads,R.writes+G.writes,R.home+G.home,R.cache+G.cache,[]⟩:=by
        show (⟨(rsum F j).reads+(F j).reads,_,_,_,[]⟩:RCount)=_
        rw [hRe,hGe]
       have hRsh:=Lib.hid hRs
       rw [hRe] at k12 hRb
       rw [hGe] at hGb
       rw [hGe]
       clear hRs hRe hGe
       have k14:=Blk.new w5 (.cells #[.int .i64 G.reads,.int .i64 G.writes,.int .i64 G.home,.int .i64 G.cache,.int .i64 G.cells.length] 47)
       have k11b:=Lib.hid (k11.alloc (.cells #[.int .i64 G.reads,.int .i64 G.writes,.int .i64 G.home,.int .i64 G.cache,.int .i64 G.cells.length] 47))
       have k12b:=Lib.hid (k12.alloc (.cells #[.int .i64 G.reads,.int .i64 G.writes,.int .i64 G.home,.int .i64 G.cache,.int .i64 G.cells.length] 47))
       have hrow6:=Lib.hid (hrow5.out.alloc (.cells #[.int .i64 G.reads,.int .i64 G.writes,.int .i64 G.home,.int .i64 G.cache,.int .i64 G.cells.length] 47))
       have hx6:=Lib.hid (hx5h.out.alloc (.cells #[.int .i64 G.reads,.int .i64 G.writes,.int .i64 G.home,.int .i64 G.cache,.int .i64 G.cells.length] 47))
       clear hrow5 hx5h k11 k12
       generalize World.alloc w5 _=W6 at *
       generalize hb14:w5.heap.size=b14 at *
       clear hb14
       have c14:=k14.cells
       have c12:=k12b.out.cells
       have f12:=frozen_of_heap k12b.out
       have s1:=IntWalk.i64_in ((R.reads:Int)+(G.reads:Int)) (by omega)
       have s2:=IntWalk.i64_in ((R.writes:Int)+(G.writes:Int)) (by omega)
       have s3:=IntWalk.i64_in ((R.home:Int)+(G.home:Int)) (by omega)
       have s4:=IntWalk.i64_in ((R.cache:Int)+(G.cache:Int)) (by omega)
       obtain⟨p1,p2⟩:=five_stored k12b.out hx6.out hge.out (.int .i64 ((R.reads:Int)+(G.reads:Int))) (.int .i64 ((R.writes:Int)+(G.writes:Int))) (.int .i64 ((R.home:Int)+(G.home:Int))) (.int .i64 ((R.cache:Int)+(G.cache:Int))) (.int .i64 0)
       have p3:(((((W6.setCell ⟨b12,0,none⟩ (.int .i64 ((R.reads:Int)+(G.reads:Int)))).setCell ⟨b12,1,none⟩ (.int .i64 ((R.writes:Int)+(G.writes:Int)))).setCell ⟨b12,2,none⟩ (.int .i64 ((R.home:Int)+(G.home:Int)))).setCell ⟨b12,3,none⟩ (.int .i64 ((R.cache:Int)+(G.cache:Int)))).setCell ⟨b12,4,none⟩ (.int .i64 0)).ownsRow w.heap.size 45 4 (.slice Am l.length cm) l.length (ms.flatMap markVals):=by
        have hne:(Value.slice Am l.length cm).ownBlock≠some b12:=fun e=>(hsep.out.1 b12 e) rfl
        exact ownsRow_setCell_other (a:=⟨b12,4,none⟩) (ownsRow_setCell_other (a:=⟨b12,3,none⟩) (ownsRow_setCell_other (a:=⟨b12,2,none⟩) (ownsRow_setCell_other (a:=⟨b12,1,none⟩) (ownsRow_setCell_other (a:=⟨b12,0,none⟩) hrow6.out hne _) hne _) hne _) hne _) hne _
       have p4:=((((k11b.out.set (c:=b12) (i:=0) hsep.out.2 (.int .i64 ((R.reads:Int)+(G.reads:Int)))).set (c:=b12) (i:=1) hsep.out.2 (.int .i64 ((R.writes:Int)+(G.writes:Int)))).set (c:=b12) (i:=2) hsep.out.2 (.int .i64 ((R.home:Int)+(G.home:Int)))).set (c:=b12) (i:=3) hsep.out.2 (.int .i64 ((R.cache:Int)+(G.cache:Int)))).set (c:=b12) (i:=4) hsep.out.2 (.int .i64 0)
       have p1h:=Lib.hid p1
       have p2h:=Lib.hid p2
       have p3h:=Lib.hid p3
       have p4h:=Lib.hid p4
       clear p1 p2 p3 p4 k14 hRb hGb
       go_wp2_with fail
       refine⟨⟨j+1,by first | rfl | go_num,by omega,p2h.out,p4h.out,?_,p3h.out⟩,?_⟩
       · rw [hRsh.out]
         dsimp only
         rw [Int.natCast_add,Int.natCast_add,Int.natCast_add,Int.natCast_add]
         exact p1h.out
       · simp [intOf];omega
     · have dj:decide ((j:Int)<8)=false:=by rw [decide_eq_false_iff_not];omega
       obtain rfl:j=8:=by omega
       rw [show ((8:Nat):Int)=(8:Int) from rfl] at dj ⊢
       obtain⟨a1,a2,a3,a4⟩:=hadd.out
       rw [a1,a2,a3,a4] at k12
       clear a1 a2 a3 a4
       have c11:=k11.cells 4
       have c124:=k12.cells 4
       have f12:=frozen_of_heap k12
       have x4:=Lib.hid (hx4.setCell (p:=⟨b12,4,none⟩) hge.out (.int .i64 (sA.cells.length:Int)))
       have r4:=Lib.hid (ownsRow_setCell_other (a:=⟨b12,4,none⟩) hrow4 (fun e=>(hsep.out.1 b12 e) rfl) (.int .i64 (sA.cells.length:Int)))
       have q11:=Lib.hid (k11.set (c:=b12) (i:=4) hsep.out.2 (.int .i64 (sA.cells.length:Int)))
       have q12:=Lib.hid (heap_setCell (i:=4) k12 (.int .i64 (sA.cells.length:Int)))
       clear hx4 hrow4
       go_upto_region 16 with fail
       clear c11 c124 f12 k11 k12
       generalize World.setCell wr _ _=W7 at *
       have c11:=q11.out.cells
       have c12:=cell_of_heap q12.out
       simp only [List.setIfInBounds_toArray,List.set_cons_succ,List.set_cons_zero] at c12
       have x4b:=x4
       clear q11 q12
       go_wp2_with fail
       clear c11 c12 x4b hsep hge hadd hsb hFbh hFh
       go_loopw [9,15] (fun a9 a15 wq=>∃ j:Nat,a15=.int .i64 j/\j<=many+1/\MkRow wq w.heap.size a9 (ms++List.replicate j ((⟨9,1,(cell:Int)⟩:RMark),(0:Int)))/\Hid (Ext w wq)) (fun _ a15 _=>many+1-(intOf a15).toNat)
       case atStart=>exact⟨0,rfl,by omega,by unfold MkRow;rw [List.replicate_zero,List.append_nil,hmlh.out];exact r4.out,x4⟩
       case round =>
        clear r4 x4
        obtain⟨j,rfl,hj,hrow,hx⟩:=hrel
        obtain⟨A9,c9,e,hc9,hc9m,hvals⟩:=vals_row hrow
        have hlj:(ms++List.replicate j ((⟨9,1,(cell:Int)⟩:RMark),(0:Int))).length=l.length+j:=by rw [List.length_append,List.length_replicate,hmlh.out]
        rw [hlj] at e
        subst e
        have hsz:=hx.out.size
        by_cases hjm:j<=many
        · have dj:decide ((j:Int)<=(many:Int))=true:=by rw [decide_eq_true_eq];omega
          have hw:(ms++List.replicate j ((⟨9,1,(cell:Int)⟩:RMark),(0:Int))).length<1000000000:=by omega
          have hrowh:=Lib.hid hrow
          have hwh:=Lib.hid hw
          clear hvals hrow hw hlj
          go_wp2_with (at_builtin;refine append_mk rfl _ _ rfl w.heap.size _ _ ((⟨9,1,(cell:Int)⟩:RMark),(0:Int)) hrowh.out rfl rfl hwh.out hsz ?_)
          intro v' w1 hrow1 hg1
          have hx1:=Lib.hid (MkRow.appended hx.out hrowh.out hg1)
          have hrow2:MkRow w1 w.heap.size v' (ms++List.replicate (j+1) ((⟨9,1,(cell:Int)⟩:RMark),(0:Int))):=by
           rw [List.replicate_succ']
           first | exact hrow1 | (rw [<- List.append_assoc];exact hrow1)
          have hr1:=Lib.hid hrow2
          clear hrowh hg1 hx hrow1 hrow2 hwh
          go_wp2_with fail
          refine⟨⟨j+1,by first | rfl | go_num,by omega,hr1.out,hx1⟩,?_⟩
          simp [intOf];omega
        · have dj:decide ((j:Int)<=(many:Int))=false:=by rw [decide_eq_false_iff_not];omega
          obtain rfl:j=many+1:=by omega
          have hby:=by_p A9 c9 _ none 0 [] wr hvals (by rw [hlj];omega) (Ints.nil _) (by simp) (fun q hq=>by
           rcases List.mem_append.1 hq with hq | hq
           · exact hms2.out q hq
           · obtain rfl:=List.eq_of_mem_replicate hq
             exact⟨by show I64 9;unfold I64;omega,by show I64 (cell:Int);unfold I64;omega⟩) 9 (fun x=>x==9) (fun _=>rfl)
          have hral:=ralone [] (ms.map Prod.fst) (fun m hm=>by
           obtain⟨q,hq,rfl⟩:=List.mem_map.1 hm
           have:=hmb.out q hq
           omega) (cell:Int) (many+1)
          rw [hlj,List.map_append,List.map_replicate] at hby
          obtain⟨sB,hB⟩:∃ s,(rcount [] (fun x=>x==9) (ms.map Prod.fst++List.replicate (many+1) ⟨9,1,(cell:Int)⟩)).2=s:=⟨_,rfl⟩
          simp only at hral
          rw [hB] at hral hby
          obtain⟨_,r1,r2,r3,r4,r5⟩:=hral
          have hs:encCt sB=.agg #[.int .i64 (1+(many:Int)),.int .i64 0,.int .i64 (1+(many:Int)),.int .i64 1,.int .i64 1]:=by
           unfold encCt
           rw [r1,r2,r3,r4,r5,if_neg (show ¬ ownR0 [] (cell:Int) 9=true by unfold ownR0;simp),if_pos (Nat.succ_pos _),if_pos (Nat.succ_pos _)]
           have:((many+1:Nat):Int)=1+(many:Int):=by omega
           rw [this]
           rfl
          rw [hs] at hby
          have hbyh:=Lib.hid hby
          have s1:=IntWalk.i64_in (1+(many:Int)) (by omega)
          clear hby hs hvals hrow hlj r1 r2 r3 r4 r5 hB dj
          go_wp2_with fail
          refine hbyh.out.mono ?_
          rintro e w8 ⟨rfl,hx8⟩
          have hx9:=Lib.hid (hx.out.trans hx8)
          clear hbyh hx hx8 hsz
          go_wp2_with fail
          refine (alive49 _).mono ?_
          rintro e w9 ⟨rfl,hx10⟩
          have hf:=Lib.hid (((hx9.out).alloc (.cells #[.int .i64 (1+(many:Int)),.int .i64 0,.int .i64 (1+(many:Int)),.int .i64 1,.int .i64 1] 47)).trans hx10)
          clear hx9 hx10
          go_wp2_with fail
          first | exact⟨rfl,hf.out⟩ | (go_ret;exact⟨rfl,hf.out⟩)
end Go.Proofs.YtiahgcaenneonaaDoor
namespace Go.Proofs.YtiahgcaenneonaaDoor
open Go.ChangeShapes Go.WideShapes Go.ChangeAt Go.RowKit
theorem own:ownKnob Tryd.prog.godebug=none:=by kernel_rfl
def relay (k:IntKind) (zs:List Int):Obj->Obj
 | .cells _ t frozen=>.cells (zs.map fun z=>Value.int k z).toArray t frozen
 | o=>o
def bruijn32:List Int:=[0,1,28,2,29,14,24,3,30,22,20,15,25,17,4,8,31,27,13,23,21,19,16,7,26,12,18,6,11,5,10,9]
noncomputable def laidWorld (os:Os):World :=
 { World.holding Tryd.prog os ⟨#[],#[],[]⟩ with
  heap:=(((World.holding Tryd.prog os ⟨#[],#[],[]⟩).heap.modify 1 (relay .u64 Lib.pow10Tab)).modify 0 (relay .u8 deBruijn64)).modify 3 (relay .u8 bruijn32) }
end Go.Proofs.YtiahgcaenneonaaDoor
