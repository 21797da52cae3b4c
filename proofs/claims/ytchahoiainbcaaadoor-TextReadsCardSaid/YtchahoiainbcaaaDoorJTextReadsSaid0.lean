/-
  TextReadsSaid: part 0 of its proof.
-/
import Derived.Lib.ItoaNum
import Derived.Lib.BitFns
import Derived.Lib.TrailingZeros
import Derived.Lib.Split
import Derived.Lib.Join
import Derived.Lib.ItoaLen
import Derived.Test.YtchahoiainbcaaaDoorProg
import Derived.WalkKit
import Derived.WalkLawsBesides
import Derived.WalkSpells
import Derived.Lib.MinMax
import Derived.Lib.Hide
import Derived.Deep.QuietTactic
import Derived.BigQuiet
import Derived.RegionTactic
import Derived.Deep.RegionWith
import Derived.Deep.LoopGhost
import Derived.ShutString
import Derived.WalkSmall
import Derived.Lib.AppendIntMem
import Derived.Shelf.Strings.Builder1
import Derived.Shelf.Strings.Builder2
import Derived.Shelf.Strings.OnBuilder
import Derived.Shelf.Strings.BuilderF
import Derived.Shelf.Utf8.RuneCount
import Derived.Shelf.Strconv.Itoa0
import Derived.Shelf.Strconv.Itoa1
import Derived.Shelf.LaysM
import Derived.Shelf.Strconv.Itoa2
import Derived.Shelf.Strconv.Itoa3
import Derived.Shelf.Strings.Search1
import Derived.Shelf.Strings.Search2
import Derived.Shelf.Strings.Search3
import Derived.Shelf.Strings.Cut
import Derived.Shelf.Strings.Count
import Derived.Shelf.Strings.Shaped
import Derived.Shelf.Strings.Split
import Derived.Shelf.Strings.SplitShaped
import Derived.Shelf.Unicode.Decode
import Derived.Shelf.Strings.RuneCount
import Derived.Shelf.Strings.Explode
import Derived.Shelf.Unicode.DecodeSlow
import Derived.Shelf.Unicode.DecodeAny
import Derived.Lib.LaidTab
import Derived.Maps.AppendAt
import Derived.Laws.StructEq
import Derived.OrdersHeld
import Derived.Deep.RegionHeld2
import Derived.Deep.DeepCutAuto
import Derived.Deep.AppendLies
namespace Kv
def digits (n:Int):List UInt8:=Go.Lib.itoa n
theorem decDigits_step (u:Nat)(h:10<=u):Go.Lib.decDigits u=Go.Lib.decDigits (u / 10)++[UInt8.ofNat (48+u % 10)]:=by
 rw [Go.Lib.decDigits,dif_neg (by omega)]
theorem decDigits_one (u:Nat)(h:u<10):Go.Lib.decDigits u=[UInt8.ofNat (48+u)]:=by
 rw [Go.Lib.decDigits,dif_pos h]
def inSet (t:Int):Prop:=0<=t/\t<64
instance (t:Int):Decidable (inSet t):=inferInstanceAs (Decidable (_/\_))
abbrev Bs:=List UInt8
structure Ev where
 at_:Int
 kind:Int
 thread:Int
 call:Int
 val:Int
 err:Int
 rv:Int
deriving DecidableEq
def ev0:Ev:=⟨0,0,0,0,0,0,0⟩
def wi (n lo hi:Int):Bool:=decide (lo<=n)&&decide (n<=hi)
def fineR (e v:Int):Bool:=wi e 0 12&&wi v 0 1099511627776&&(e==0||v==0)
def fineE (e:Ev):Bool :=
 wi e.kind 1 4&&wi e.at_ 0 1048576&&wi e.thread 0 1048576&&wi e.call 0 1048576 &&
  (if e.kind=3 then wi e.val 1 5&&(e.err==0&&e.rv==0) else if e.kind=2 then e.val==0&&fineR e.err e.rv else e.val==0&&(e.err==0&&e.rv==0))
def kindsW:List Bs:=[[99,97,108,108],[114,101,116,117,114,110],[110,111,116,101],[104,97,108,116]]
def notesW:List Bs:=[[100,111,111,114],[98,101,104,105,110,100],[105,110],[108,101,102,116],[111,117,116]]
def nthW (l:List Bs) (i:Int):Bs:=l.getD (i-1).toNat []
def wordsE (e:Ev):List Bs :=
 [digits e.at_,nthW kindsW e.kind,digits e.thread,digits e.call]++(if e.kind=3 then [nthW notesW e.val] else if e.kind=2 then [digits e.err,digits e.rv] else [])
def lineE (e:Ev):Bs:=Go.Lib.join (wordsE e) [32]
def numF:Bs->Int->Option Int
 | [],n=>some n
 | c :: l,n=>if c.toNat<48∨57<c.toNat then none else numF l (10*n+(c.toNat-48))
def numW (w:Bs):Option Int:=if w=[]∨13<w.length∨(w.head?=some 48/\1<w.length) then none else numF w 0
def placeF (w:Bs):List Bs->Int->Int
 | [],_=>0
 | x :: l,i=>if x=w then i+1 else placeF w l (i+1)
def restE (kind:Int) (rest:List Bs):Option (Int × Int × Int) :=
 if kind=3 then match rest with | [n]=>some (placeF n notesW 0,0,0) | _=>none
 else if kind=2 then match rest with | [e,v]=>(numW e).bind fun x=>(numW v).map fun y=>(0,x,y) | _=>none
 else match rest with | []=>some (0,0,0) | _=>none
def evW (a k t c:Bs) (rest:List Bs):Option Ev :=
 (numW a).bind fun x=>(numW t).bind fun y=>(numW c).bind fun z=>(restE (placeF k kindsW 0) rest).bind fun q =>
   if fineE ⟨x,placeF k kindsW 0,y,z,q.1,q.2.1,q.2.2⟩ then some ⟨x,placeF k kindsW 0,y,z,q.1,q.2.1,q.2.2⟩ else none
def oneWs:List Bs->Option Ev
 | a :: k :: t :: c :: rest=>if rest.length<=2 then evW a k t c rest else none
 | _=>none
def oneE (line:Bs):Option Ev:=oneWs (Go.Lib.splitN line [32] 7)
theorem wi_iff {n lo hi:Int}:wi n lo hi=true↔lo<=n/\n<=hi:=by unfold wi;simp
theorem numF_snoc:∀ (l:Bs) (c:UInt8) (n:Int),numF (l++[c]) n=(numF l n).bind fun m=>if c.toNat<48∨57<c.toNat then none else some (10*m+(c.toNat-48))
 | [],c,n=>by simp [numF]
 | x :: l,c,n=>by
   show (if x.toNat<48∨57<x.toNat then none else numF (l++[c]) (10*n+(x.toNat-48)))=_
   rw [show numF (x :: l) n=if x.toNat<48∨57<x.toNat then none else numF l (10*n+(x.toNat-48)) from rfl]
   split
   · rfl
   · exact numF_snoc l c _
theorem digit_nat (d:Nat)(h:d<10):(UInt8.ofNat (48+d)).toNat=48+d:=by
 rw [UInt8.toNat_ofNat']
 omega
theorem numF_dec (u:Nat):numF (Go.Lib.decDigits u) 0=some (u:Int):=by
 induction u using Nat.strongRecOn with
 | ind u ih =>
   rw [Go.Lib.decDigits]
   split
   · rename_i h
     have:=digit_nat u h
     simp only [numF,this]
     rw [if_neg (by omega)]
     congr 1
     omega
   · rename_i h
     have hd:=digit_nat (u % 10) (Nat.mod_lt _ (by omega))
     rw [numF_snoc,ih (u / 10) (by omega)]
     simp only [Option.bind_some,hd]
     rw [if_neg (by omega)]
     congr 1
     omega
theorem dec_head (u:Nat):∃ c l,Go.Lib.decDigits u=c :: l/\(0<u->c≠48):=by
 induction u using Nat.strongRecOn with
 | ind u ih =>
   rw [Go.Lib.decDigits]
   split
   · rename_i h
     refine⟨_,_,rfl,fun hu e=>?_⟩
     have:=congrArg UInt8.toNat e
     rw [digit_nat u h] at this
     simp at this
     omega
   · rename_i h
     obtain⟨c,l,e,hc⟩:=ih (u / 10) (by omega)
     rw [e]
     exact⟨c,_,rfl,fun _=>hc (by omega)⟩
theorem dec_len:∀ (k:Nat) (u:Nat),u<10 ^ (k+1)->(Go.Lib.decDigits u).length<=k+1
 | 0,u,h=>by
   rw [Go.Lib.decDigits,dif_pos (by omega)]
   simp
 | k+1,u,h=>by
   rw [Go.Lib.decDigits]
   split
   · simp
   · have:=dec_len k (u / 10) (by rw [Nat.pow_succ] at h;omega)
     simp
     omega
theorem num_digits (n:Int)(h0:0<=n)(h1:n<10000000000000):numW (digits n)=some n:=by
 obtain⟨u,rfl⟩:∃ u:Nat,n=u:=⟨n.toNat,by omega⟩
 have e:digits (u:Int)=Go.Lib.decDigits u:=by
  unfold digits Go.Lib.itoa
  rw [if_neg (by omega),Int.toNat_natCast]
 have hl:=dec_len 12 u (by simp only [Nat.reducePow,Nat.reduceAdd];omega)
 obtain⟨c,l,e2,hc⟩:=dec_head u
 rw [e]
 unfold numW
 rw [if_neg]
 · exact numF_dec u
 · rintro (h | h | ⟨h,h2⟩)
   · rw [e2] at h;cases h
   · omega
   · rw [e2] at h
     simp only [List.head?_cons,Option.some.injEq] at h
     by_cases hu:0<u
     · exact hc hu h
     · obtain rfl:u=0:=by omega
       rw [Go.Lib.decDigits,dif_pos (by omega)] at h2
       simp at h2
theorem dec_chars (u:Nat):∀ c∈Go.Lib.decDigits u,48<=c.toNat/\c.toNat<=57:=by
 induction u using Nat.strongRecOn with
 | ind u ih =>
   intro c hc
   rw [Go.Lib.decDigits] at hc
   split at hc
   · rename_i h
     rw [List.mem_singleton] at hc
     subst hc
     rw [digit_nat u h]
     omega
   · rename_i h
     rcases List.mem_append.1 hc with hc | hc
     · exact ih (u / 10) (by omega) c hc
     · rw [List.mem_singleton] at hc
       subst hc
       rw [digit_nat _ (Nat.mod_lt _ (by omega))]
       omega
theorem digits_no (n:Int)(h0:0<=n):(32:UInt8) ∉ digits n/\(10:UInt8) ∉ digits n:=by
 have e:digits n=Go.Lib.decDigits n.toNat:=by
  unfold digits Go.Lib.itoa
  rw [if_neg (by omega)]
 rw [e]
 constructor
 · intro h
   have:=(dec_chars _ _ h).1
   revert this
   decide
 · intro h
   have:=(dec_chars _ _ h).1
   revert this
   decide
end Kv
namespace Kv
open Go.Lib
theorem index_hit:∀ (w rest:Bs),(32:UInt8) ∉ w->index (w++32 :: rest) [32]=w.length
 | [],rest,_=>by
   show index (32 :: rest) [32]=0
   unfold index
   rw [if_pos (by simp [List.isPrefixOf])]
 | b :: l,rest,h=>by
   have hb:b≠32:=fun e=>h (by simp [e])
   have ih:=index_hit l rest fun hm=>h (by simp [hm])
   show index (b :: (l++32 :: rest)) [32]=_
   unfold index
   rw [if_neg (by simp [List.isPrefixOf];exact fun e=>hb e.symm),ih,if_neg (by rw [beq_iff_eq];omega)]
   rw [List.length_cons]
   omega
theorem index_no:∀ (w:Bs),(32:UInt8) ∉ w->index w [32]=-1
 | [],_=>rfl
 | b :: l,h=>by
   have hb:b≠32:=fun e=>h (by simp [e])
   have ih:=index_no l fun hm=>h (by simp [hm])
   unfold index
   rw [if_neg (by simp [List.isPrefixOf];exact fun e=>hb e.symm),ih]
   rfl
theorem join_cons (x y:Bs)(l:List Bs):join (x :: y :: l) [32]=x++32 :: join (y :: l) [32]:=by
 unfold join
 simp [List.intercalate,List.intersperse]
theorem join_one (x:Bs):join [x] [32]=x:=by simp [join,List.intercalate,List.intersperse]
theorem split_join:∀ (l:List Bs) (x:Bs) (k:Nat),(∀ w∈x :: l,(32:UInt8) ∉ w)->l.length<=k->splitK [32] 0 k (join (x :: l) [32])=x :: l
 | [],x,k,h,_=>by
   rw [join_one]
   cases k with
   | zero=>rfl
   | succ k =>
     unfold splitK
     rw [index_no x (h x (by simp))]
     rfl
 | y :: l,x,0,h,hk=>by simp at hk
 | y :: l,x,k+1,h,hk=>by
   rw [join_cons]
   unfold splitK
   rw [index_hit x _ (h x (by simp)),if_neg (by rw [beq_iff_eq];omega)]
   have e1:(x++32 :: join (y :: l) [32]).take ((x.length:Int).toNat+0)=x:=by simp
   have e2:(x++32 :: join (y :: l) [32]).drop ((x.length:Int).toNat+[(32:UInt8)].length)=join (y :: l) [32]:=by
    rw [Int.toNat_natCast,show x.length+[(32:UInt8)].length=x.length+1 from rfl,<- List.drop_drop,List.drop_left]
    rfl
   rw [e1,e2,split_join l y k (fun w hw=>h w (List.mem_cons_of_mem _ hw)) (by simpa using hk)]
theorem join_len:∀ (l:List Bs) (x:Bs),l.length<=(join (x :: l) [32]).length
 | [],x=>Nat.zero_le _
 | y :: l,x=>by
   rw [join_cons,List.length_append,List.length_cons,List.length_cons]
   have:=join_len l y
   omega
theorem splitN_join (x:Bs)(l:List Bs)(h:∀ w∈x :: l,(32:UInt8) ∉ w)(hl:l.length<=6):splitN (join (x :: l) [32]) [32] 7=x :: l:=by
 unfold splitN
 have:=join_len l x
 exact split_join l x _ h (by omega)
theorem fine_parts {e:Ev}(h:fineE e=true):(1<=e.kind/\e.kind<=4)/\(0<=e.at_/\e.at_<=1048576)/\(0<=e.thread/\e.thread<=1048576)/\(0<=e.call/\e.call<=1048576) /\
  (e.kind=3->(1<=e.val/\e.val<=5)/\e.err=0/\e.rv=0)/\(e.kind=2->e.val=0/\(0<=e.err/\e.err<=12)/\(0<=e.rv/\e.rv<=1099511627776))/\(e.kind≠3->e.kind≠2->e.val=0/\e.err=0/\e.rv=0):=by
 unfold fineE at h
 simp only [Bool.and_eq_true,wi_iff] at h
 obtain⟨⟨⟨⟨h1,h2⟩,h3⟩,h4⟩,h5⟩:=h
 refine⟨h1,h2,h3,h4,fun e3=>?_,fun e2=>?_,fun n3 n2=>?_⟩
 · rw [if_pos e3] at h5
   simpa [wi_iff] using h5
 · rw [if_neg (by omega),if_pos e2] at h5
   unfold fineR at h5
   simp only [Bool.and_eq_true,wi_iff,beq_iff_eq] at h5
   exact⟨h5.1,h5.2.1.1,h5.2.1.2⟩
 · rw [if_neg n3,if_neg n2] at h5
   simpa using h5
theorem kind_no {k:Int}(h:1<=k/\k<=4):(32:UInt8) ∉ nthW kindsW k/\(10:UInt8) ∉ nthW kindsW k/\placeF (nthW kindsW k) kindsW 0=k:=by
 have:k=1∨k=2∨k=3∨k=4:=by omega
 rcases this with rfl | rfl | rfl | rfl <;> decide
theorem note_no {k:Int}(h:1<=k/\k<=5):(32:UInt8) ∉ nthW notesW k/\(10:UInt8) ∉ nthW notesW k/\placeF (nthW notesW k) notesW 0=k:=by
 have:k=1∨k=2∨k=3∨k=4∨k=5:=by omega
 rcases this with rfl | rfl | rfl | rfl | rfl <;> decide
theorem words_no {e:Ev}(h:fineE e=true):∀ w∈wordsE e,(32:UInt8) ∉ w/\(10:UInt8) ∉ w:=by
 obtain⟨h1,h2,h3,h4,h5,h6,h7⟩:=fine_parts h
 intro w hw
 unfold wordsE at hw
 rcases List.mem_append.1 hw with hw | hw
 · simp only [List.mem_cons,List.not_mem_nil,or_false] at hw
   rcases hw with rfl | rfl | rfl | rfl
   · exact digits_no _ h2.1
   · exact⟨(kind_no h1).1,(kind_no h1).2.1⟩
   · exact digits_no _ h3.1
   · exact digits_no _ h4.1
 · split at hw
   · rename_i e3
     rw [List.mem_singleton] at hw
     subst hw
     exact⟨(note_no (h5 e3).1).1,(note_no (h5 e3).1).2.1⟩
   · split at hw
     · rename_i e2
       obtain⟨g1,g2,g3⟩:=h6 e2
       simp only [List.mem_cons,List.not_mem_nil,or_false] at hw
       rcases hw with rfl | rfl
       · exact digits_no _ g2.1
       · exact digits_no _ g3.1
     · cases hw
theorem words_len (e:Ev):4<=(wordsE e).length/\(wordsE e).length<=6:=by
 unfold wordsE
 rw [List.length_append]
 split
 · simp
 · split <;> simp
theorem one_line {e:Ev}(h:fineE e=true):oneE (lineE e)=some e:=by
 have hno:=words_no h
 have hle:=words_len e
 unfold oneE lineE
 have hsp:splitN (join (wordsE e) [32]) [32] 7=wordsE e:=by
  cases hw:wordsE e with
  | nil=>rw [hw] at hle;simp at hle
  | cons x l =>
    rw [hw] at hno hle
    exact splitN_join x l (fun w hm=>(hno w hm).1) (by simp at hle;omega)
 rw [hsp]
 obtain⟨h1,h2,h3,h4,h5,h6,h7⟩:=fine_parts h
 have ha:=num_digits e.at_ h2.1 (by omega)
 have ht:=num_digits e.thread h3.1 (by omega)
 have hc:=num_digits e.call h4.1 (by omega)
 have hk:=(kind_no h1).2.2
 have key:∀ rest,rest.length<=2->restE e.kind rest=some (e.val,e.err,e.rv)->oneWs ([digits e.at_,nthW kindsW e.kind,digits e.thread,digits e.call]++rest)=some e:=by
  intro rest hr hq
  show (if rest.length<=2 then evW _ _ _ _ rest else none)=_
  rw [if_pos hr]
  unfold evW
  rw [ha,ht,hc,hk]
  simp only [Option.bind_some]
  rw [hq]
  simp only [Option.bind_some]
  rw [if_pos h]
 unfold wordsE
 apply key
 · split
   · simp
   · split <;> simp
 · unfold restE
   by_cases e3:e.kind=3
   · obtain⟨g1,g2,g3⟩:=h5 e3
     rw [if_pos e3,if_pos e3,g2,g3]
     simp only [(note_no g1).2.2]
   · rw [if_neg e3,if_neg e3]
     by_cases e2:e.kind=2
     · obtain⟨g1,g2,g3⟩:=h6 e2
       rw [if_pos e2,if_pos e2,g1]
       simp only [num_digits e.err g2.1 (by omega),num_digits e.rv g3.1 (by omega),Option.bind_some,Option.map_some]
     · obtain⟨g1,g2,g3⟩:=h7 e3 e2
       rw [if_neg e2,if_neg e2,g1,g2,g3]
def cutP (z:UInt8):Bs->Bs->List Bs
 | [],cur=>[cur]
 | c :: s,cur=>if c=z then cur :: cutP z s [] else cutP z s (cur++[c])
theorem cutP_ne (z:UInt8):∀ (s cur:Bs),cutP z s cur≠[]
 | [],_=>by simp [cutP]
 | c :: s,cur=>by
   unfold cutP
   split
   · simp
   · exact cutP_ne z s _
theorem cutP_len (z:UInt8):∀ (s cur:Bs),(cutP z s cur).length<=s.length+1
 | [],_=>by simp [cutP]
 | c :: s,cur=>by
   unfold cutP
   split
   · have:=cutP_len z s []
     simp only [List.length_cons]
     omega
   · have:=cutP_len z s (cur++[c])
     simp only [List.length_cons]
     omega
theorem cutP_no (z:UInt8):∀ (s cur:Bs),z ∉ cur->∀ w∈cutP z s cur,z ∉ w
 | [],cur,h,w,hw=>by
   simp only [cutP,List.mem_singleton] at hw
   subst hw
   exact h
 | c :: s,cur,h,w,hw=>by
   unfold cutP at hw
   split at hw
   · rcases List.mem_cons.1 hw with rfl | hw
     · exact h
     · exact cutP_no z s [] (by simp) w hw
   · rename_i hc
     refine cutP_no z s (cur++[c]) ?_ w hw
     rw [List.mem_append,List.mem_singleton]
     rintro (h' | rfl)
     · exact h h'
     · exact hc rfl
theorem cutP_join:∀ (s cur:Bs),join (cutP 32 s cur) [32]=cur++s
 | [],cur=>by rw [cutP,join_one,List.append_nil]
 | c :: s,cur=>by
   unfold cutP
   split
   · rename_i hc
     subst hc
     have ih:=cutP_join s []
     cases hx:cutP 32 s [] with
     | nil=>exact absurd hx (cutP_ne _ _ _)
     | cons y l =>
       rw [join_cons,<- hx,ih]
       rfl
   · rw [cutP_join s (cur++[c])]
     simp
theorem split_long:∀ (l:List Bs) (x:Bs) (k:Nat),(∀ w∈x :: l,(32:UInt8) ∉ w)->k<l.length->(splitK [32] 0 k (join (x :: l) [32])).length=k+1
 | [],x,k,h,hk=>by simp at hk
 | y :: l,x,0,h,hk=>rfl
 | y :: l,x,k+1,h,hk=>by
   rw [join_cons]
   unfold splitK
   rw [index_hit x _ (h x (by simp)),if_neg (by rw [beq_iff_eq];omega)]
   have e2:(x++32 :: join (y :: l) [32]).drop ((x.length:Int).toNat+[(32:UInt8)].length)=join (y :: l) [32]:=by
    rw [Int.toNat_natCast,show x.length+[(32:UInt8)].length=x.length+1 from rfl,<- List.drop_drop,List.drop_left]
    rfl
   rw [e2,List.length_cons,split_long l y k (fun w hw=>h w (List.mem_cons_of_mem _ hw)) (by simpa using hk)]
theorem split_cut (s:Bs):(cutP 32 s []).length<=6/\splitN s [32] 7=cutP 32 s []∨6<(cutP 32 s []).length/\(splitN s [32] 7).length=7:=by
 have hj:=cutP_join s []
 have hn:=cutP_no 32 s [] (by simp)
 rw [List.nil_append] at hj
 cases hx:cutP 32 s [] with
 | nil=>exact absurd hx (cutP_ne _ _ _)
 | cons x l =>
   rw [hx] at hj hn
   by_cases hl:l.length<=6
   · have h1:=splitN_join x l hn hl
     rw [hj] at h1
     by_cases h5:l.length<=5
     · exact .inl ⟨by simp;omega,h1⟩
     · exact .inr ⟨by simp;omega,by rw [h1];simp;omega⟩
   · refine .inr ⟨by simp;omega,?_⟩
     have h2:=split_long l x 6 hn (by omega)
     have h3:=join_len l x
     rw [hj] at h2 h3
     unfold splitN
     rw [show min 7 (s.length+1)-1=6 from by omega]
     exact h2
theorem dec_num:∀ (n:Nat) (l:Bs) (m:Int),l.length=n->l≠[]->(l.head?=some 48->l.length=1)->numF l 0=some m->∃ u:Nat,m=(u:Int)/\decDigits u=l/\(1<l.length->0<u)
 | 0,l,m,hn,h0,_,_=>absurd (List.length_eq_zero_iff.1 hn) h0
 | n+1,l,m,hn,h0,hz,hm=>by
   obtain⟨k,c,rfl⟩:∃ k c,l=k++[c]:=⟨l.dropLast,l.getLast h0,(List.dropLast_concat_getLast h0).symm⟩
   rw [numF_snoc] at hm
   cases hk:numF k 0 with
   | none=>rw [hk] at hm;cases hm
   | some q =>
     rw [hk,Option.bind_some] at hm
     split at hm
     · cases hm
     · rename_i hc
       simp only [Option.some.injEq] at hm
       have hcs:UInt8.ofNat c.toNat=c:=UInt8.ofNat_toNat
       by_cases hk0:k=[]
       · subst hk0
         simp only [numF,Option.some.injEq] at hk
         subst hk
         refine⟨c.toNat-48,by omega,?_,by simp⟩
         rw [decDigits,dif_pos (by omega),show 48+(c.toNat-48)=c.toNat from by omega,hcs]
         rfl
       · have hkl:0<k.length:=List.length_pos_iff.2 hk0
         have hz':k.head?≠some 48:=by
          intro e
          have:(k++[c]).head?=some 48:=by rw [List.head?_append,e];rfl
          have:=hz this
          simp at this
          exact hk0 this
         obtain⟨u,rfl,hu,hu1⟩:=dec_num n k q (by simpa using hn) hk0 (fun e=>absurd e hz') hk
         have hup:0<u:=by
          rcases Nat.eq_zero_or_pos u with rfl | h
          · rw [decDigits,dif_pos (by omega)] at hu
            exact absurd (by rw [<- hu];rfl) hz'
          · exact h
         refine⟨10*u+(c.toNat-48),by omega,?_,fun _=>by omega⟩
         rw [decDigits,dif_neg (by omega),show (10*u+(c.toNat-48)) / 10=u from by omega,show (10*u+(c.toNat-48)) % 10=c.toNat-48 from by omega,hu,
          show 48+(c.toNat-48)=c.toNat from by omega,hcs]
theorem digits_num {w:Bs}{n:Int}(h:numW w=some n):digits n=w:=by
 unfold numW at h
 split at h
 · cases h
 · rename_i hw
   have h0:w≠[]:=fun e=>hw (.inl e)
   obtain⟨u,rfl,hu,-⟩:=dec_num w.length w n rfl h0 (fun e=>by
    have hl:0<w.length:=List.length_pos_iff.2 h0
    have:¬ 1<w.length:=fun h'=>hw (.inr (.inr ⟨e,h'⟩))
    omega) h
   unfold digits itoa
   rw [if_neg (by omega),Int.toNat_natCast]
   exact hu
def numG:Bs->Nat->Int->Int
 | [],_,n=>n
 | c :: l,i,n=>if c.toNat<48∨57<c.toNat∨14<i then -1 else numG l (i+1) (10*n+(c.toNat-48))
def numD (w:Bs):Int:=if w=[] then -1 else numG w 0 0
theorem numG_num:∀ (l:Bs) (i:Nat) (n m:Int),i+l.length<=14->numF l n=some m->numG l i n=m
 | [],i,n,m,_,h=>by simpa [numF,numG] using h
 | c :: l,i,n,m,hi,h=>by
   unfold numF at h
   unfold numG
   rw [List.length_cons] at hi
   split at h
   · cases h
   · rename_i hc
     rw [if_neg (by omega)]
     exact numG_num l (i+1) _ m (by omega) h
theorem numD_num {w:Bs}{n:Int}(h:numW w=some n):numD w=n:=by
 unfold numW at h
 split at h
 · cases h
 · rename_i hw
   unfold numD
   rw [if_neg (fun e=>hw (.inl e))]
   refine numG_num w 0 0 n ?_ h
   have:¬ 13<w.length:=fun h'=>hw (.inr (.inl h'))
   omega
theorem place_nth:∀ (l:List Bs) (w:Bs) (i:Int),0<=i->placeF w l i=0∨i<placeF w l i/\l[(placeF w l i-i-1).toNat]?=some w
 | [],w,i,h=>.inl rfl
 | x :: l,w,i,h=>by
   unfold placeF
   split
   · rename_i hx
     subst hx
     exact .inr ⟨by omega,by rw [show i+1-i-1=0 from by omega];rfl⟩
   · rcases place_nth l w (i+1) (by omega) with h0 | ⟨h1,h2⟩
     · exact .inl h0
     · refine .inr ⟨by omega,?_⟩
       rw [show placeF w l (i+1)-i-1=((placeF w l (i+1)-(i+1)-1).toNat+1:Nat) from by omega,Int.toNat_natCast,List.getElem?_cons_succ]
       exact h2
theorem nth_place {l:List Bs}{w:Bs}(h:placeF w l 0≠0):nthW l (placeF w l 0)=w:=by
 rcases place_nth l w 0 (by omega) with h0 | ⟨h1,h2⟩
 · exact absurd h0 h
 · unfold nthW
   rw [List.getD_eq_getElem?_getD,show placeF w l 0-1=placeF w l 0-0-1 from by omega,h2]
   rfl
def docE (a k t c:Bs) (rest:List Bs):Ev :=
 ⟨numD a,placeF k kindsW 0,numD t,numD c,(match rest with | [n]=>placeF n notesW 0 | _=>0),(match rest with | [e,_]=>numD e | _=>0),(match rest with | [_,v]=>numD v | _=>0)⟩
def docWs (line:Bs):List Bs->Option Ev
 | a :: k :: t :: c :: rest=>if rest.length<=2/\fineE (docE a k t c rest)=true/\lineE (docE a k t c rest)=line then some (docE a k t c rest) else none
 | _=>none
def docOne (line:Bs):Option Ev:=docWs line (cutP 32 line [])
theorem ev_back {a k t c:Bs}{rest:List Bs}{e:Ev}(hr:rest.length<=2)(h:evW a k t c rest=some e):e=docE a k t c rest/\fineE e=true/\wordsE e=a :: k :: t :: c :: rest:=by
 unfold evW at h
 cases ha:numW a with
 | none=>rw [ha] at h;cases h
 | some x =>
 cases ht:numW t with
 | none=>rw [ha,ht] at h;cases h
 | some y =>
 cases hc:numW c with
 | none=>rw [ha,ht,hc] at h;cases h
 | some z =>
 cases hq:restE (placeF k kindsW 0) rest with
 | none=>rw [ha,ht,hc,hq] at h;cases h
 | some q =>
 rw [ha,ht,hc,hq] at h
 simp only [Option.bind_some] at h
 split at h
 · rename_i hf
   simp only [Option.some.injEq] at h
   subst h
   obtain⟨h1,h2,h3,h4,h5,h6,h7⟩:=fine_parts hf
   simp only at h1 h5 h6 h7
   have hk:=nth_place (l:=kindsW) (w:=k) (by omega)
   unfold restE at hq
   unfold docE wordsE
   simp only [numD_num ha,numD_num ht,numD_num hc,digits_num ha,digits_num ht,digits_num hc,hk]
   split at hq
   · rename_i e3
     match rest,hq with
     | [n],hq =>
       simp only [Option.some.injEq] at hq
       subst hq
       have hn:=nth_place (l:=notesW) (w:=n) (by have:=(h5 e3).1;simp only at this;omega)
       refine⟨rfl,hf,?_⟩
       rw [if_pos e3]
       simp only [hn,List.cons_append,List.nil_append]
   · rename_i e3
     split at hq
     · rename_i e2
       match rest,hq with
       | [u,v],hq =>
         change ((numW u).bind fun x=>Option.map (fun y=>((0:Int),x,y)) (numW v))=some q at hq
         cases hu:numW u with
         | none=>rw [hu] at hq;cases hq
         | some uu =>
         cases hv:numW v with
         | none=>rw [hu,hv] at hq;cases hq
         | some vv =>
         rw [hu,hv] at hq
         simp only [Option.bind_some,Option.map_some,Option.some.injEq] at hq
         subst hq
         refine⟨by simp only [numD_num hu,numD_num hv],hf,?_⟩
         rw [if_neg e3,if_pos e2]
         simp only [digits_num hu,digits_num hv]
         rfl
     · rename_i e2
       match rest,hq with
       | [],hq =>
         simp only [Option.some.injEq] at hq
         subst hq
         refine⟨rfl,hf,?_⟩
         rw [if_neg e3,if_neg e2]
         rfl
 · cases h
theorem doc_one (line:Bs):docOne line=oneE line:=by
 have hj:=cutP_join line []
 rw [List.nil_append] at hj
 cases h1:oneE line with
 | some e =>
   unfold oneE at h1
   rcases split_cut line with⟨hl,hs⟩ | ⟨hl,hs⟩
   · rw [hs] at h1
     unfold docOne
     match hw:cutP 32 line [],h1 with
     | a :: k :: t :: c :: rest,h1 =>
       change (if rest.length<=2 then evW a k t c rest else none)=some e at h1
       split at h1
       · rename_i hr
         obtain⟨he,hf,hws⟩:=ev_back hr h1
         subst he
         show (if rest.length<=2/\fineE (docE a k t c rest)=true/\lineE (docE a k t c rest)=line then some (docE a k t c rest) else none)=some (docE a k t c rest)
         rw [if_pos ⟨hr,hf,by unfold lineE;rw [hws,<- hw];exact hj⟩]
       · cases h1
   · exfalso
     match hw:splitN line [32] 7,h1 with
     | a :: k :: t :: c :: rest,h1 =>
       change (if rest.length<=2 then evW a k t c rest else none)=some e at h1
       split at h1
       · rw [hw] at hs
         simp at hs
         omega
       · cases h1
 | none =>
   cases h2:docOne line with
   | none=>rfl
   | some e =>
     exfalso
     unfold docOne at h2
     match hw:cutP 32 line [],h2 with
     | a :: k :: t :: c :: rest,h2 =>
       change (if rest.length<=2/\fineE (docE a k t c rest)=true/\lineE (docE a k t c rest)=line then some (docE a k t c rest) else none)=some e at h2
       split at h2
       · rename_i hr
         have:=one_line hr.2.1
         rw [hr.2.2,h1] at this
         cases this
       · cases h2
end Kv
namespace Go.Proofs.YtchahoiainbcaaaDoor
open Go.RowKit Kv
@[go_sem high] theorem run_min_ints3 {P:Program} (w:World) (ts:Array TypeId) (t:TypeId) (k k' k'':IntKind) (x y z:Int) :
  (Builtin.min_ ts t #[.int k x,.int k' y,.int k'' z]).run P w=.ok (.int k (min (min x y) z)) w:=by
 have e:∀ a b:Int,(if b<a then b else a)=min a b:=by intro a b;rw [Int.min_def];split <;> split <;> omega
 simp [Builtin.min_,Builtin.min2,e]
theorem ret_int {k:IntKind}{a b:Int}(h:a=b):Ending.returned (.int k a)=.returned (.int k b):=by rw [h]
def Drew (w w':World):Prop:=∃ n,w'=w.drewN n
theorem Drew.mk' (w:World)(n:Nat):Drew w (w.drewN n):=⟨n,rfl⟩
theorem Drew.trans {a b c:World}(h:Drew a b)(k:Drew b c):Drew a c:=by
 obtain⟨n,rfl⟩:=h
 obtain⟨m,rfl⟩:=k
 exact⟨n+m,by simp⟩
theorem Drew.below {w w':World}(B:Nat)(h:Drew w w'):Below B w w':=by
 obtain⟨n,rfl⟩:=h
 exact⟨rfl,rfl,rfl,Nat.le_refl _,fun _ _=>rfl⟩
def Ext (w w':World):Prop:=Below w.heap.size w w'
theorem Ext.refl (w:World):Ext w w:=Below.refl _ _
theorem Ext.size {w w':World}(h:Ext w w'):w.heap.size<=w'.heap.size:=Below.size h
theorem Ext.trans {a b c:World}(h:Ext a b)(k:Ext b c):Ext a c:=Below.trans h (Below.mono k (Ext.size h))
theorem Ext.drewN {a b:World}(h:Ext a b)(n:Nat):Ext a (b.drewN n):=Below.trans h ⟨rfl,rfl,rfl,Nat.le_refl _,fun _ _=>rfl⟩
theorem Ext.drew {a b:World}(h:Ext a b):Ext a b.drew:=Below.drew h
theorem Ext.alloc {a b:World}(h:Ext a b)(o:Obj):Ext a (b.alloc o):=Below.alloc h (Ext.size h) o
theorem Ext.setCell {a b:World}(h:Ext a b){p:Addr}(hp:a.heap.size<=p.block)(u:Value):Ext a (b.setCell p u):=Below.setCell h hp u
theorem Ext.grow {a b:World}(h:Ext a b)(k:Nat)(os:Array Obj):Ext a (Go.Sort.grow (b.drewN k) os):=by
 refine Ext.trans h ⟨rfl,rfl,rfl,?_,fun i hi=>?_⟩
 · show b.heap.size<=(b.heap++os).size
   simp
 · show (b.heap++os)[i]?=b.heap[i]?
   rw [Array.getElem?_append_left hi]
theorem Drew.ext {w w':World}(h:Drew w w'):Ext w w':=Drew.below _ h
theorem Ext.cell {w w':World}(h:Ext w w'){p:Addr}(hp:p.block<w.heap.size):w'.cell? p=w.cell? p:=Below.cell h hp
end Go.Proofs.YtchahoiainbcaaaDoor
namespace Go.Proofs
open Go.Shelf
def Tryd.lays169_ren:Go.Shelf.Ren:=⟨fun | 169=>32 | n=>n,fun | 70=>61 | 9=>9 | 0=>0 | 72=>64 | 37=>62 | 127=>80 | 3=>3 | 5=>5 | n=>n,fun | n=>n⟩
theorem Tryd.lays169:Go.Proofs.Lays.n169 Tryd.prog Tryd.lays169_ren:={
 mixed:=by kernel_rfl
 f169:=Tryd.func32.trans (congrArg some (by kernel_rfl))
 t0:=Tryd.underlying0
 a0:=Tryd.isAgg0
 z0:=Tryd.sizeOf0
 v0:=Tryd.zeroValue0
 t3:=Tryd.underlying3
 a3:=Tryd.isAgg3
 z3:=Tryd.sizeOf3
 v3:=Tryd.zeroValue3
 t9:=Tryd.underlying9
 a9:=Tryd.isAgg9
 z9:=Tryd.sizeOf9
 v9:=Tryd.zeroValue9
 t37:=Tryd.underlying62
 a37:=Tryd.isAgg62
 z37:=Tryd.sizeOf62
 v37:=Tryd.zeroValue62
 t70:=Tryd.underlying61
 a70:=Tryd.isAgg61
 z70:=Tryd.sizeOf61
 v70:=Tryd.zeroValue61
 t72:=Tryd.underlying64
 a72:=Tryd.isAgg64
 z72:=Tryd.sizeOf64
 v72:=Tryd.zeroValue64
 t127:=Tryd.underlying80
 a127:=Tryd.isAgg80
 z127:=Tryd.sizeOf80
 v127:=Tryd.zeroValue80 }
theorem Tryd.Builder_Extra_169:Builder.Extra Tryd.prog Tryd.lays169_ren:={
 sizeBuilder:=by kernel_rfl
 liesBuilder:=by kernel_rfl
 t5:=Tryd.underlying5
 a5:=Tryd.isAgg5
 z5:=Tryd.sizeOf5
 v5:=Tryd.zeroValue5
 infoByte:=by kernel_rfl
 cellsByte:=by kernel_rfl
 sizeByte:=by kernel_rfl
 neB5:=by decide }
open Go.RowKit in
theorem Tryd.Builder_String_any (B b:Nat)(l:List UInt8)(w:World)(h:Lib.IsBuilder 64 5 B b (Lib.byteCells l) w)(hBw:B<=w.heap.size) :
  Calls Tryd.prog 32 #[.pointer (some ⟨b,0,none⟩)] w fun e w'=>e=.returned (.string ⟨l.toArray⟩)/\Below B w w':=Any.Builder_String_any Tryd.lays169 Tryd.Builder_Extra_169 B b l w h hBw
def Tryd.lays156_ren:Go.Shelf.Ren:=⟨fun | 156=>19 | 165=>34 | 166=>30 | 169=>32 | 240=>42 | 241=>44 | 276=>48 | 277=>53 | n=>n,fun | 31=>47 | 9=>9 | 3=>3 | 4=>4 | 0=>0 | 20=>20 | 72=>64 | 76=>67 | 70=>61 | 37=>62 | 75=>66 | 127=>80 | 164=>83 | 5=>5 | 80=>70 | n=>n,fun | n=>n⟩
theorem Tryd.lays156:Go.Proofs.Lays.n156 Tryd.prog Tryd.lays156_ren:={
 mixed:=by kernel_rfl
 f156:=Tryd.func19.trans (congrArg some (by kernel_rfl))
 f165:=Tryd.func34.trans (congrArg some (by kernel_rfl))
 f166:=Tryd.func30.trans (congrArg some (by kernel_rfl))
 f169:=Tryd.func32.trans (congrArg some (by kernel_rfl))
 f240:=Tryd.func42.trans (congrArg some (by kernel_rfl))
 f241:=Tryd.func44.trans (congrArg some (by kernel_rfl))
 f276:=Tryd.func48.trans (congrArg some (by kernel_rfl))
 f277:=Tryd.func53.trans (congrArg some (by kernel_rfl))
 t0:=Tryd.underlying0
 a0:=Tryd.isAgg0
 z0:=Tryd.sizeOf0
 v0:=Tryd.zeroValue0
 t3:=Tryd.underlying3
 a3:=Tryd.isAgg3
 z3:=Tryd.sizeOf3
 v3:=Tryd.zeroValue3
 t4:=Tryd.underlying4
 a4:=Tryd.isAgg4
 z4:=Tryd.sizeOf4
 v4:=Tryd.zeroValue4
 t9:=Tryd.underlying9
 a9:=Tryd.isAgg9
 z9:=Tryd.sizeOf9
 v9:=Tryd.zeroValue9
 t20:=Tryd.underlying20
 a20:=Tryd.isAgg20
 z20:=Tryd.sizeOf20
 v20:=Tryd.zeroValue20
 t31:=Tryd.underlying47
 a31:=Tryd.isAgg47
 z31:=Tryd.sizeOf47
 v31:=Tryd.zeroValue47
 t37:=Tryd.underlying62
 a37:=Tryd.isAgg62
 z37:=Tryd.sizeOf62
 v37:=Tryd.zeroValue62
 t70:=Tryd.underlying61
 a70:=Tryd.isAgg61
 z70:=Tryd.sizeOf61
 v70:=Tryd.zeroValue61
 t72:=Tryd.underlying64
 a72:=Tryd.isAgg64
 z72:=Tryd.sizeOf64
 v72:=Tryd.zeroValue64
 t75:=Tryd.underlying66
 a75:=Tryd.isAgg66
 z75:=Tryd.sizeOf66
 v75:=Tryd.zeroValue66
 t76:=Tryd.underlying67
 a76:=Tryd.isAgg67
 z76:=Tryd.sizeOf67
 v76:=Tryd.zeroValue67
 t127:=Tryd.underlying80
 a127:=Tryd.isAgg80
 z127:=Tryd.sizeOf80
 v127:=Tryd.zeroValue80
 t164:=Tryd.underlying83
 a164:=Tryd.isAgg83
 z164:=Tryd.sizeOf83
 v164:=Tryd.zeroValue83 }
theorem Tryd.Builder_Extra_156:Builder.Extra Tryd.prog Tryd.lays156_ren:={
 sizeBuilder:=by kernel_rfl
 liesBuilder:=by kernel_rfl
 t5:=Tryd.underlying5
 a5:=Tryd.isAgg5
 z5:=Tryd.sizeOf5
 v5:=Tryd.zeroValue5
 infoByte:=by kernel_rfl
 cellsByte:=by kernel_rfl
 sizeByte:=by kernel_rfl
 neB5:=by decide }
open Go.RowKit in
theorem Tryd.strings_Join (bk o c:Nat)(xs:List ByteArray)(sep:ByteArray)(w:World)(hcells:∀ (j:Nat) x,xs[j]?=some x->w.cell? ⟨bk,o+j,none⟩=some (.string x))(hbk:bk<w.heap.size)(hN:xs.length<=140737488355328)(hcap:xs.length<=c)(hlen:(Lib.join (xs.map (·.data.toList)) sep.data.toList).length<=140737488355328) :
  Calls Tryd.prog 19 #[.slice (some ⟨bk,o,none⟩) xs.length c,.string sep] w fun e w'=>e=.returned (.string ⟨(Lib.join (xs.map (·.data.toList)) sep.data.toList).toArray⟩)/\Below w.heap.size w w':=Any.strings_Join Tryd.lays156 Tryd.Builder_Extra_156 bk o c xs sep w hcells hbk hN hcap hlen
def Tryd.laysM171_ren:Go.Shelf.Ren:=⟨fun | 171=>18 | 243=>33 | 246=>43 | 283=>49 | 284=>50 | 285=>51 | 286=>52 | 129=>60 | 317=>59 | 318=>61 | 319=>62 | 320=>63 | 337=>67 | 338=>68 | n=>n,fun | 3=>3 | 9=>9 | 2=>2 | 4=>4 | 171=>85 | 0=>0 | 53=>86 | 37=>62 | 5=>5 | 173=>89 | 212=>97 | 51=>98 | 20=>20 | 213=>99 | 46=>95 | 232=>109 | 233=>110 | n=>n,fun | 17=>1 | 18=>4 | 19=>5 | n=>n⟩
theorem Tryd.laysM171:Go.Proofs.LaysM.n171 Tryd.prog Tryd.laysM171_ren:={
 mixed:=by kernel_rfl
 f129:=Tryd.func60.trans (congrArg some (by kernel_rfl))
 f171:=Tryd.func18.trans (congrArg some (by kernel_rfl))
 f243:=Tryd.func33.trans (congrArg some (by kernel_rfl))
 f246:=Tryd.func43.trans (congrArg some (by kernel_rfl))
 f283:=Tryd.func49.trans (congrArg some (by kernel_rfl))
 f284:=Tryd.func50.trans (congrArg some (by kernel_rfl))
 f285:=Tryd.func51.trans (congrArg some (by kernel_rfl))
 f286:=Tryd.func52.trans (congrArg some (by kernel_rfl))
 f317:=Tryd.func59.trans (congrArg some (by kernel_rfl))
 f318:=Tryd.func61.trans (congrArg some (by kernel_rfl))
 f319:=Tryd.func62.trans (congrArg some (by kernel_rfl))
 f320:=Tryd.func63.trans (congrArg some (by kernel_rfl))
 f337:=Tryd.func67.trans (congrArg some (by kernel_rfl))
 f338:=Tryd.func68.trans (congrArg some (by kernel_rfl))
 t0:=Tryd.underlying0
 a0:=Tryd.isAgg0
 z0:=Tryd.sizeOf0
 v0:=Tryd.zeroValue0
 t2:=Tryd.underlying2
 a2:=Tryd.isAgg2
 z2:=Tryd.sizeOf2
 v2:=Tryd.zeroValue2
 t3:=Tryd.underlying3
 a3:=Tryd.isAgg3
 z3:=Tryd.sizeOf3
 v3:=Tryd.zeroValue3
 t4:=Tryd.underlying4
 a4:=Tryd.isAgg4
 z4:=Tryd.sizeOf4
 v4:=Tryd.zeroValue4
 t5:=Tryd.underlying5
 a5:=Tryd.isAgg5
 z5:=Tryd.sizeOf5
 v5:=Tryd.zeroValue5
 t9:=Tryd.underlying9
 a9:=Tryd.isAgg9
 z9:=Tryd.sizeOf9
 v9:=Tryd.zeroValue9
 t20:=Tryd.underlying20
 a20:=Tryd.isAgg20
 z20:=Tryd.sizeOf20
 v20:=Tryd.zeroValue20
 t37:=Tryd.underlying62
 a37:=Tryd.isAgg62
 z37:=Tryd.sizeOf62
 v37:=Tryd.zeroValue62
 t46:=Tryd.underlying95
 a46:=Tryd.isAgg95
 z46:=Tryd.sizeOf95
 v46:=Tryd.zeroValue95
 t51:=Tryd.underlying98
 a51:=Tryd.isAgg98
 z51:=Tryd.sizeOf98
 v51:=Tryd.zeroValue98
 t53:=Tryd.underlying86
 a53:=Tryd.isAgg86
 z53:=Tryd.sizeOf86
 v53:=Tryd.zeroValue86
 t171:=Tryd.underlying85
 a171:=Tryd.isAgg85
 z171:=Tryd.sizeOf85
 v171:=Tryd.zeroValue85
 t173:=Tryd.underlying89
 a173:=Tryd.isAgg89
 z173:=Tryd.sizeOf89
 v173:=Tryd.zeroValue89
 t212:=Tryd.underlying97
 a212:=Tryd.isAgg97
 z212:=Tryd.sizeOf97
 v212:=Tryd.zeroValue97
 t213:=Tryd.underlying99
 a213:=Tryd.isAgg99
 z213:=Tryd.sizeOf99
 t232:=Tryd.underlying109
 a232:=Tryd.isAgg109
 z232:=Tryd.sizeOf109
 v232:=Tryd.zeroValue109
 t233:=Tryd.underlying110
 a233:=Tryd.isAgg110
 z233:=Tryd.sizeOf110
 v233:=Tryd.zeroValue110
 g17:=by kernel_rfl
 g18:=by kernel_rfl
 g19:=by kernel_rfl
 i0:=by kernel_rfl
 i2:=by kernel_rfl
 i3:=by kernel_rfl
 i4:=by kernel_rfl
 i5:=by kernel_rfl
 i9:=by kernel_rfl
 i20:=by kernel_rfl
 i37:=by kernel_rfl
 i46:=by kernel_rfl
 i51:=by kernel_rfl
 i53:=by kernel_rfl
 i171:=by kernel_rfl
 i173:=by kernel_rfl
 i212:=by kernel_rfl
 i232:=by kernel_rfl
 i233:=by kernel_rfl
 m17:=by kernel_rfl
 m18:=by kernel_rfl
 m19:=by kernel_rfl }
open Go.RowKit Go.Sort Go.Lib in
theorem Tryd.strconv_Itoa (n:Int)(h0:-9223372036854775808<=n)(h1:n<=9223372036854775807)(w:World)(htab:Lib.TabIs Tryd.prog w "internal/strconv.uint64pow10" .u64 Lib.pow10Tab) :
  Calls Tryd.prog 18 #[.int .i64 n] w fun e w'=>e=.returned (.string ⟨(Lib.itoa n).toArray⟩)/\∃ k os,w'=grow (w.drewN k) os:=Any.strconv_Itoa Tryd.laysM171 n h0 h1 w htab
def Tryd.lays145_ren:Go.Shelf.Ren:=⟨fun | 145=>41 | 220=>47 | 219=>46 | 217=>55 | 225=>56 | 224=>57 | 267=>58 | 266=>65 | 314=>66 | n=>n,fun | 9=>9 | 4=>4 | 59=>78 | 3=>3 | 5=>5 | 46=>95 | 146=>102 | 51=>98 | n=>n,fun | 1=>0 | n=>n⟩
theorem Tryd.lays145:Go.Proofs.Lays.n145 Tryd.prog Tryd.lays145_ren:={
 mixed:=by kernel_rfl
 f145:=Tryd.func41.trans (congrArg some (by kernel_rfl))
 f217:=Tryd.func55.trans (congrArg some (by kernel_rfl))
 f219:=Tryd.func46.trans (congrArg some (by kernel_rfl))
 f220:=Tryd.func47.trans (congrArg some (by kernel_rfl))
 f224:=Tryd.func57.trans (congrArg some (by kernel_rfl))
 f225:=Tryd.func56.trans (congrArg some (by kernel_rfl))
 f266:=Tryd.func65.trans (congrArg some (by kernel_rfl))
 f267:=Tryd.func58.trans (congrArg some (by kernel_rfl))
 f314:=Tryd.func66.trans (congrArg some (by kernel_rfl))
 t3:=Tryd.underlying3
 a3:=Tryd.isAgg3
 z3:=Tryd.sizeOf3
 v3:=Tryd.zeroValue3
 t4:=Tryd.underlying4
 a4:=Tryd.isAgg4
 z4:=Tryd.sizeOf4
 v4:=Tryd.zeroValue4
 t5:=Tryd.underlying5
 a5:=Tryd.isAgg5
 z5:=Tryd.sizeOf5
 v5:=Tryd.zeroValue5
 t9:=Tryd.underlying9
 a9:=Tryd.isAgg9
 z9:=Tryd.sizeOf9
 v9:=Tryd.zeroValue9
 t46:=Tryd.underlying95
 a46:=Tryd.isAgg95
 z46:=Tryd.sizeOf95
 v46:=Tryd.zeroValue95
 t51:=Tryd.underlying98
 a51:=Tryd.isAgg98
 z51:=Tryd.sizeOf98
 v51:=Tryd.zeroValue98
 t59:=Tryd.underlying78
 a59:=Tryd.isAgg78
 z59:=Tryd.sizeOf78
 v59:=Tryd.zeroValue78
 t146:=Tryd.underlying102
 a146:=Tryd.isAgg102
 z146:=Tryd.sizeOf102
 v146:=Tryd.zeroValue102
 g1:=by kernel_rfl }
open Go.RowKit Go.Lib in
theorem Tryd.strings_Cut (s sep:ByteArray)(m:Int)(w:World)(hs:s.size<4294967281)(hm:w.cell? ⟨0,0,none⟩=some (.int .i64 m)) :
  Calls Tryd.prog 41 #[.string s,.string sep] w fun e w'=>e=.returned (.tuple #[.string ⟨(Lib.cut s.data.toList sep.data.toList).1.toArray⟩,.string ⟨(Lib.cut s.data.toList sep.data.toList).2.1.toArray⟩,.bool (Lib.cut s.data.toList sep.data.toList).2.2])/\∃ n,w'=w.drewN n:=Any.strings_Cut Tryd.lays145 s sep m w hs hm
def Tryd.lays138_ren:Go.Shelf.Ren:=⟨fun | 138=>26 | 195=>37 | 218=>38 | 143=>39 | 219=>46 | 217=>55 | 225=>56 | 224=>57 | 267=>58 | 266=>65 | 314=>66 | n=>n,fun | 9=>9 | 3=>3 | 4=>4 | 5=>5 | 0=>0 | 46=>95 | 146=>102 | 51=>98 | n=>n,fun | 1=>0 | n=>n⟩
theorem Tryd.lays138:Go.Proofs.Lays.n138 Tryd.prog Tryd.lays138_ren:={
 mixed:=by kernel_rfl
 f138:=Tryd.func26.trans (congrArg some (by kernel_rfl))
 f143:=Tryd.func39.trans (congrArg some (by kernel_rfl))
 f195:=Tryd.func37.trans (congrArg some (by kernel_rfl))
 f217:=Tryd.func55.trans (congrArg some (by kernel_rfl))
 f218:=Tryd.func38.trans (congrArg some (by kernel_rfl))
 f219:=Tryd.func46.trans (congrArg some (by kernel_rfl))
 f224:=Tryd.func57.trans (congrArg some (by kernel_rfl))
 f225:=Tryd.func56.trans (congrArg some (by kernel_rfl))
 f266:=Tryd.func65.trans (congrArg some (by kernel_rfl))
 f267:=Tryd.func58.trans (congrArg some (by kernel_rfl))
 f314:=Tryd.func66.trans (congrArg some (by kernel_rfl))
 t0:=Tryd.underlying0
 a0:=Tryd.isAgg0
 z0:=Tryd.sizeOf0
 v0:=Tryd.zeroValue0
 t3:=Tryd.underlying3
 a3:=Tryd.isAgg3
 z3:=Tryd.sizeOf3
 v3:=Tryd.zeroValue3
 t4:=Tryd.underlying4
 a4:=Tryd.isAgg4
 z4:=Tryd.sizeOf4
 v4:=Tryd.zeroValue4
 t5:=Tryd.underlying5
 a5:=Tryd.isAgg5
 z5:=Tryd.sizeOf5
 v5:=Tryd.zeroValue5
 t9:=Tryd.underlying9
 a9:=Tryd.isAgg9
 z9:=Tryd.sizeOf9
 v9:=Tryd.zeroValue9
 t46:=Tryd.underlying95
 a46:=Tryd.isAgg95
 z46:=Tryd.sizeOf95
 v46:=Tryd.zeroValue95
 t51:=Tryd.underlying98
 a51:=Tryd.isAgg98
 z51:=Tryd.sizeOf98
 v51:=Tryd.zeroValue98
 t146:=Tryd.underlying102
 a146:=Tryd.isAgg102
 z146:=Tryd.sizeOf102
 v146:=Tryd.zeroValue102
 g1:=by kernel_rfl }
open Go.RowKit Go.Lib in
theorem Tryd.strings_Count_one (s:ByteArray)(c:UInt8)(w:World) :
  Calls Tryd.prog 26 #[.string s,.string ⟨#[c]⟩] w fun e w'=>e=.returned (.int .i64 (Lib.countByte s.data.toList c))/\w'=w:=Any.strings_Count_one Tryd.lays138 s c w
def Tryd.lays147_ren:Go.Shelf.Ren:=⟨fun | 147=>22 | 221=>35 | 268=>45 | 138=>26 | 143=>39 | 195=>37 | 197=>54 | 218=>38 | 219=>46 | 260=>64 | 217=>55 | 225=>56 | 224=>57 | 267=>58 | 266=>65 | 314=>66 | n=>n,fun | 9=>9 | 3=>3 | 31=>47 | 4=>4 | 0=>0 | 105=>92 | 21=>21 | 5=>5 | 46=>95 | 119=>105 | 139=>108 | 138=>107 | 146=>102 | 51=>98 | n=>n,fun | 1=>0 | 3=>2 | 4=>3 | n=>n⟩
theorem Tryd.lays147:Go.Proofs.Lays.n147 Tryd.prog Tryd.lays147_ren:={
 mixed:=by kernel_rfl
 f138:=Tryd.func26.trans (congrArg some (by kernel_rfl))
 f143:=Tryd.func39.trans (congrArg some (by kernel_rfl))
 f147:=Tryd.func22.trans (congrArg some (by kernel_rfl))
 f195:=Tryd.func37.trans (congrArg some (by kernel_rfl))
 f197:=Tryd.func54.trans (congrArg some (by kernel_rfl))
 f217:=Tryd.func55.trans (congrArg some (by kernel_rfl))
 f218:=Tryd.func38.trans (congrArg some (by kernel_rfl))
 f219:=Tryd.func46.trans (congrArg some (by kernel_rfl))
 f221:=Tryd.func35.trans (congrArg some (by kernel_rfl))
 f224:=Tryd.func57.trans (congrArg some (by kernel_rfl))
 f225:=Tryd.func56.trans (congrArg some (by kernel_rfl))
 f260:=Tryd.func64.trans (congrArg some (by kernel_rfl))
 f266:=Tryd.func65.trans (congrArg some (by kernel_rfl))
 f267:=Tryd.func58.trans (congrArg some (by kernel_rfl))
 f268:=Tryd.func45.trans (congrArg some (by kernel_rfl))
 f314:=Tryd.func66.trans (congrArg some (by kernel_rfl))
 t0:=Tryd.underlying0
 a0:=Tryd.isAgg0
 z0:=Tryd.sizeOf0
 v0:=Tryd.zeroValue0
 t3:=Tryd.underlying3
 a3:=Tryd.isAgg3
 z3:=Tryd.sizeOf3
 v3:=Tryd.zeroValue3
 t4:=Tryd.underlying4
 a4:=Tryd.isAgg4
 z4:=Tryd.sizeOf4
 v4:=Tryd.zeroValue4
 t5:=Tryd.underlying5
 a5:=Tryd.isAgg5
 z5:=Tryd.sizeOf5
 v5:=Tryd.zeroValue5
 t9:=Tryd.underlying9
 a9:=Tryd.isAgg9
 z9:=Tryd.sizeOf9
 v9:=Tryd.zeroValue9
 t21:=Tryd.underlying21
 a21:=Tryd.isAgg21
 z21:=Tryd.sizeOf21
 v21:=Tryd.zeroValue21
 t31:=Tryd.underlying47
 a31:=Tryd.isAgg47
 z31:=Tryd.sizeOf47
 v31:=Tryd.zeroValue47
 t46:=Tryd.underlying95
 a46:=Tryd.isAgg95
 z46:=Tryd.sizeOf95
 v46:=Tryd.zeroValue95
 t51:=Tryd.underlying98
 a51:=Tryd.isAgg98
 z51:=Tryd.sizeOf98
 v51:=Tryd.zeroValue98
 t105:=Tryd.underlying92
 a105:=Tryd.isAgg92
 z105:=Tryd.sizeOf92
 v105:=Tryd.zeroValue92
 t119:=Tryd.underlying105
 a119:=Tryd.isAgg105
 z119:=Tryd.sizeOf105
 t138:=Tryd.underlying107
 a138:=Tryd.isAgg107
 z138:=Tryd.sizeOf107
 v138:=Tryd.zeroValue107
 t139:=Tryd.underlying108
 a139:=Tryd.isAgg108
 z139:=Tryd.sizeOf108
 v139:=Tryd.zeroValue108
 t146:=Tryd.underlying102
 a146:=Tryd.isAgg102
 z146:=Tryd.sizeOf102
 v146:=Tryd.zeroValue102
 g1:=by kernel_rfl
 g3:=by kernel_rfl
 g4:=by kernel_rfl }
open Go.RowKit Go.Lib in
theorem Tryd.strings_SplitN (s sep:ByteArray)(n:Nat)(m:Int)(w:World)(hs:s.size<4294967281)(hm:w.cell? ⟨0,0,none⟩=some (.int .i64 m))(h1:1<=sep.size)(hn:1<=n)(hn63:n<=9223372036854775807) :
  Calls Tryd.prog 22 #[.string s,.string sep,.int .i64 n] w fun e w' =>
   e=.returned (.slice (some ⟨w.heap.size,0,none⟩) (Lib.splitB sep 0 (min n (s.size+1)-1) s).length (min n (s.size+1)))/\w'=w.alloc (.cells (Lib.cellsOf (Lib.splitB sep 0 (min n (s.size+1)-1) s) (min n (s.size+1))) 9):=Any.strings_SplitN Tryd.lays147 (by kernel_rfl) s sep n m w hs hm h1 hn hn63
end Go.Proofs
namespace Go.Proofs.YtchahoiainbcaaaDoor
open Go.RowKit Kv
def deBruijn64:List Int:=[0,1,56,2,57,49,28,3,61,58,42,50,38,29,17,4,62,47,59,36,45,43,51,22,53,39,33,30,24,18,12,5,63,55,48,27,60,41,37,16,46,35,44,21,52,32,23,11,54,26,40,15,34,20,31,10,25,14,19,9,13,8,7,6]
structure Tabs (w:World):Prop where
 pow10:Lib.TabIs Tryd.prog w "internal/strconv.uint64pow10" .u64 Lib.pow10Tab
 bruijn:Lib.TabIs Tryd.prog w "math/bits.deBruijn64tab" .u8 deBruijn64
theorem Tabs.ext {w w':World}(h:Tabs w)(hx:Ext w w'):Tabs w' :=
 ⟨Lib.tabBelow_of_tabIs h.pow10 _ hx,Lib.tabBelow_of_tabIs h.bruijn _ hx⟩
def Ints (w:World) (v:Value) (l:List Int):Prop :=
 ∃ A c,v=.slice A l.length c/\l.length<=c/\c<=9223372036854775807/\(l≠[]->∃ b off,A=some ⟨b,off,none⟩/\b<w.heap.size/\∀ i x,l[i]?=some x->w.cell? ⟨b,off+i,none⟩=some (.int .i64 x))
theorem Ints.ext {w w':World}{v:Value}{l:List Int}(h:Ints w v l)(hx:Ext w w'):Ints w' v l:=by
 obtain⟨A,c,rfl,h1,h2,h3⟩:=h
 refine⟨A,c,rfl,h1,h2,fun hl=>?_⟩
 obtain⟨b,off,rfl,hb,hc⟩:=h3 hl
 exact⟨b,off,rfl,Nat.lt_of_lt_of_le hb (Ext.size hx),fun i x hi=>(Ext.cell hx (p:=⟨b,off+i,none⟩) hb).trans (hc i x hi)⟩
theorem Ints.nil (w:World):Ints w (.slice none 0 0) []:=⟨none,0,rfl,by simp,by omega,fun h=>absurd rfl h⟩
theorem Ints.at_ {w:World}{A:Option Addr}{n c:Nat}{l:List Int}(h:Ints w (.slice A n c) l){i:Nat}(hi:i<n) :
  ∃ b off,A=some ⟨b,off,none⟩/\b<w.heap.size/\w.cell? ⟨b,off+i,none⟩=some (.int .i64 (l.getD i 0)):=by
 obtain⟨A',c',he,h1,h2,h3⟩:=h
 injection he with e1 e2 e3
 subst e1 e2 e3
 have hl:l≠[]:=by rintro rfl;simp at hi
 obtain⟨b,off,rfl,hb,hc⟩:=h3 hl
 refine⟨b,off,rfl,hb,?_⟩
 have:l[i]?=some (l.getD i 0):=by simp [List.getD,List.getElem?_eq_getElem hi]
 exact hc i _ this
theorem Ints.slice {w:World}{v:Value}{l:List Int}(h:Ints w v l):∃ A c,v=.slice A l.length c/\l.length<=c/\c<=9223372036854775807:=by
 obtain⟨A,c,rfl,h1,h2,_⟩:=h
 exact⟨A,c,rfl,h1,h2⟩
def IntRow (w:World) (base:Nat) (v:Value) (l:List Int):Prop:=w.ownsRow base 3 1 v l.length (l.map (Value.int .i64))
theorem IntRow.nil (w:World)(base:Nat):IntRow w base (.slice none 0 0) []:=World.ownsRow_nil _ _ _ _
theorem IntRow.ints {w:World}{base:Nat}{v:Value}{l:List Int}(h:IntRow w base v l):Ints w v l:=by
 have h':=h
 obtain⟨hl,h2⟩:=h
 rcases h2 with⟨rfl,h0⟩ | ⟨g,cap,cur,rfl,hg,hh,hn,hm,hs,ht⟩
 · obtain rfl:l=[]:=List.eq_nil_of_length_eq_zero h0
   exact Ints.nil w
 · refine⟨_,_,rfl,hn,by unfold maxLen at hm;exact hm,fun _=>⟨g,0,rfl,?_,fun i x hi=>?_⟩⟩
   · rcases Nat.lt_or_ge g w.heap.size with hlt | hge
     · exact hlt
     · rw [Array.getElem?_eq_none hge] at hh;cases hh
   · have hc:=World.ownsRow.cells h' (g:=g) rfl i (.int .i64 x) (by rw [List.getElem?_map,hi];rfl)
     rw [Addr.add_lit] at hc
     exact hc
theorem Ext.appended {w wr w':World}{v:Value}{l:List Int}{o:Obj}(h:Ext w wr)(hown:IntRow wr w.heap.size v l)(hg:(wr.alloc o).grownBy w' v.ownBlock):Ext w w':=by
 refine Below.grown (Below.alloc h h.size o) hg (by have:=h.size;simp;omega) fun k hk=>?_
 obtain⟨_,h2⟩:=hown
 rcases h2 with⟨rfl,_⟩ | ⟨g,cap,cur,rfl,hgb,_⟩
 · simp [Value.ownBlock] at hk
 · simp [Value.ownBlock] at hk
   omega
theorem cell_of_heap {w:World}{b:Nat}{cs:Array Value}{t:TypeId}{fz:Nat × Nat}(h:w.heap[b]?=some (.cells cs t fz))(i:Nat):w.cell? ⟨b,i,none⟩=cs[i]?:=by
 simp [World.cell?,h]
theorem heap_setCell {w:World}{b i:Nat}{cs:Array Value}{t:TypeId}{fz:Nat × Nat}(h:w.heap[b]?=some (.cells cs t fz))(v:Value) :
  (w.setCell ⟨b,i,none⟩ v).heap[b]?=some (.cells (cs.setIfInBounds i v) t fz):=by
 simp [World.setCell,Array.getElem?_modify,h]
theorem heap_setCell_ne (w:World){b i k:Nat}(v:Value)(h:k≠b):(w.setCell ⟨b,i,none⟩ v).heap[k]?=w.heap[k]?:=Below.heap_setCell _ _ _ _ h
theorem frozen_of_heap {w:World}{b:Nat}{cs:Array Value}{t:TypeId}(h:w.heap[b]?=some (.cells cs t (0,0)))(i:Nat):w.frozen? ⟨b,i,none⟩=false:=by
 simp [World.frozen?,h]
def Blk (w:World) (b:Nat) (o:Obj):Prop:=w.heap[b]?=some o
theorem Blk.lt {w:World}{b:Nat}{o:Obj}(h:Blk w b o):b<w.heap.size:=(Array.getElem?_eq_some_iff.1 h).1
theorem Blk.new (w:World)(o:Obj):Blk (w.alloc o) w.heap.size o:=heap_alloc_new w o
theorem Blk.ext {w w':World}{b:Nat}{o:Obj}(h:Blk w b o)(hx:Ext w w'):Blk w' b o:=(Below.block hx b (Array.getElem?_eq_some_iff.1 h).1).trans h
theorem Blk.alloc {w:World}{b:Nat}{o:Obj}(h:Blk w b o)(o':Obj):Blk (w.alloc o') b o:=h.ext ((Ext.refl w).alloc o')
theorem Blk.drew {w:World}{b:Nat}{o:Obj}(h:Blk w b o):Blk w.drew b o:=h
theorem Blk.cells {w:World}{b:Nat}{cs:Array Value}{t:TypeId}{fz:Nat × Nat}(h:Blk w b (.cells cs t fz))(i:Nat):w.cell? ⟨b,i,none⟩=cs[i]?:=cell_of_heap h i
theorem row_ext {w w':World}{base e size n:Nat}{v:Value}{xs:List Value}(h:w.ownsRow base e size v n xs)(hx:Ext w w'):w'.ownsRow base e size v n xs :=
 h.kept (row:=none) ⟨hx.os,hx.tape,hx.output,hx.size,fun k hk _=>hx.block k hk⟩ (by cases v.ownBlock <;> simp)
def rowOf (l:List Int):List Value:=l.map (Value.int .i64)
theorem own_ge {B k:Nat}{w:World}{v:Value}{xs:List Value}(h:w.ownsRow B 3 1 v k xs){b:Nat}(hb:v.ownBlock=some b):B<=b/\b<w.heap.size:=by
 rcases h.2 with⟨rfl,_⟩ | ⟨g,cap,cur,rfl,h1,h2,_⟩
 · simp [Value.ownBlock] at hb
 · simp only [Value.ownBlock,Option.some.injEq] at hb
   subst hb
   exact⟨h1,(Array.getElem?_eq_some_iff.1 h2).1⟩
def Vals (w:World) (A:Option Addr) (vals:List Value):Prop:=vals≠[]->∃ b,A=some ⟨b,0,none⟩/\b<w.heap.size/\∀ i u,vals[i]?=some u->w.cell? ⟨b,i,none⟩=some u
theorem Vals.ext {w w':World}{A:Option Addr}{vals:List Value}(h:Vals w A vals)(hx:Ext w w'):Vals w' A vals:=by
 intro hne
 obtain⟨b,rfl,hb,hc⟩:=h hne
 exact⟨b,rfl,Nat.lt_of_lt_of_le hb hx.size,fun i u hu=>(hx.cell (p:=⟨b,i,none⟩) hb).trans (hc i u hu)⟩
theorem vals_row {w:World}{B e size n:Nat}{v:Value}{xs:List Value}(h:w.ownsRow B e size v n xs):∃ A c,v=.slice A n c/\n<=c/\c<=9223372036854775807/\Vals w A xs:=by
 have h':=h
 obtain⟨hl,h2⟩:=h
 rcases h2 with⟨rfl,h0⟩ | ⟨g,cap,cur,rfl,hg,hh,hn,hm,hs,ht⟩
 · subst h0
   refine⟨none,0,rfl,Nat.le_refl _,by omega,fun hne=>absurd ?_ hne⟩
   simpa using hl
 · refine⟨_,_,rfl,hn,by unfold maxLen at hm;exact hm,fun _=>⟨g,rfl,(Array.getElem?_eq_some_iff.1 hh).1,fun i u hi=>?_⟩⟩
   have hc:=World.ownsRow.cells h' (g:=g) rfl i u hi
   rw [Addr.add_lit,Nat.zero_add] at hc
   exact hc
structure HRows (B:Nat) (bs:List Nat) (w:World) (hv:Int->Value) (hd:Int->List Int):Prop where
 ge:B<=w.heap.size
 row:∀ y,w.ownsRow B 3 1 (hv y) (hd y).length (rowOf (hd y))
 off:∀ y b,(hv y).ownBlock=some b->b ∉ bs
 apart:∀ x y b,x≠y->(hv x).ownBlock=some b->(hv y).ownBlock≠some b
section
variable {B:Nat} {bs:List Nat} {w W:World} {hv:Int->Value} {hd:Int->List Int}
theorem HRows.ints (h:HRows B bs w hv hd)(y:Int):∃ A c,hv y=.slice A (hd y).length c/\Ints w (.slice A (hd y).length c) (hd y)/\w.ownsRow B 3 1 (.slice A (hd y).length c) (hd y).length (rowOf (hd y)):=by
 have h2:=h.row y
 have h3:=IntRow.ints (show IntRow w B (hv y) (hd y) from h2)
 obtain⟨A,c,e,_⟩:=h3.slice
 rw [e] at h3 h2
 exact⟨A,c,e,h3,h2⟩
theorem HRows.kept (h:HRows B bs w hv hd){row:Option Nat}(hg:w.grownBy W row)(hr:∀ b,row=some b->b∈bs):HRows B bs W hv hd :=
 { h with
  ge:=Nat.le_trans h.ge hg.size
  row:=fun y=>(h.row y).kept hg (by
   cases e:(hv y).ownBlock with
   | none=>exact .inl rfl
   | some b=>exact .inr fun e2=>h.off y b e (hr b e2.symm)) }
theorem HRows.ext (h:HRows B bs w hv hd)(hx:Ext w W):HRows B bs W hv hd :=
 { h with
  ge:=Nat.le_trans h.ge hx.size
  row:=fun y=>row_ext (h.row y) hx }
theorem HRows.more (h:HRows B bs w hv hd){b:Nat}(hb:w.heap.size<=b):HRows B (b :: bs) w hv hd :=
 { h with
  off:=fun y k h2 hk=>by
   have:=own_ge (h.row y) h2
   rcases List.mem_cons.1 hk with rfl | hk
   · omega
   · exact h.off y k h2 hk }
theorem HRows.set (h:HRows B bs w hv hd)(x:Int){v:Value}{l:List Int}(hown:W.ownsRow B 3 1 v l.length (rowOf l))(hg:w.grownBy W (hv x).ownBlock)
  (hat:∀ g,v.ownBlock=some g->(hv x).ownBlock=some g∨w.heap.size<=g)(hbs:∀ b∈bs,b<w.heap.size) :
  HRows B bs W (fun y=>if y=x then v else hv y) (fun y=>if y=x then l else hd y):=by
 have other:∀ y b,y≠x->(hv y).ownBlock=some b->v.ownBlock≠some b:=fun y b hy h1 h2=>by
  rcases hat b h2 with e | e
  · exact h.apart y x b hy h1 e
  · have:=(own_ge (h.row y) h1).2
    omega
 refine⟨Nat.le_trans h.ge hg.size,fun y=>?_,fun y b h1 hb=>?_,fun y z b hne h1 h2=>?_⟩
 · by_cases e:y=x
   · rw [if_pos e,if_pos e]
     exact hown
   · rw [if_neg e,if_neg e]
     refine (h.row y).kept hg ?_
     cases hu:(hv y).ownBlock with
     | none=>exact .inl rfl
     | some b=>exact .inr fun e2=>h.apart y x b e hu e2.symm
 · by_cases e:y=x
   · rw [if_pos e] at h1
     rcases hat b h1 with e2 | e2
     · exact h.off x b e2 hb
     · have:=hbs b hb
       omega
   · rw [if_neg e] at h1
     exact h.off y b h1 hb
 · by_cases e:y=x
   · rw [if_pos e] at h1
     rw [if_neg (fun e2=>hne (e.trans e2.symm))] at h2
     exact other z b (fun e2=>hne (e.trans e2.symm)) h2 h1
   · rw [if_neg e] at h1
     by_cases e2:z=x
     · rw [if_pos e2] at h2
       exact other y b e h1 h2
     · rw [if_neg e2] at h2
       exact h.apart y z b hne h1 h2
end
def encE (e:Ev):Value:=.agg #[.int .i64 e.at_,.int .i64 e.kind,.int .i64 e.thread,.int .i64 e.call,.int .i64 e.val,.int .i64 e.err,.int .i64 e.rv]
theorem eqIn_reply (a b a' b':Int)(w:World):(Op.equalIn 10000 24 (.agg #[.int .i64 a,.int .i64 b]) (.agg #[.int .i64 a',.int .i64 b'])).run Tryd.prog w=.ok (decide (a=a'/\b=b')) w:=by
 rw [run_equalIn_struct w 9999 24 _ _ (by kernel_rfl) (by kernel_rfl)]
 have hu:Tryd.prog.underlying 3=some (.int .i64):=Tryd.underlying3
 have hu2:Tryd.prog.underlying 22=some (.int .i64):=Tryd.underlying22
 simp only [Program.fieldsOf,Tryd.underlying24,Op.eqFields]
 simp [go_sem,run_equalIn_int,hu,hu2]
 by_cases h0:a=a' <;> by_cases h1:b=b' <;> simp [h0,h1]
@[go_sem] theorem eql_reply (a b a' b':Int) (w:World):(binOp .eql 24 (.agg #[.int .i64 a,.int .i64 b]) (.agg #[.int .i64 a',.int .i64 b'])).run Tryd.prog w=.ok (.bool (a==a'&&b==b')) w:=by
 rw [run_eql_struct,eqIn_reply,show decide (a=a'/\b=b')=(a==a'&&b==b') from by by_cases h0:a=a' <;> by_cases h1:b=b' <;> simp [h0,h1]];rfl
@[go_sem] theorem build_reply0 (w:World):(Instr.build 24 #[]).run Tryd.prog w=.ok (.agg #[.int .i64 0,.int .i64 0]) w:=run_build w 24 _ _ (by kernel_rfl)
theorem within_tp (n lo hi:Int)(w:World):Calls Tryd.prog 20 #[.int .i64 n,.int .i64 lo,.int .i64 hi] w fun e w'=>e=.returned (.bool (wi n lo hi))/\w=w':=by
 unfold wi
 by_cases h1:lo<=n
 · have d1:decide (lo<=n)=true:=decide_eq_true h1
   rw [d1,Bool.true_and]
   go_enter Tryd.func20,Tryd.ntmps20
   go_wp2_with fail
   go_ret
   exact⟨rfl,rfl⟩
 · have d1:decide (lo<=n)=false:=decide_eq_false h1
   rw [d1,Bool.false_and]
   go_enter Tryd.func20,Tryd.ntmps20
   go_wp2_with fail
   go_ret
   exact⟨rfl,rfl⟩
theorem freply_p (x y:Int)(w:World):Calls Tryd.prog 21 #[.agg #[.int .i64 x,.int .i64 y]] w fun e w'=>e=.returned (.bool (fineR x y))/\Ext w w':=by
 have h1:=fun w=>within_tp x 0 12 w
 have h2:=fun w=>within_tp y 0 1099511627776 w
 unfold fineR
 have hX:=Ext.refl w
 have b1:=Blk.new w (.cells #[.int .i64 x,.int .i64 y] 24)
 replace hX:=hX.alloc (.cells #[.int .i64 x,.int .i64 y] 24)
 have c_b1:=b1.cells
 cases c1:wi x 0 12
 · rw [c1] at h1
   rw [Bool.false_and,Bool.false_and]
   go_enter Tryd.func21,Tryd.ntmps21
   go_wp2_with fail
   refine (h1 _).mono ?_
   rintro e w' ⟨rfl,rfl⟩
   go_wp2_with fail
   go_ret
   exact⟨rfl,hX⟩
 rw [c1] at h1
 rw [Bool.true_and]
 cases c2:wi y 0 1099511627776
 · rw [c2] at h2
   rw [Bool.false_and]
   go_enter Tryd.func21,Tryd.ntmps21
   go_wp2_with fail
   refine (h1 _).mono ?_
   rintro e w' ⟨rfl,rfl⟩
   go_wp2_with fail
   refine (h2 _).mono ?_
   rintro e w' ⟨rfl,rfl⟩
   go_wp2_with fail
   go_ret
   exact⟨rfl,hX⟩
 rw [c2] at h2
 rw [Bool.true_and]
 clear c1 c2
 by_cases hx:x=0
 · subst hx
   simp only [beq_self_eq_true,Bool.true_or]
   go_enter Tryd.func21,Tryd.ntmps21
   go_wp2_with fail
   refine (h1 _).mono ?_
   rintro e w' ⟨rfl,rfl⟩
   go_wp2_with fail
   refine (h2 _).mono ?_
   rintro e w' ⟨rfl,rfl⟩
   go_wp2_with fail
   go_ret
   exact⟨rfl,hX⟩
 · have d1:(x==0)=false:=by rw [beq_eq_false_iff_ne];exact hx
   rw [d1,Bool.false_or]
   clear hx
   go_enter Tryd.func21,Tryd.ntmps21
   go_wp2_with fail
   refine (h1 _).mono ?_
   rintro e w' ⟨rfl,rfl⟩
   go_wp2_with fail
   refine (h2 _).mono ?_
   rintro e w' ⟨rfl,rfl⟩
   go_wp2_with fail
   go_ret
   exact⟨rfl,hX⟩
set_option maxRecDepth 100000 in
set_option maxHeartbeats 2000000 in
theorem fine45_p (e:Ev)(w:World):Calls Tryd.prog 6 #[encE e] w fun r w'=>r=.returned (.bool (fineE e))/\Ext w w':=by
 obtain⟨a,k,t,c,v,x,y⟩:=e
 unfold fineE encE
 simp only
 have h1:=fun w=>within_tp k 1 4 w
 have h2:=fun w=>within_tp a 0 1048576 w
 have h3:=fun w=>within_tp t 0 1048576 w
 have h4:=fun w=>within_tp c 0 1048576 w
 have hX:=Ext.refl w
 have b1:=Blk.new w (.cells #[.int .i64 a,.int .i64 k,.int .i64 t,.int .i64 c,.int .i64 v,.int .i64 x,.int .i64 y] 26)
 replace hX:=hX.alloc (.cells #[.int .i64 a,.int .i64 k,.int .i64 t,.int .i64 c,.int .i64 v,.int .i64 x,.int .i64 y] 26)
 have c_b1:=b1.cells
 cases c1:wi k 1 4
 · rw [c1] at h1
   simp only [Bool.false_and,Bool.true_and]
   go_enter Tryd.func6,Tryd.ntmps6
   go_wp2_with fail
   refine (h1 _).mono ?_
   rintro e w' ⟨rfl,rfl⟩
   go_wp2_with fail
   go_ret
   exact⟨rfl,hX⟩
 rw [c1] at h1
 cases c2:wi a 0 1048576
 · rw [c2] at h2
   simp only [Bool.false_and,Bool.true_and]
   go_enter Tryd.func6,Tryd.ntmps6
   go_wp2_with fail
   refine (h1 _).mono ?_
   rintro e w' ⟨rfl,rfl⟩
   go_wp2_with fail
   refine (h2 _).mono ?_
   rintro e w' ⟨rfl,rfl⟩
   go_wp2_with fail
   go_ret
   exact⟨rfl,hX⟩
 rw [c2] at h2
 cases c3:wi t 0 1048576
 · rw [c3] at h3
   simp only [Bool.false_and,Bool.true_and]
   go_enter Tryd.func6,Tryd.ntmps6
   go_wp2_with fail
   refine (h1 _).mono ?_
   rintro e w' ⟨rfl,rfl⟩
   go_wp2_with fail
   refine (h2 _).mono ?_
   rintro e w' ⟨rfl,rfl⟩
   go_wp2_with fail
   refine (h3 _).mono ?_
   rintro e w' ⟨rfl,rfl⟩
   go_wp2_with fail
   go_ret
   exact⟨rfl,hX⟩
 rw [c3] at h3
 cases c4:wi c 0 1048576
 · rw [c4] at h4
   simp only [Bool.false_and,Bool.true_and]
   go_enter Tryd.func6,Tryd.ntmps6
   go_wp2_with fail
   refine (h1 _).mono ?_
   rintro e w' ⟨rfl,rfl⟩
   go_wp2_with fail
   refine (h2 _).mono ?_
   rintro e w' ⟨rfl,rfl⟩
   go_wp2_with fail
   refine (h3 _).mono ?_
   rintro e w' ⟨rfl,rfl⟩
   go_wp2_with fail
   refine (h4 _).mono ?_
   rintro e w' ⟨rfl,rfl⟩
   go_wp2_with fail
   go_ret
   exact⟨rfl,hX⟩
 rw [c4] at h4
 rw [wi_iff] at c1
 simp only [Bool.true_and]
 clear c2 c3 c4
 have hk:k=1∨k=2∨k=3∨k=4:=by omega
 clear c1
 rcases hk with rfl | rfl | rfl | rfl
 · simp only [Int.reduceEq,if_true,if_false]
   by_cases hv:v=0
   · subst hv
     simp only [beq_self_eq_true,Bool.true_and]
     by_cases hx0:x=0
     · subst hx0
       by_cases hy0:y=0
       · subst hy0
         simp only [beq_self_eq_true,Bool.and_self]
         go_enter Tryd.func6,Tryd.ntmps6
         go_wp2_with fail
         refine (h1 _).mono ?_
         rintro e w' ⟨rfl,rfl⟩
         go_wp2_with fail
         refine (h2 _).mono ?_
         rintro e w' ⟨rfl,rfl⟩
         go_wp2_with fail
         refine (h3 _).mono ?_
         rintro e w' ⟨rfl,rfl⟩
         go_wp2_with fail
         refine (h4 _).mono ?_
         rintro e w' ⟨rfl,rfl⟩
         go_wp2_with fail
         go_ret
         exact⟨rfl,hX⟩
       · have d2:(y==0)=false:=by rw [beq_eq_false_iff_ne];exact hy0
         rw [d2,Bool.and_false]
         clear hy0
         go_enter Tryd.func6,Tryd.ntmps6
         go_wp2_with fail
         refine (h1 _).mono ?_
         rintro e w' ⟨rfl,rfl⟩
         go_wp2_with fail
         refine (h2 _).mono ?_
         rintro e w' ⟨rfl,rfl⟩
         go_wp2_with fail
         refine (h3 _).mono ?_
         rintro e w' ⟨rfl,rfl⟩
         go_wp2_with fail
         refine (h4 _).mono ?_
         rintro e w' ⟨rfl,rfl⟩
         go_wp2_with fail
         go_ret
         exact⟨rfl,hX⟩
     · have d2:(x==0)=false:=by rw [beq_eq_false_iff_ne];exact hx0
       rw [d2,Bool.false_and]
       clear hx0
       go_enter Tryd.func6,Tryd.ntmps6
       go_wp2_with fail
       refine (h1 _).mono ?_
       rintro e w' ⟨rfl,rfl⟩
       go_wp2_with fail
       refine (h2 _).mono ?_
       rintro e w' ⟨rfl,rfl⟩
       go_wp2_with fail
       refine (h3 _).mono ?_
       rintro e w' ⟨rfl,rfl⟩
       go_wp2_with fail
       refine (h4 _).mono ?_
       rintro e w' ⟨rfl,rfl⟩
       go_wp2_with fail
       go_ret
       exact⟨rfl,hX⟩
   · have d1:(v==0)=false:=by rw [beq_eq_false_iff_ne];exact hv
     rw [d1,Bool.false_and]
     clear hv
     go_enter Tryd.func6,Tryd.ntmps6
     go_wp2_with fail
     refine (h1 _).mono ?_
     rintro e w' ⟨rfl,rfl⟩
     go_wp2_with fail
     refine (h2 _).mono ?_
     rintro e w' ⟨rfl,rfl⟩
     go_wp2_with fail
     refine (h3 _).mono ?_
     rintro e w' ⟨rfl,rfl⟩
     go_wp2_with fail
     refine (h4 _).mono ?_
     rintro e w' ⟨rfl,rfl⟩
     go_wp2_with fail
     go_ret
     exact⟨rfl,hX⟩
 · simp only [Int.reduceEq,if_true,if_false]
   by_cases hv:v=0
   · subst hv
     simp only [beq_self_eq_true,Bool.true_and]
     go_enter Tryd.func6,Tryd.ntmps6
     go_wp2_with fail
     refine (h1 _).mono ?_
     rintro e w' ⟨rfl,rfl⟩
     go_wp2_with fail
     refine (h2 _).mono ?_
     rintro e w' ⟨rfl,rfl⟩
     go_wp2_with fail
     refine (h3 _).mono ?_
     rintro e w' ⟨rfl,rfl⟩
     go_wp2_with fail
     refine (h4 _).mono ?_
     rintro e w' ⟨rfl,rfl⟩
     go_wp2_with fail
     refine (freply_p x y _).mono ?_
     rintro e w2 ⟨rfl,hx⟩
     clear c_b1
     replace b1:=b1.ext hx
     have c_b1:=b1.cells
     replace hX:=hX.trans hx
     clear hx
     go_wp2_with fail
     go_ret
     exact⟨rfl,hX⟩
   · have d1:(v==0)=false:=by rw [beq_eq_false_iff_ne];exact hv
     rw [d1,Bool.false_and]
     clear hv
     go_enter Tryd.func6,Tryd.ntmps6
     go_wp2_with fail
     refine (h1 _).mono ?_
     rintro e w' ⟨rfl,rfl⟩
     go_wp2_with fail
     refine (h2 _).mono ?_
     rintro e w' ⟨rfl,rfl⟩
     go_wp2_with fail
     refine (h3 _).mono ?_
     rintro e w' ⟨rfl,rfl⟩
     go_wp2_with fail
     refine (h4 _).mono ?_
     rintro e w' ⟨rfl,rfl⟩
     go_wp2_with fail
     go_ret
     exact⟨rfl,hX⟩
 · simp only [if_true]
   have h5:=fun w=>within_tp v 1 5 w
   cases c5:wi v 1 5
   · rw [c5] at h5
     rw [Bool.false_and]
     clear c5
     go_enter Tryd.func6,Tryd.ntmps6
     go_wp2_with fail
     refine (h1 _).mono ?_
     rintro e w' ⟨rfl,rfl⟩
     go_wp2_with fail
     refine (h2 _).mono ?_
     rintro e w' ⟨rfl,rfl⟩
     go_wp2_with fail
     refine (h3 _).mono ?_
     rintro e w' ⟨rfl,rfl⟩
     go_wp2_with fail
     refine (h4 _).mono ?_
     rintro e w' ⟨rfl,rfl⟩
     go_wp2_with fail
     refine (h5 _).mono ?_
     rintro e w' ⟨rfl,rfl⟩
     go_wp2_with fail
     go_ret
     exact⟨rfl,hX⟩
   · rw [c5] at h5
     rw [Bool.true_and]
     clear c5
     by_cases hx0:x=0
     · subst hx0
       by_cases hy0:y=0
       · subst hy0
         simp only [beq_self_eq_true,Bool.and_self]
         go_enter Tryd.func6,Tryd.ntmps6
         go_wp2_with fail
         refine (h1 _).mono ?_
         rintro e w' ⟨rfl,rfl⟩
         go_wp2_with fail
         refine (h2 _).mono ?_
         rintro e w' ⟨rfl,rfl⟩
         go_wp2_with fail
         refine (h3 _).mono ?_
         rintro e w' ⟨rfl,rfl⟩
         go_wp2_with fail
         refine (h4 _).mono ?_
         rintro e w' ⟨rfl,rfl⟩
         go_wp2_with fail
         refine (h5 _).mono ?_
         rintro e w' ⟨rfl,rfl⟩
         go_wp2_with fail
         go_ret
         exact⟨rfl,hX⟩
       · have d2:(y==0)=false:=by rw [beq_eq_false_iff_ne];exact hy0
         rw [d2,Bool.and_false]
         clear hy0
         go_enter Tryd.func6,Tryd.ntmps6
         go_wp2_with fail
         refine (h1 _).mono ?_
         rintro e w' ⟨rfl,rfl⟩
         go_wp2_with fail
         refine (h2 _).mono ?_
         rintro e w' ⟨rfl,rfl⟩
         go_wp2_with fail
         refine (h3 _).mono ?_
         rintro e w' ⟨rfl,rfl⟩
         go_wp2_with fail
         refine (h4 _).mono ?_
         rintro e w' ⟨rfl,rfl⟩
         go_wp2_with fail
         refine (h5 _).mono ?_
         rintro e w' ⟨rfl,rfl⟩
         go_wp2_with fail
         go_ret
         exact⟨rfl,hX⟩
     · have d2:(x==0)=false:=by rw [beq_eq_false_iff_ne];exact hx0
       rw [d2,Bool.false_and]
       clear hx0
       go_enter Tryd.func6,Tryd.ntmps6
       go_wp2_with fail
       refine (h1 _).mono ?_
       rintro e w' ⟨rfl,rfl⟩
       go_wp2_with fail
       refine (h2 _).mono ?_
       rintro e w' ⟨rfl,rfl⟩
       go_wp2_with fail
       refine (h3 _).mono ?_
       rintro e w' ⟨rfl,rfl⟩
       go_wp2_with fail
       refine (h4 _).mono ?_
       rintro e w' ⟨rfl,rfl⟩
       go_wp2_with fail
       refine (h5 _).mono ?_
       rintro e w' ⟨rfl,rfl⟩
       go_wp2_with fail
       go_ret
       exact⟨rfl,hX⟩
 · simp only [Int.reduceEq,if_true,if_false]
   by_cases hv:v=0
   · subst hv
     simp only [beq_self_eq_true,Bool.true_and]
     by_cases hx0:x=0
     · subst hx0
       by_cases hy0:y=0
       · subst hy0
         simp only [beq_self_eq_true,Bool.and_self]
         go_enter Tryd.func6,Tryd.ntmps6
         go_wp2_with fail
         refine (h1 _).mono ?_
         rintro e w' ⟨rfl,rfl⟩
         go_wp2_with fail
         refine (h2 _).mono ?_
         rintro e w' ⟨rfl,rfl⟩
         go_wp2_with fail
         refine (h3 _).mono ?_
         rintro e w' ⟨rfl,rfl⟩
         go_wp2_with fail
         refine (h4 _).mono ?_
         rintro e w' ⟨rfl,rfl⟩
         go_wp2_with fail
         go_ret
         exact⟨rfl,hX⟩
       · have d2:(y==0)=false:=by rw [beq_eq_false_iff_ne];exact hy0
         rw [d2,Bool.and_false]
         clear hy0
         go_enter Tryd.func6,Tryd.ntmps6
         go_wp2_with fail
         refine (h1 _).mono ?_
         rintro e w' ⟨rfl,rfl⟩
         go_wp2_with fail
         refine (h2 _).mono ?_
         rintro e w' ⟨rfl,rfl⟩
         go_wp2_with fail
         refine (h3 _).mono ?_
         rintro e w' ⟨rfl,rfl⟩
         go_wp2_with fail
         refine (h4 _).mono ?_
         rintro e w' ⟨rfl,rfl⟩
         go_wp2_with fail
         go_ret
         exact⟨rfl,hX⟩
     · have d2:(x==0)=false:=by rw [beq_eq_false_iff_ne];exact hx0
       rw [d2,Bool.false_and]
       clear hx0
       go_enter Tryd.func6,Tryd.ntmps6
       go_wp2_with fail
       refine (h1 _).mono ?_
       rintro e w' ⟨rfl,rfl⟩
       go_wp2_with fail
       refine (h2 _).mono ?_
       rintro e w' ⟨rfl,rfl⟩
       go_wp2_with fail
       refine (h3 _).mono ?_
       rintro e w' ⟨rfl,rfl⟩
       go_wp2_with fail
       refine (h4 _).mono ?_
       rintro e w' ⟨rfl,rfl⟩
       go_wp2_with fail
       go_ret
       exact⟨rfl,hX⟩
   · have d1:(v==0)=false:=by rw [beq_eq_false_iff_ne];exact hv
     rw [d1,Bool.false_and]
     clear hv
     go_enter Tryd.func6,Tryd.ntmps6
     go_wp2_with fail
     refine (h1 _).mono ?_
     rintro e w' ⟨rfl,rfl⟩
     go_wp2_with fail
     refine (h2 _).mono ?_
     rintro e w' ⟨rfl,rfl⟩
     go_wp2_with fail
     refine (h3 _).mono ?_
     rintro e w' ⟨rfl,rfl⟩
     go_wp2_with fail
     refine (h4 _).mono ?_
     rintro e w' ⟨rfl,rfl⟩
     go_wp2_with fail
     go_ret
     exact⟨rfl,hX⟩
theorem kwords_p (w:World):Calls Tryd.prog 16 #[] w fun e w'=>e=.returned (.agg #[.string ⟨#[99,97,108,108]⟩,.string ⟨#[114,101,116,117,114,110]⟩,.string ⟨#[110,111,116,101]⟩,.string ⟨#[104,97,108,116]⟩])/\Ext w w':=by
 go_enter Tryd.func16,Tryd.ntmps16
 go_wp2_with fail
 refine bodyPost_ret (v:=.agg #[.string ⟨#[99,97,108,108]⟩,.string ⟨#[114,101,116,117,114,110]⟩,.string ⟨#[110,111,116,101]⟩,.string ⟨#[104,97,108,116]⟩]) (by simp [results,Tryd.results16,go_sem]) rfl ?_
 exact⟨rfl,(Ext.refl _).alloc _⟩
theorem nwords_p (w:World):Calls Tryd.prog 17 #[] w fun e w'=>e=.returned (.agg #[.string ⟨#[100,111,111,114]⟩,.string ⟨#[98,101,104,105,110,100]⟩,.string ⟨#[105,110]⟩,.string ⟨#[108,101,102,116]⟩,.string ⟨#[111,117,116]⟩])/\Ext w w':=by
 go_enter Tryd.func17,Tryd.ntmps17
 go_wp2_with fail
 refine bodyPost_ret (v:=.agg #[.string ⟨#[100,111,111,114]⟩,.string ⟨#[98,101,104,105,110,100]⟩,.string ⟨#[105,110]⟩,.string ⟨#[108,101,102,116]⟩,.string ⟨#[111,117,116]⟩]) (by simp [results,Tryd.results17,go_sem]) rfl ?_
 exact⟨rfl,(Ext.refl _).alloc _⟩
def WordsAt (w:World) (b o:Nat) (ss:List Bs):Prop:=b<w.heap.size/\∀ (j:Nat) x,ss[j]?=some x->w.cell? ⟨b,o+j,none⟩=some (.string ⟨x.toArray⟩)
theorem WordsAt.ext {w w':World}{b o:Nat}{ss:List Bs}(h:WordsAt w b o ss)(hx:Ext w w'):WordsAt w' b o ss:=⟨Nat.lt_of_lt_of_le h.1 hx.size,fun j x hj=>(hx.cell (p:=⟨b,o+j,none⟩) h.1).trans (h.2 j x hj)⟩
set_option maxRecDepth 100000 in
theorem place_p (wd:Bs)(b c:Nat)(ss:List Bs)(w:World)(h:WordsAt w b 0 ss)(hn:ss.length<=1000)(hc:ss.length<=c) :
  Calls Tryd.prog 23 #[.string ⟨wd.toArray⟩,.slice (some ⟨b,0,none⟩) ss.length c] w fun e w'=>e=.returned (.int .i64 (placeF wd ss 0))/\w=w':=by
 go_enter Tryd.func23,Tryd.ntmps23
 go_wp2_with fail
 go_loopw [9] (fun z wr=>∃ j:Nat,z=.int .i64 j/\j<=ss.length/\w=wr/\placeF wd (ss.drop j) j=placeF wd ss 0) (fun z _=>ss.length-(intOf z).toNat)
 case atStart=>exact⟨0,rfl,by omega,rfl,rfl⟩
 case round =>
  obtain⟨j,rfl,hj,rfl,hp⟩:=hrel
  by_cases hlt:j<ss.length
  · have hat:ss[j]?=some ss[j]:=List.getElem?_eq_getElem hlt
    have hd:ss.drop j=ss[j] :: ss.drop (j+1):=List.drop_eq_getElem_cons hlt
    have hcell:=h.2 j _ hat
    rw [Nat.zero_add] at hcell
    rw [hd] at hp
    generalize ss[j]=x at *
    have hph:=Lib.hid hp
    clear hp hat hd
    by_cases hxw:x=wd
    · subst hxw
      have hres:placeF x (x :: ss.drop (j+1)) j=(j:Int)+1:=by unfold placeF;rw [if_pos rfl]
      rw [hres] at hph
      clear hres
      go_wp2_with fail
      go_ret
      exact⟨ret_int hph.out,rfl⟩
    · have dxw:(x==wd)=false:=by rw [beq_eq_false_iff_ne];exact hxw
      have hres:placeF wd (x :: ss.drop (j+1)) j=placeF wd (ss.drop (j+1)) ((j+1:Nat):Int):=by rw [placeF,if_neg hxw];rfl
      rw [hres] at hph
      clear hres hxw
      go_wp2_with fail
      refine⟨⟨j+1,by go_num,by omega,trivial,hph.out⟩,?_⟩
      simp [intOf];omega
  · obtain rfl:j=ss.length:=by omega
    rw [List.drop_length] at hp
    have hph:=Lib.hid hp
    clear hp
    go_wp2_with fail
    go_ret
    exact⟨ret_int hph.out,rfl⟩
@[go_sem] theorem bytes_at (l:Bs) (i:Nat) (h:i<(⟨l.toArray⟩:ByteArray).size):(⟨l.toArray⟩:ByteArray)[i]'h=l[i]'h:=rfl
theorem numF_at (wd:Bs)(j:Nat)(n:Int)(h:j<wd.length):numF (wd.drop j) n=if (wd[j]).toNat<48∨57<(wd[j]).toNat then none else numF (wd.drop (j+1)) (10*n+((wd[j]).toNat-48)):=by
 rw [List.drop_eq_getElem_cons h]
 rfl
set_option maxRecDepth 100000 in
set_option maxHeartbeats 2000000 in
theorem number_p (wd:Bs)(w:World):Calls Tryd.prog 36 #[.string ⟨wd.toArray⟩] w fun e w'=>e=.returned (.tuple #[.int .i64 ((numW wd).getD 0),.bool (numW wd).isSome])/\w=w':=by
 by_cases h0:wd=[]
 · subst h0
   go_enter Tryd.func36,Tryd.ntmps36
   go_wp2_with fail
   go_ret2
   exact⟨rfl,rfl⟩
 have d0:(wd==[])=false:=by rw [beq_eq_false_iff_ne];exact h0
 have hpos:0<wd.length:=by cases wd with | nil=>exact absurd rfl h0 | cons=>simp
 by_cases h1:13<wd.length
 · have e1:numW wd=none:=by unfold numW;rw [if_pos (.inr (.inl h1))]
   rw [e1]
   have d1:decide ((13:Int)<(wd.length:Int))=true:=by rw [decide_eq_true_eq];omega
   clear h1 e1 h0
   go_enter Tryd.func36,Tryd.ntmps36
   go_wp2_with fail
   go_ret2
   exact⟨rfl,rfl⟩
 have d1:decide ((13:Int)<(wd.length:Int))=false:=by rw [decide_eq_false_iff_not];omega
 have hh:wd.head?=some (wd[0]):=by rw [List.head?_eq_getElem?,List.getElem?_eq_getElem hpos]
 have hfin:(numW wd=none/\((wd[0].toNat:Int)==48)=true/\decide ((1:Int)<(wd.length:Int))=true)∨(numW wd=numF wd 0/\(((wd[0].toNat:Int)==48)=true/\decide ((1:Int)<(wd.length:Int))=false∨((wd[0].toNat:Int)==48)=false)):=by
  by_cases h2:wd[0].toNat=48
  · have d2:((wd[0].toNat:Int)==48)=true:=by rw [beq_iff_eq];omega
    have h48:wd[0]=48:=UInt8.toNat_inj.1 h2
    by_cases h3:1<wd.length
    · left
      refine⟨?_,d2,by rw [decide_eq_true_eq];omega⟩
      unfold numW
      rw [if_pos (.inr (.inr ⟨by rw [hh,h48],h3⟩))]
    · right
      refine⟨?_,.inl ⟨d2,by rw [decide_eq_false_iff_not];omega⟩⟩
      unfold numW
      rw [if_neg]
      rintro (e | e | ⟨_,e⟩)
      · exact h0 e
      · exact h1 e
      · exact h3 e
  · right
    refine⟨?_,.inr (by rw [beq_eq_false_iff_ne];omega)⟩
    unfold numW
    rw [if_neg]
    rintro (e | e | ⟨e,_⟩)
    · exact h0 e
    · exact h1 e
    · rw [hh] at e
      have:=Option.some.inj e
      exact h2 (by rw [this];rfl)
 rcases hfin with⟨e1,d2,d3⟩ | ⟨e1,hcase⟩
 · rw [e1]
   clear e1 h0 hh
   go_enter Tryd.func36,Tryd.ntmps36
   go_wp2_with fail
   go_ret2
   exact⟨rfl,rfl⟩
 have hlen:wd.length<=13:=by omega
 have e1h:=Lib.hid e1
 clear e1 hh h0 h1
 rcases hcase with⟨d2,d3⟩ | d2
 all_goals
  go_enter Tryd.func36,Tryd.ntmps36
  go_wp2_with fail
  go_loopw [4,25] (fun n i wr=>∃ (j M:Nat),i=.int .i64 j/\n=.int .i64 M/\j<=wd.length/\M<10 ^ j/\w=wr/\numF (wd.drop j) M=numW wd) (fun _ i _=>wd.length-(intOf i).toNat)
  case atStart=>exact⟨0,0,rfl,rfl,by omega,by simp,rfl,e1h.out.symm⟩
  case round =>
   obtain⟨j,M,rfl,rfl,hj,hM,rfl,hp⟩:=hrel
   by_cases hlt:j<wd.length
   · have hpw:10 ^ j<=10 ^ 12:=Nat.pow_le_pow_right (by omega) (by omega)
     have hM2:M<1000000000000:=Nat.lt_of_lt_of_le hM hpw
     have hpj:10 ^ (j+1)=10*10 ^ j:=by rw [Nat.pow_succ,Nat.mul_comm]
     rw [numF_at wd j M hlt] at hp
     have hx:=(wd[j]).toNat_lt
     generalize hxx:(wd[j]).toNat=x at *
     have hpjh:=Lib.hid hpj
     have hph:=Lib.hid hp
     have hMh:=Lib.hid hM
     clear hp hpj hM hpw d2
     by_cases c1:x<48
     · have f1:decide (x<48)=true:=decide_eq_true c1
       have f2:decide ((x:Int)<48)=true:=by rw [decide_eq_true_eq];omega
       have hq:=hph.out
       rw [if_pos (.inl c1)] at hq
       have hqh:=Lib.hid hq
       clear hq hph c1
       go_wp2_with fail
       go_ret2
       refine⟨?_,rfl⟩
       rw [<- hqh.out]
       rfl
     · have f1:decide (x<48)=false:=decide_eq_false c1
       have f2:decide ((x:Int)<48)=false:=by rw [decide_eq_false_iff_not];omega
       by_cases c2:57<x
       · have f3:decide (57<x)=true:=decide_eq_true c2
         have f4:decide (57<(x:Int))=true:=by rw [decide_eq_true_eq];omega
         have hq:=hph.out
         rw [if_pos (.inr c2)] at hq
         have hqh:=Lib.hid hq
         clear hq hph c1 c2
         go_wp2_with fail
         go_ret2
         refine⟨?_,rfl⟩
         rw [<- hqh.out]
         rfl
       · have f3:decide (57<x)=false:=decide_eq_false c2
         have f4:decide (57<(x:Int))=false:=by rw [decide_eq_false_iff_not];omega
         have hq:=hph.out
         rw [if_neg (by omega)] at hq
         have hqh:=Lib.hid hq
         clear hq hph
         go_wp2_with fail
         refine⟨⟨j+1,10*M+(x-48),by go_num,by go_num,by omega,by rw [hpjh.out];have:=hMh.out;omega,trivial,?_⟩,?_⟩
         · rw [<- hqh.out]
           congr 1
           omega
         · simp [intOf];omega
   · obtain rfl:j=wd.length:=by omega
     rw [List.drop_length] at hp
     have hqh:=Lib.hid (show some (M:Int)=numW wd from hp)
     clear hp d2
     go_wp2_with fail
     go_ret2
     refine⟨?_,rfl⟩
     rw [<- hqh.out]
     rfl
def numsRun (w:World):List Bs->List (Nat × Nat)->World × Bool
 | [],_=>(w,true)
 | s :: ss,fs=>match numW s,fs with
   | some n,f :: fs=>numsRun (w.setCell ⟨f.1,f.2,none⟩ (.int .i64 n)) ss fs
   | _,_=>(w,false)
theorem numsRun_none {w:World}{s:Bs}{ss:List Bs}{fs:List (Nat × Nat)}(h:numW s=none):numsRun w (s :: ss) fs=(w,false):=by
 unfold numsRun
 rw [h]
theorem numsRun_some {w:World}{s:Bs}{ss:List Bs}{f:Nat × Nat}{fs:List (Nat × Nat)}{n:Int}(h:numW s=some n):numsRun w (s :: ss) (f :: fs)=numsRun (w.setCell ⟨f.1,f.2,none⟩ (.int .i64 n)) ss fs:=by
 conv=>lhs;unfold numsRun
 rw [h]
def May (w:World) (f:Nat × Nat):Prop:=∃ cs t,f.2<cs.size/\w.heap[f.1]?=some (.cells cs t (0,0))
theorem May.set {w:World}{f g:Nat × Nat}(h:May w f)(v:Value):May (w.setCell ⟨g.1,g.2,none⟩ v) f:=by
 obtain⟨cs,t,h1,h2⟩:=h
 by_cases e:f.1=g.1
 · exact⟨cs.setIfInBounds g.2 v,t,by simpa using h1,by rw [e] at h2 ⊢;exact heap_setCell h2 v⟩
 · exact⟨cs,t,h1,(heap_setCell_ne w v e).trans h2⟩
theorem numbers_ne (A B:Option Addr)(n c m d:Nat)(w:World)(hne:n≠m):Calls Tryd.prog 24 #[.slice A n c,.slice B m d] w fun e w'=>e=.returned (.bool false)/\w=w':=by
 have d1:((n:Int) != (m:Int))=true:=by rw [bne_iff_ne];omega
 have d2:(n != m)=true:=by rw [bne_iff_ne];exact hne
 clear hne
 go_enter Tryd.func24,Tryd.ntmps24
 go_wp2_with fail
 go_ret
 exact⟨rfl,rfl⟩
set_option maxRecDepth 100000 in
set_option maxHeartbeats 2000000 in
theorem numbers_p (b0 o0 c bp d:Nat)(ss:List Bs)(fs:List (Nat × Nat))(w:World)(hl:ss.length=fs.length)(hn:ss.length<=100)(hc:ss.length<=c)(hd:fs.length<=d)(hw:WordsAt w b0 o0 ss)(hp:∀ (j:Nat) f,fs[j]?=some f->w.cell? ⟨bp,j,none⟩=some (.pointer (some ⟨f.1,f.2,none⟩)))
  (h1:∀ f∈fs,b0≠f.1)(h2:∀ f∈fs,bp≠f.1)(hm:∀ f∈fs,May w f)(ho:o0<=100) :
  Calls Tryd.prog 24 #[.slice (some ⟨b0,o0,none⟩) ss.length c,.slice (some ⟨bp,0,none⟩) fs.length d] w fun e w'=>e=.returned (.bool (numsRun w ss fs).2)/\(numsRun w ss fs).1=w':=by
 have d1:((ss.length:Int) != (fs.length:Int))=false:=by rw [bne_eq_false_iff_eq];omega
 have d2:(ss.length != fs.length)=false:=by rw [bne_eq_false_iff_eq];exact hl
 have hlh:=Lib.hid hl
 have h1h:=Lib.hid h1
 have h2h:=Lib.hid h2
 clear hl h1 h2
 go_enter Tryd.func24,Tryd.ntmps24
 go_wp2_with fail
 go_loopw [16] (fun z wr=>∃ j:Nat,z=.int .i64 j/\j<=ss.length/\Hid ((∀ k,(∀ f∈fs,k≠f.1)->wr.heap[k]?=w.heap[k]?)/\(∀ f∈fs,May wr f)/\numsRun wr (ss.drop j) (fs.drop j)=numsRun w ss fs)) (fun z _=>ss.length-(intOf z).toNat)
 case atStart=>exact⟨0,rfl,by omega,Lib.hid ⟨fun _ _=>rfl,hm,rfl⟩⟩
 case round =>
  obtain⟨j,rfl,hj,hH⟩:=hrel
  obtain⟨hk,hmw,hq⟩:=hH.out
  clear hH hm
  by_cases hlt:j<ss.length
  · have hat:ss[j]?=some ss[j]:=List.getElem?_eq_getElem hlt
    have hlt2:j<fs.length:=by have:=hlh.out;omega
    have hat2:fs[j]?=some fs[j]:=List.getElem?_eq_getElem hlt2
    rw [List.drop_eq_getElem_cons hlt,List.drop_eq_getElem_cons hlt2] at hq
    have g1:=hw.2 j _ hat
    have g2:=hp j _ hat2
    obtain⟨cs2,t2,hfj,he2⟩:=hmw _ (List.getElem_mem hlt2)
    generalize ss[j]=s at *
    generalize fs[j]=f at *
    obtain⟨fb,f⟩:=f
    simp only at hfj he2 g2
    have g1':wr.cell? ⟨b0,o0+j,none⟩=some (.string ⟨s.toArray⟩):=(by simp only [World.cell?,hk b0 h1h.out]:wr.cell? ⟨b0,o0+j,none⟩=w.cell? ⟨b0,o0+j,none⟩).trans g1
    have g2':wr.cell? ⟨bp,j,none⟩=some (.pointer (some ⟨fb,f,none⟩)):=(by simp only [World.cell?,hk bp h2h.out]:wr.cell? ⟨bp,j,none⟩=w.cell? ⟨bp,j,none⟩).trans g2
    have fz:=frozen_of_heap he2 f
    obtain⟨vo,hvo⟩:∃ v,wr.cell? ⟨fb,f,none⟩=some v:=⟨cs2[f],by rw [cell_of_heap he2];exact Array.getElem?_eq_getElem (by omega)⟩
    clear g1 g2 hat he2
    have hnum:=fun w=>number_p s w
    cases hs:numW s with
    | none =>
      rw [hs] at hnum
      rw [numsRun_none hs] at hq
      have hqh:=Lib.hid hq
      clear hq hk hmw hs hat2
      go_wp2_with fail
      refine (hnum _).mono ?_
      rintro e w' ⟨rfl,rfl⟩
      simp only [Option.isSome_none,Option.getD_none]
      go_wp2_with fail
      go_ret
      refine⟨?_,?_⟩
      · rw [<- hqh.out];rfl
      · rw [<- hqh.out]
    | some n =>
      rw [hs] at hnum
      rw [numsRun_some hs] at hq
      have hmem:(fb,f)∈fs:=List.mem_of_getElem? hat2
      have hN:(∀ k,(∀ f∈fs,k≠f.1)->(wr.setCell ⟨fb,f,none⟩ (.int .i64 n)).heap[k]?=w.heap[k]?)/\(∀ g∈fs,May (wr.setCell ⟨fb,f,none⟩ (.int .i64 n)) g)/\numsRun (wr.setCell ⟨fb,f,none⟩ (.int .i64 n)) (ss.drop (j+1)) (fs.drop (j+1))=numsRun w ss fs :=
       ⟨fun k hkb=>(heap_setCell_ne wr _ (hkb (fb,f) hmem)).trans (hk k hkb),fun g hg=>(hmw g hg).set (g:=(fb,f)) _,hq⟩
      have hNh:=Lib.hid hN
      clear hq hk hmw hs hN hat2 hmem
      go_wp2_with fail
      refine (hnum _).mono ?_
      rintro e w' ⟨rfl,rfl⟩
      simp only [Option.isSome_some,Option.getD_some]
      go_wp2_with fail
      refine⟨⟨j+1,by go_num,by omega,hNh⟩,?_⟩
      simp [intOf];omega
  · obtain rfl:j=ss.length:=by omega
    have e1:numsRun wr (ss.drop ss.length) (fs.drop ss.length)=(wr,true):=by rw [List.drop_length];rfl
    rw [e1] at hq
    have hqh:=Lib.hid hq
    clear hq e1 hk hmw
    go_wp2_with fail
    go_ret
    refine⟨?_,?_⟩
    · rw [<- hqh.out];rfl
    · rw [<- hqh.out]
set_option maxRecDepth 100000 in
set_option maxHeartbeats 4000000 in
theorem fine45_2 (a t c v x y:Int)(w:World)
  (a1:decide (a<0)=false)(a3:decide (1048576<a)=false)(t1:decide (t<0)=false)(t3:decide (1048576<t)=false)(c1:decide (c<0)=false)(c3:decide (1048576<c)=false) :
  Calls Tryd.prog 7 #[.agg #[.int .i64 a,.int .i64 2,.int .i64 t,.int .i64 c,.int .i64 v,.int .i64 x,.int .i64 y]] w fun r w'=>r=.returned (.bool (v==0&&fineR x y))/\Ext w w':=by
 have hX:=Ext.refl w
 have b1:=Blk.new w (.cells #[.int .i64 a,.int .i64 2,.int .i64 t,.int .i64 c,.int .i64 v,.int .i64 x,.int .i64 y] 26)
 replace hX:=hX.alloc (.cells #[.int .i64 a,.int .i64 2,.int .i64 t,.int .i64 c,.int .i64 v,.int .i64 x,.int .i64 y] 26)
 have c_b1:=b1.cells
 by_cases hx0:x=0
 · subst hx0
   by_cases hy0:y=0
   · subst hy0
     have e1:fineR 0 0=true:=by rfl
     rw [e1,Bool.and_true]
     clear e1
     by_cases hv:v=0
     · subst hv
       simp only [beq_self_eq_true]
       go_enter Tryd.func7,Tryd.ntmps7
       go_wp2_with fail
       go_ret
       exact⟨rfl,hX⟩
     · have d1:(v==0)=false:=by rw [beq_eq_false_iff_ne];exact hv
       rw [d1]
       clear hv
       go_enter Tryd.func7,Tryd.ntmps7
       go_wp2_with fail
       go_ret
       exact⟨rfl,hX⟩
   have d3:(y==0)=false:=by rw [beq_eq_false_iff_ne];exact hy0
   clear hy0
   by_cases hv:v=0
   · subst hv
     by_cases y0:0<=y
     · have f1:decide (0<=y)=true:=decide_eq_true y0
       by_cases y1:y<=1099511627776
       · have f2:decide (y<=1099511627776)=true:=decide_eq_true y1
         have e1:fineR 0 y=true:=by unfold fineR wi;rw [f1,f2];rfl
         rw [e1]
         clear e1 y0 y1
         simp only [beq_self_eq_true,Bool.and_self]
         go_enter Tryd.func7,Tryd.ntmps7
         go_wp2_with fail
         go_ret
         exact⟨rfl,hX⟩
       · have f2:decide (y<=1099511627776)=false:=decide_eq_false y1
         have e1:fineR 0 y=false:=by unfold fineR wi;rw [f1,f2];rfl
         rw [e1,Bool.and_false]
         clear e1 y0 y1
         go_enter Tryd.func7,Tryd.ntmps7
         go_wp2_with fail
         go_ret
         exact⟨rfl,hX⟩
     · have f1:decide (0<=y)=false:=decide_eq_false y0
       have e1:fineR 0 y=false:=by unfold fineR wi;rw [f1];rfl
       rw [e1,Bool.and_false]
       clear e1 y0
       go_enter Tryd.func7,Tryd.ntmps7
       go_wp2_with fail
       go_ret
       exact⟨rfl,hX⟩
   · have d1:(v==0)=false:=by rw [beq_eq_false_iff_ne];exact hv
     rw [d1,Bool.false_and]
     clear hv
     go_enter Tryd.func7,Tryd.ntmps7
     go_wp2_with fail
     go_ret
     exact⟨rfl,hX⟩
 have d2:(x != 0)=true:=by rw [bne_iff_ne];exact hx0
 have d2':(x==0)=false:=by rw [beq_eq_false_iff_ne];exact hx0
 by_cases hy0:y=0
 · subst hy0
   by_cases hv:v=0
   · subst hv
     by_cases y0:0<=x
     · have f1:decide (0<=x)=true:=decide_eq_true y0
       by_cases y1:x<=12
       · have f2:decide (x<=12)=true:=decide_eq_true y1
         have e1:fineR x 0=true:=by unfold fineR wi;rw [f1,f2,d2'];rfl
         rw [e1]
         clear e1 y0 y1 hx0
         simp only [beq_self_eq_true,Bool.and_self]
         go_enter Tryd.func7,Tryd.ntmps7
         go_wp2_with fail
         go_ret
         exact⟨rfl,hX⟩
       · have f2:decide (x<=12)=false:=decide_eq_false y1
         have e1:fineR x 0=false:=by unfold fineR wi;rw [f1,f2];rfl
         rw [e1,Bool.and_false]
         clear e1 y0 y1 hx0
         go_enter Tryd.func7,Tryd.ntmps7
         go_wp2_with fail
         go_ret
         exact⟨rfl,hX⟩
     · have f1:decide (0<=x)=false:=decide_eq_false y0
       have e1:fineR x 0=false:=by unfold fineR wi;rw [f1];rfl
       rw [e1,Bool.and_false]
       clear e1 y0 hx0
       go_enter Tryd.func7,Tryd.ntmps7
       go_wp2_with fail
       go_ret
       exact⟨rfl,hX⟩
   · have d1:(v==0)=false:=by rw [beq_eq_false_iff_ne];exact hv
     rw [d1,Bool.false_and]
     clear hv hx0
     go_enter Tryd.func7,Tryd.ntmps7
     go_wp2_with fail
     go_ret
     exact⟨rfl,hX⟩
 have d3:(y != 0)=true:=by rw [bne_iff_ne];exact hy0
 have d3':(y==0)=false:=by rw [beq_eq_false_iff_ne];exact hy0
 have e1:fineR x y=false:=by unfold fineR;rw [d2',d3'];simp
 rw [e1,Bool.and_false]
 clear e1 hx0 hy0
 go_enter Tryd.func7,Tryd.ntmps7
 go_wp2_with fail
 go_ret
 exact⟨rfl,hX⟩
set_option maxRecDepth 100000 in
set_option maxHeartbeats 4000000 in
theorem fine45_r (e:Ev)(w:World):Calls Tryd.prog 7 #[encE e] w fun r w'=>r=.returned (.bool (fineE e))/\Ext w w':=by
 obtain⟨a,k,t,c,v,x,y⟩:=e
 unfold encE
 simp only
 have hX:=Ext.refl w
 have b1:=Blk.new w (.cells #[.int .i64 a,.int .i64 k,.int .i64 t,.int .i64 c,.int .i64 v,.int .i64 x,.int .i64 y] 26)
 replace hX:=hX.alloc (.cells #[.int .i64 a,.int .i64 k,.int .i64 t,.int .i64 c,.int .i64 v,.int .i64 x,.int .i64 y] 26)
 have c_b1:=b1.cells
 by_cases a0:a<0
 · have e0:fineE ⟨a,k,t,c,v,x,y⟩=false:=by
    have e1:wi a 0 1048576=false:=by unfold wi;rw [decide_eq_false (by omega)];rfl
    simp only [fineE,e1,Bool.false_and,Bool.and_false]
   rw [e0]
   clear e0
   have d:decide (a<0)=true:=decide_eq_true a0
   clear a0
   go_enter Tryd.func7,Tryd.ntmps7
   go_wp2_with fail
   go_ret
   exact⟨rfl,hX⟩
 have a1:decide (a<0)=false:=decide_eq_false a0
 by_cases a2:1048576<a
 · have e0:fineE ⟨a,k,t,c,v,x,y⟩=false:=by
    have e1:wi a 0 1048576=false:=by unfold wi;rw [decide_eq_false (show ¬ a<=1048576 by omega),Bool.and_false]
    simp only [fineE,e1,Bool.false_and,Bool.and_false]
   rw [e0]
   clear e0
   have d:decide (1048576<a)=true:=decide_eq_true a2
   clear a0 a2
   go_enter Tryd.func7,Tryd.ntmps7
   go_wp2_with fail
   go_ret
   exact⟨rfl,hX⟩
 have a3:decide (1048576<a)=false:=decide_eq_false a2
 by_cases t0:t<0
 · have e0:fineE ⟨a,k,t,c,v,x,y⟩=false:=by
    have e1:wi t 0 1048576=false:=by unfold wi;rw [decide_eq_false (by omega)];rfl
    simp only [fineE,e1,Bool.false_and,Bool.and_false]
   rw [e0]
   clear e0
   have d:decide (t<0)=true:=decide_eq_true t0
   clear t0
   go_enter Tryd.func7,Tryd.ntmps7
   go_wp2_with fail
   go_ret
   exact⟨rfl,hX⟩
 have t1:decide (t<0)=false:=decide_eq_false t0
 by_cases t2:1048576<t
 · have e0:fineE ⟨a,k,t,c,v,x,y⟩=false:=by
    have e1:wi t 0 1048576=false:=by unfold wi;rw [decide_eq_false (show ¬ t<=1048576 by omega),Bool.and_false]
    simp only [fineE,e1,Bool.false_and,Bool.and_false]
   rw [e0]
   clear e0
   have d:decide (1048576<t)=true:=decide_eq_true t2
   clear t0 t2
   go_enter Tryd.func7,Tryd.ntmps7
   go_wp2_with fail
   go_ret
   exact⟨rfl,hX⟩
 have t3:decide (1048576<t)=false:=decide_eq_false t2
 by_cases c0:c<0
 · have e0:fineE ⟨a,k,t,c,v,x,y⟩=false:=by
    have e1:wi c 0 1048576=false:=by unfold wi;rw [decide_eq_false (by omega)];rfl
    simp only [fineE,e1,Bool.false_and,Bool.and_false]
   rw [e0]
   clear e0
   have d:decide (c<0)=true:=decide_eq_true c0
   clear c0
   go_enter Tryd.func7,Tryd.ntmps7
   go_wp2_with fail
   go_ret
   exact⟨rfl,hX⟩
 have c1:decide (c<0)=false:=decide_eq_false c0
 by_cases c2:1048576<c
 · have e0:fineE ⟨a,k,t,c,v,x,y⟩=false:=by
    have e1:wi c 0 1048576=false:=by unfold wi;rw [decide_eq_false (show ¬ c<=1048576 by omega),Bool.and_false]
    simp only [fineE,e1,Bool.false_and,Bool.and_false]
   rw [e0]
   clear e0
   have d:decide (1048576<c)=true:=decide_eq_true c2
   clear c0 c2
   go_enter Tryd.func7,Tryd.ntmps7
   go_wp2_with fail
   go_ret
   exact⟨rfl,hX⟩
 have c3:decide (1048576<c)=false:=decide_eq_false c2
 have w1:wi a 0 1048576=true:=by rw [wi_iff];omega
 have w2:wi t 0 1048576=true:=by rw [wi_iff];omega
 have w3:wi c 0 1048576=true:=by rw [wi_iff];omega
 clear a0 a2 t0 t2 c0 c2
 by_cases hk:k=1∨k=2∨k=3∨k=4
 · have e0:fineE ⟨a,k,t,c,v,x,y⟩=(if k=3 then wi v 1 5&&(x==0&&y==0) else if k=2 then v==0&&fineR x y else v==0&&(x==0&&y==0)):=by
    have e1:wi k 1 4=true:=by rw [wi_iff];omega
    simp only [fineE,e1,w1,w2,w3,Bool.true_and]
   rw [e0]
   clear e0 w1 w2 w3
   rcases hk with rfl | rfl | rfl | rfl
   · simp only [Int.reduceEq,if_true,if_false]
     by_cases hv:v=0
     · subst hv
       simp only [beq_self_eq_true,Bool.true_and]
       by_cases hx0:x=0
       · subst hx0
         by_cases hy0:y=0
         · subst hy0
           simp only [beq_self_eq_true,Bool.and_self,Bool.and_true,Bool.true_and]
           go_enter Tryd.func7,Tryd.ntmps7
           go_wp2_with fail
           go_ret
           exact⟨rfl,hX⟩
         · have d2:(y==0)=false:=by rw [beq_eq_false_iff_ne];exact hy0
           rw [d2]
           simp only [Bool.and_false]
           clear hy0
           go_enter Tryd.func7,Tryd.ntmps7
           go_wp2_with fail
           go_ret
           exact⟨rfl,hX⟩
       · have d2:(x==0)=false:=by rw [beq_eq_false_iff_ne];exact hx0
         rw [d2]
         simp only [Bool.false_and,Bool.and_false]
         clear hx0
         go_enter Tryd.func7,Tryd.ntmps7
         go_wp2_with fail
         go_ret
         exact⟨rfl,hX⟩
     · have d1:(v==0)=false:=by rw [beq_eq_false_iff_ne];exact hv
       rw [d1,Bool.false_and]
       clear hv
       by_cases hx0:x=0
       · subst hx0
         by_cases hy0:y=0
         · subst hy0
           skip
           go_enter Tryd.func7,Tryd.ntmps7
           go_wp2_with fail
           go_ret
           exact⟨rfl,hX⟩
         · have d2:(y==0)=false:=by rw [beq_eq_false_iff_ne];exact hy0
           clear hy0
           go_enter Tryd.func7,Tryd.ntmps7
           go_wp2_with fail
           go_ret
           exact⟨rfl,hX⟩
       · have d2:(x==0)=false:=by rw [beq_eq_false_iff_ne];exact hx0
         clear hx0
         go_enter Tryd.func7,Tryd.ntmps7
         go_wp2_with fail
         go_ret
         exact⟨rfl,hX⟩
   · simp only [Int.reduceEq,if_true,if_false]
     exact fine45_2 a t c v x y w a1 a3 t1 t3 c1 c3
   · simp only [if_true]
     by_cases v0:0<v
     · have d3:decide (0<v)=true:=decide_eq_true v0
       by_cases v1:v<6
       · have d4:decide (v<6)=true:=decide_eq_true v1
         have e1:wi v 1 5=true:=by rw [wi_iff];omega
         rw [e1]
         clear e1 v0 v1
         by_cases hx0:x=0
         · subst hx0
           by_cases hy0:y=0
           · subst hy0
             simp only [beq_self_eq_true,Bool.and_self,Bool.and_true,Bool.true_and]
             go_enter Tryd.func7,Tryd.ntmps7
             go_wp2_with fail
             go_ret
             exact⟨rfl,hX⟩
           · have d2:(y==0)=false:=by rw [beq_eq_false_iff_ne];exact hy0
             rw [d2]
             simp only [Bool.and_false]
             clear hy0
             go_enter Tryd.func7,Tryd.ntmps7
             go_wp2_with fail
             go_ret
             exact⟨rfl,hX⟩
         · have d2:(x==0)=false:=by rw [beq_eq_false_iff_ne];exact hx0
           rw [d2]
           simp only [Bool.false_and,Bool.and_false]
           clear hx0
           go_enter Tryd.func7,Tryd.ntmps7
           go_wp2_with fail
           go_ret
           exact⟨rfl,hX⟩
       · have d4:decide (v<6)=false:=decide_eq_false v1
         have e1:wi v 1 5=false:=by unfold wi;rw [decide_eq_false (show ¬ v<=5 by omega),Bool.and_false]
         rw [e1,Bool.false_and]
         clear e1 v0 v1
         by_cases hx0:x=0
         · subst hx0
           by_cases hy0:y=0
           · subst hy0
             skip
             go_enter Tryd.func7,Tryd.ntmps7
             go_wp2_with fail
             go_ret
             exact⟨rfl,hX⟩
           · have d2:(y==0)=false:=by rw [beq_eq_false_iff_ne];exact hy0
             clear hy0
             go_enter Tryd.func7,Tryd.ntmps7
             go_wp2_with fail
             go_ret
             exact⟨rfl,hX⟩
         · have d2:(x==0)=false:=by rw [beq_eq_false_iff_ne];exact hx0
           clear hx0
           go_enter Tryd.func7,Tryd.ntmps7
           go_wp2_with fail
           go_ret
           exact⟨rfl,hX⟩
     · have d3:decide (0<v)=false:=decide_eq_false v0
       have e1:wi v 1 5=false:=by unfold wi;rw [decide_eq_false (show ¬ 1<=v by omega),Bool.false_and]
       rw [e1,Bool.false_and]
       clear e1 v0
       by_cases hx0:x=0
       · subst hx0
         by_cases hy0:y=0
         · subst hy0
           skip
           go_enter Tryd.func7,Tryd.ntmps7
           go_wp2_with fail
           go_ret
           exact⟨rfl,hX⟩
         · have d2:(y==0)=false:=by rw [beq_eq_false_iff_ne];exact hy0
           clear hy0
           go_enter Tryd.func7,Tryd.ntmps7
           go_wp2_with fail
           go_ret
           exact⟨rfl,hX⟩
       · have d2:(x==0)=false:=by rw [beq_eq_false_iff_ne];exact hx0
         clear hx0
         go_enter Tryd.func7,Tryd.ntmps7
         go_wp2_with fail
         go_ret
         exact⟨rfl,hX⟩
   · simp only [Int.reduceEq,if_true,if_false]
     by_cases hv:v=0
     · subst hv
       simp only [beq_self_eq_true,Bool.true_and]
       by_cases hx0:x=0
       · subst hx0
         by_cases hy0:y=0
         · subst hy0
           simp only [beq_self_eq_true,Bool.and_self,Bool.and_true,Bool.true_and]
           go_enter Tryd.func7,Tryd.ntmps7
           go_wp2_with fail
           go_ret
           exact⟨rfl,hX⟩
         · have d2:(y==0)=false:=by rw [beq_eq_false_iff_ne];exact hy0
           rw [d2]
           simp only [Bool.and_false]
           clear hy0
           go_enter Tryd.func7,Tryd.ntmps7
           go_wp2_with fail
           go_ret
           exact⟨rfl,hX⟩
       · have d2:(x==0)=false:=by rw [beq_eq_false_iff_ne];exact hx0
         rw [d2]
         simp only [Bool.false_and,Bool.and_false]
         clear hx0
         go_enter Tryd.func7,Tryd.ntmps7
         go_wp2_with fail
         go_ret
         exact⟨rfl,hX⟩
     · have d1:(v==0)=false:=by rw [beq_eq_false_iff_ne];exact hv
       rw [d1,Bool.false_and]
       clear hv
       by_cases hx0:x=0
       · subst hx0
         by_cases hy0:y=0
         · subst hy0
           skip
           go_enter Tryd.func7,Tryd.ntmps7
           go_wp2_with fail
           go_ret
           exact⟨rfl,hX⟩
         · have d2:(y==0)=false:=by rw [beq_eq_false_iff_ne];exact hy0
           clear hy0
           go_enter Tryd.func7,Tryd.ntmps7
           go_wp2_with fail
           go_ret
           exact⟨rfl,hX⟩
       · have d2:(x==0)=false:=by rw [beq_eq_false_iff_ne];exact hx0
         clear hx0
         go_enter Tryd.func7,Tryd.ntmps7
         go_wp2_with fail
         go_ret
         exact⟨rfl,hX⟩
 · have e0:fineE ⟨a,k,t,c,v,x,y⟩=false:=by
    have e1:wi k 1 4=false:=by
     cases h:wi k 1 4
     · rfl
     · rw [wi_iff] at h
       omega
    simp only [fineE,e1,Bool.false_and]
   rw [e0]
   clear e0 w1 w2 w3
   have k1:(k==1)=false:=by rw [beq_eq_false_iff_ne];omega
   have k2:(k==2)=false:=by rw [beq_eq_false_iff_ne];omega
   have k3:(k==3)=false:=by rw [beq_eq_false_iff_ne];omega
   have k4:(k==4)=false:=by rw [beq_eq_false_iff_ne];omega
   clear hk
   by_cases hx0:x=0
   · subst hx0
     by_cases hy0:y=0
     · subst hy0
       skip
       go_enter Tryd.func7,Tryd.ntmps7
       go_wp2_with fail
       go_ret
       exact⟨rfl,hX⟩
     · have d2:(y==0)=false:=by rw [beq_eq_false_iff_ne];exact hy0
       clear hy0
       go_enter Tryd.func7,Tryd.ntmps7
       go_wp2_with fail
       go_ret
       exact⟨rfl,hX⟩
   · have d2:(x==0)=false:=by rw [beq_eq_false_iff_ne];exact hx0
     clear hx0
     go_enter Tryd.func7,Tryd.ntmps7
     go_wp2_with fail
     go_ret
     exact⟨rfl,hX⟩
end Go.Proofs.YtchahoiainbcaaaDoor
namespace Go.Proofs.YtchahoiainbcaaaDoor
open Go.RowKit
theorem tk {P:Program}{ops:Array Oper}{Q:Exit->Act->World->Prop}{md:Region.Mode}{S:World->Prop}(i:Nat){oi:Oper}{v:Value}{fuel:Nat}{listed:Array Bool}{a:Act}{w:World}(hi:ops[i]?=some oi)
  (hc:(Region.noSelect ops&&Region.free md ops listed i&&(Region.ready md ops listed).contains i&&Region.wanted oi (yielded ops a.tmps))=true)
  (hQ:∀ c a w,Q (.panic c) (a.put oi.dst v) w->Q (.panic c) a w)(hS:S w)(hy:∀ w,S w->(execOp a.eval oi).run P w=.ok (.value v) w)
  (h:wpAnyH P md ops Q S fuel (listed.setIfInBounds i true) (a.put oi.dst v) w):wpAnyH P md ops Q S (fuel+1) listed a w:=by
 simp only [Bool.and_eq_true] at hc
 exact wpAnyH_take hi hc.1.1.1 hc.1.1.2 hc.1.2 hQ (Or.inl ⟨hc.2,hy⟩) hS h
def AnyN (_:Nat) (p:Prop):Prop:=p
theorem tkb {p:Prop}(i:Nat)(h:AnyN i p):p:=h
theorem tke {p:Prop}{i:Nat}(h:p):AnyN i p:=h
theorem tkn {P:Program}{ops:Array Oper}{Q:Exit->Act->World->Prop}{md:Region.Mode}{S:World->Prop}{i:Nat}{oi:Oper}{v:Value}{fuel:Nat}{listed:Array Bool}{a:Act}{w:World}(hi:ops[i]?=some oi)
  (hc:(Region.noSelect ops&&Region.free md ops listed i&&(Region.ready md ops listed).contains i&&Region.wanted oi (yielded ops a.tmps))=true)
  (hQ:∀ c a w,Q (.panic c) (a.put oi.dst v) w->Q (.panic c) a w)(hS:S w)(hy:∀ w,S w->(execOp a.eval oi).run P w=.ok (.value v) w)
  (h:AnyN (i+1) (wpAnyH P md ops Q S fuel (listed.setIfInBounds i true) (a.put oi.dst v) w)):AnyN i (wpAnyH P md ops Q S (fuel+1) listed a w):=tk i hi hc hQ hS hy h
end Go.Proofs.YtchahoiainbcaaaDoor
namespace Go.Proofs.YtchahoiainbcaaaDoor
open Go.RowKit Kv
theorem itoa_e (n:Int)(h0:0<=n)(h1:n<=1099511627776)(w:World)(T:Tabs w):Calls Tryd.prog 18 #[.int .i64 n] w fun e w'=>e=.returned (.string ⟨(digits n).toArray⟩)/\Ext w w':=by
 refine (Tryd.strconv_Itoa n (by omega) (by omega) w T.pow10).mono ?_
 rintro e w' ⟨rfl,k,os,rfl⟩
 exact⟨rfl,(Ext.refl _).grow _ _⟩
theorem info_str:(Tryd.prog.info? 9).map (fun i=>(i.zero,i.size,i.bytes))=some (some (.string ⟨#[]⟩),1,16):=by kernel_rfl
theorem row_newS {B:Nat}(w:World)(hB:B<=w.heap.size)(xs:List Value)(e size n:Nat)(h:xs.length=n*size)(hn:n<=1000000):(w.alloc (.cells xs.toArray e)).ownsRow B e size (.slice (some ⟨w.heap.size,0,none⟩) n n) n xs :=
 ⟨h,.inr ⟨w.heap.size,n,xs.toArray,rfl,hB,heap_alloc_new _ _,Nat.le_refl _,by unfold maxLen;omega,by simpa using h,by simp [<- h]⟩⟩
theorem oper_append {o:Oper}{a:Act}{K:Act->World->Prop}{Q:Exit->Act->World->Prop}{w0 w:World}{e t:TypeId}{z:Value}{size bytes:Nat}
  (hinfo:(Tryd.prog.info? e).map (fun i=>(i.zero,i.size,i.bytes))=some (some z,size,bytes))(hund:Tryd.prog.underlying t=some (.slice e))(hzs:z.cells.size=size)(hsz:0<size)(hby:bytes<=100)
  (s x:Operand)(ho:o.op=.call { callee:=.builtin .append,args:=#[s,x],argTypes:=#[t,t] })
  (v:Value)(n:Nat)(xs news:List Value)(b m c:Nat)(hX:Ext w0 w)(hown:w.ownsRow w0.heap.size e size v n xs)(hs:a.eval s=v)(hx:a.eval x=.slice (some ⟨b,0,none⟩) m c)
  (hv:∀ (j:Nat) u,news[j]?=some u->w.cell? ⟨b,j,none⟩=some u)(hnl:news.length=m*size)(h1:∀ u∈news,u.oneCell'=true)(hlen:n<1000000000)(hm:m<1000000000)
  (h:∀ v' w',w'.ownsRow w0.heap.size e size v' (n+m) (xs++news)->Ext w0 w'->K (a.put o.dst v') w'):Oper.wp Tryd.prog o a w K Q:=by
 obtain⟨i0,hi,hz0,hz1,hz2⟩:=info_parts hinfo
 have hby2:(n+m)*bytes<=140737488355328:=by
  have:(n+m)*bytes<=(n+m)*100:=Nat.mul_le_mul_left _ hby
  omega
 obtain⟨v',w',hr,h2,h3,h4,h5⟩:=run_append_own_at (P:=Tryd.prog) (w:=w) w0.heap.size t o.type e i0 z size bytes hund hi hz0 hz1 hz2 hzs hsz v n xs hown ⟨b,0,none⟩ m c news hnl (fun j u hu=>by rw [Addr.add_lit,Nat.zero_add];exact hv j u hu) h1 (by unfold maxLen;omega) hby2 hX.size
 unfold Oper.wp execOp
 simp only [ho,resolve,invoke,builtin,Sem.run_bind,Sem.run_pure,Result.andThen_ok,List.map_toArray,List.map_cons,List.map_nil,hs,hx,hr]
 refine h v' w' h2 (Below.grown hX h3 hX.size fun k hk=>?_)
 rcases hown.2 with⟨rfl,_⟩ | ⟨g,cap,cur,rfl,hgb,_⟩
 · simp [Value.ownBlock] at hk
 · simp [Value.ownBlock] at hk
   omega
theorem step_oper {ops:Array Oper}{o:Oper}{a:Act}{K:Act->World->Prop}{Q:Exit->Act->World->Prop}{E:Prop}{w:World}(hgd:o.guard=none)(h:Oper.wp Tryd.prog o a w K Q):if Region.wanted o (yielded ops a.tmps)=true then Oper.wp Tryd.prog o a w K Q else E:=by
 rw [if_pos (by simp [Region.wanted,hgd])]
 exact h
theorem join_bd:∀ (l:List Bs) (x:Bs) (m:Nat),(∀ w∈x :: l,w.length<=m)->(Go.Lib.join (x :: l) [32]).length<=(m+1)*(l.length+1)
 | [],x,m,h=>by
   rw [join_one]
   have:=h x (by simp)
   rw [List.length_nil,Nat.zero_add,Nat.mul_one]
   omega
 | y :: l,x,m,h=>by
   rw [join_cons,List.length_append,List.length_cons]
   have h1:=h x (by simp)
   have h2:=join_bd l y m fun w hw=>h w (List.mem_cons_of_mem _ hw)
   rw [List.length_cons,Nat.mul_succ]
   omega
theorem joinW_p (b cp:Nat)(ws:List Bs)(w:World)(h:WordsAt w b 0 ws)(hc:ws.length<=cp)(h0:ws≠[])(hl:ws.length<=10)(hm:∀ x∈ws,x.length<=100) :
  Calls Tryd.prog 19 #[.slice (some ⟨b,0,none⟩) ws.length cp,.string ⟨#[32]⟩] w fun e w'=>e=.returned (.string ⟨(Go.Lib.join ws [32]).toArray⟩)/\Ext w w':=by
 have e1:(ws.map fun x=>(⟨x.toArray⟩:ByteArray)).map (·.data.toList)=ws:=by
  rw [List.map_map]
  exact (List.map_congr_left fun x _=>by simp).trans (List.map_id ws)
 have hlen:(Go.Lib.join ws [32]).length<=2000:=by
  cases ws with
  | nil=>exact absurd rfl h0
  | cons x l =>
    have:=join_bd l x 100 hm
    rw [List.length_cons] at hl
    have h2:101*(l.length+1)<=101*10:=Nat.mul_le_mul_left _ hl
    omega
 have hj:=Tryd.strings_Join b 0 cp (ws.map fun x=>⟨x.toArray⟩) ⟨#[32]⟩ w (fun j x hx=>by
  rw [List.getElem?_map] at hx
  obtain⟨y,hy,rfl⟩:=Option.map_eq_some_iff.1 hx
  exact h.2 j y hy) h.1 (by rw [List.length_map];omega) (by rw [List.length_map];exact hc) (by rw [e1];show (Go.Lib.join ws [32]).length<=_;omega)
 rw [e1,List.length_map] at hj
 exact hj
theorem words_row {w:World}{B n:Nat}{u:Value}{ws:List Bs}(h:w.ownsRow B 9 1 u n (ws.map fun x=>.string ⟨x.toArray⟩))(h0:ws≠[]):∃ b cp,u=.slice (some ⟨b,0,none⟩) n cp/\n<=cp/\WordsAt w b 0 ws:=by
 obtain⟨A,cp,rfl,q1,q2,q3⟩:=vals_row h
 obtain⟨b,rfl,hb,hc⟩:=q3 (by simpa using h0)
 exact⟨b,cp,rfl,q1,hb,fun j x hj=>by rw [Nat.zero_add];exact hc j _ (by rw [List.getElem?_map,hj];rfl)⟩
set_option maxRecDepth 100000 in
set_option maxHeartbeats 2000000 in
theorem line_no (e:Ev)(w:World)(hf:fineE e=false):Calls Tryd.prog 5 #[encE e] w fun r w'=>r=.returned (.tuple #[.string ⟨#[]⟩,.int .i64 3])/\Ext w w':=by
 have h:=fun w=>fine45_p e w
 rw [hf] at h
 clear hf
 obtain⟨a,k,t,c,v,x,y⟩:=e
 unfold encE at *
 simp only at *
 have hX:=Ext.refl w
 have b1:=Blk.new w (.cells #[.int .i64 a,.int .i64 k,.int .i64 t,.int .i64 c,.int .i64 v,.int .i64 x,.int .i64 y] 26)
 replace hX:=hX.alloc (.cells #[.int .i64 a,.int .i64 k,.int .i64 t,.int .i64 c,.int .i64 v,.int .i64 x,.int .i64 y] 26)
 have c_b1:=b1.cells
 go_enter Tryd.func5,Tryd.ntmps5
 go_wp2_with fail
 refine (h _).mono ?_
 rintro e w2 ⟨rfl,hx⟩
 clear c_b1
 replace b1:=b1.ext hx
 have c_b1:=b1.cells
 replace hX:=hX.trans hx
 clear hx
 go_wp2_with fail
 go_ret2
 exact⟨rfl,hX⟩
set_option maxRecDepth 100000 in
set_option maxHeartbeats 2000000 in
theorem line_yes (e:Ev)(w:World)(T:Tabs w)(hf:fineE e=true):Calls Tryd.prog 5 #[encE e] w fun r w'=>r=.returned (.tuple #[.string ⟨(lineE e).toArray⟩,.int .i64 0])/\Ext w w':=by
 have h:=fun w=>fine45_p e w
 obtain⟨h1,h2,h3,h4,h5,h6,h7⟩:=fine_parts hf
 rw [hf] at h
 clear hf
 obtain⟨a,k,t,c,v,x,y⟩:=e
 unfold encE at h ⊢
 simp only at *
 obtain⟨kk,rfl⟩:∃ kk:Nat,k=(kk:Int)+1:=⟨(k-1).toNat,by omega⟩
 have hkk:kk<=3:=by omega
 have hWh:=Lib.hid (show lineE ⟨a,(kk:Int)+1,t,c,v,x,y⟩=Go.Lib.join ([digits a,nthW kindsW ((kk:Int)+1),digits t,digits c]++(if (kk:Int)+1=3 then [nthW notesW v] else if (kk:Int)+1=2 then [digits x,digits y] else [])) [32] from rfl)
 have hkcell:∀ W (b:Nat),Blk W b (.cells #[.string ⟨#[99,97,108,108]⟩,.string ⟨#[114,101,116,117,114,110]⟩,.string ⟨#[110,111,116,101]⟩,.string ⟨#[104,97,108,116]⟩] 42)->W.cell? ⟨b,kk,none⟩=some (.string ⟨(nthW kindsW ((kk:Int)+1)).toArray⟩):=by
  intro W b hb
  rw [hb.cells kk]
  have:kk=0∨kk=1∨kk=2∨kk=3:=by omega
  rcases this with rfl | rfl | rfl | rfl <;> rfl
 have hkw:(nthW kindsW ((kk:Int)+1)).length<=100:=by
  have:kk=0∨kk=1∨kk=2∨kk=3:=by omega
  rcases this with rfl | rfl | rfl | rfl <;> decide
 generalize hkn:nthW kindsW ((kk:Int)+1)=kw at *
 clear hkn
 have hlen:∀ n:Int,0<=n->n<=1099511627776->(digits n).length<=21:=fun n h0 h1=>Go.Lib.itoa_length_le n (by omega) (by omega)
 have hX:=Ext.refl w
 have b1:=Blk.new w (.cells #[.int .i64 a,.int .i64 ((kk:Int)+1),.int .i64 t,.int .i64 c,.int .i64 v,.int .i64 x,.int .i64 y] 26)
 replace hX:=hX.alloc (.cells #[.int .i64 a,.int .i64 ((kk:Int)+1),.int .i64 t,.int .i64 c,.int .i64 v,.int .i64 x,.int .i64 y] 26)
 have c_b1:=b1.cells
 go_enter Tryd.func5,Tryd.ntmps5
 go_wp2_with fail
 refine (h _).mono ?_
 rintro e w2 ⟨rfl,hx⟩
 clear c_b1
 replace b1:=b1.ext hx
 have c_b1:=b1.cells
 replace hX:=hX.trans hx
 clear hx
 go_wp2_with fail
 refine (kwords_p _).mono ?_
 rintro e w2 ⟨rfl,hx⟩
 clear c_b1
 replace b1:=b1.ext hx
 have c_b1:=b1.cells
 replace hX:=hX.trans hx
 clear hx
 go_wp2_with fail
 refine (nwords_p _).mono ?_
 rintro e w2 ⟨rfl,hx⟩
 clear c_b1
 replace b1:=b1.ext hx
 have c_b1:=b1.cells
 replace hX:=hX.trans hx
 clear hx
 go_wp2_with fail
 have bk:=(Blk.new w2 (.cells #[.string ⟨#[99,97,108,108]⟩,.string ⟨#[114,101,116,117,114,110]⟩,.string ⟨#[110,111,116,101]⟩,.string ⟨#[104,97,108,116]⟩] 42)).alloc (.cells #[.string ⟨#[100,111,111,114]⟩,.string ⟨#[98,101,104,105,110,100]⟩,.string ⟨#[105,110]⟩,.string ⟨#[108,101,102,116]⟩,.string ⟨#[111,117,116]⟩] 44)
 have bn:=Blk.new (w2.alloc (.cells #[.string ⟨#[99,97,108,108]⟩,.string ⟨#[114,101,116,117,114,110]⟩,.string ⟨#[110,111,116,101]⟩,.string ⟨#[104,97,108,116]⟩] 42)) (.cells #[.string ⟨#[100,111,111,114]⟩,.string ⟨#[98,101,104,105,110,100]⟩,.string ⟨#[105,110]⟩,.string ⟨#[108,101,102,116]⟩,.string ⟨#[111,117,116]⟩] 44)
 have x1:=((Ext.refl w2).alloc (.cells #[.string ⟨#[99,97,108,108]⟩,.string ⟨#[114,101,116,117,114,110]⟩,.string ⟨#[110,111,116,101]⟩,.string ⟨#[104,97,108,116]⟩] 42)).alloc (.cells #[.string ⟨#[100,111,111,114]⟩,.string ⟨#[98,101,104,105,110,100]⟩,.string ⟨#[105,110]⟩,.string ⟨#[108,101,102,116]⟩,.string ⟨#[111,117,116]⟩] 44)
 simp only [World.size_alloc] at bn
 replace b1:=b1.ext x1
 replace hX:=hX.trans x1
 clear c_b1 x1 h
 generalize hz:w2.heap.size=z at *
 generalize World.alloc (World.alloc w2 _) _=V at *
 have TV:=T.ext hX
 go_cut [6] (fun s6 wx=>∃ g:Nat,s6=.slice (some ⟨g,0,none⟩) 4 4/\wx.ownsRow V.heap.size 9 1 s6 4 [.string ⟨(digits a).toArray⟩,.string ⟨kw.toArray⟩,.string ⟨(digits t).toArray⟩,.string ⟨(digits c).toArray⟩]/\Ext V wx)
 case first =>
  have hx:=(Ext.refl V).drew
  have hS:∀ w',Ext V w'->(∀ i:Nat,w'.cell? ⟨w.heap.size,i,none⟩=(#[.int .i64 a,.int .i64 ((kk:Int)+1),.int .i64 t,.int .i64 c,.int .i64 v,.int .i64 x,.int .i64 y]:Array Value)[i]?)/\w'.cell? ⟨z,kk,none⟩=some (.string ⟨kw.toArray⟩):=fun w' hx=>⟨(b1.ext hx).cells,hkcell _ _ (bk.ext hx)⟩
  clear hkcell
  have i1:=IntWalk.i64_in (kk:Int) (by omega)
  have i2:(kk:Int)+1-1=kk:=by omega
  have i3:(kk:Int)<4:=by omega
  have i4:(0:Int)<=(kk:Int):=by omega
  have i5:kk<4:=by omega
  go_region_held2 (fun w'=>(∀ i:Nat,w'.cell? ⟨w.heap.size,i,none⟩=(#[.int .i64 a,.int .i64 ((kk:Int)+1),.int .i64 t,.int .i64 c,.int .i64 v,.int .i64 x,.int .i64 y]:Array Value)[i]?)/\w'.cell? ⟨z,kk,none⟩=some (.string ⟨kw.toArray⟩)) (first | exact hS _ hx | exact hS _ (hx.alloc _))
   (first
     | (go_at_call_of 18 (Value.int IntKind.i64 a)
        refine (itoa_e a (by omega) (by omega) _ (TV.ext hx)).mono ?_
        rintro e w5 ⟨rfl,hx5⟩
        replace hx:=hx.trans hx5
        clear hx5)
     | (go_at_call_of 18 (Value.int IntKind.i64 t)
        refine (itoa_e t (by omega) (by omega) _ (TV.ext hx)).mono ?_
        rintro e w5 ⟨rfl,hx5⟩
        replace hx:=hx.trans hx5
        clear hx5)
     | (go_at_call_of 18 (Value.int IntKind.i64 c)
        refine (itoa_e c (by omega) (by omega) _ (TV.ext hx)).mono ?_
        rintro e w5 ⟨rfl,hx5⟩
        replace hx:=hx.trans hx5
        clear hx5))
  go_wp2_with fail
  go_meet
  exact⟨_,rfl,row_newS _ hx.size [.string ⟨(digits a).toArray⟩,.string ⟨kw.toArray⟩,.string ⟨(digits t).toArray⟩,.string ⟨(digits c).toArray⟩] _ 1 4 rfl (by omega),hx.alloc _⟩
 case rest =>
  obtain⟨g,rfl,hown,hxw⟩:=hcut
  have b1V0:=b1
  replace b1:=b1.ext hxw
  replace bn:=bn.ext hxw
  have c_b1:=b1.cells
  clear bk hkcell
  by_cases e3:kk=2
  · subst e3
    obtain⟨⟨v1,v2⟩,rfl,rfl⟩:=h5 (by omega)
    clear h5 h6 h7
    obtain⟨vv,rfl⟩:∃ vv:Nat,v=(vv:Int)+1:=⟨(v-1).toNat,by omega⟩
    have hnc:wc.cell? ⟨z+1,vv,none⟩=some (.string ⟨(nthW notesW ((vv:Int)+1)).toArray⟩)/\(nthW notesW ((vv:Int)+1)).length<=100:=by
     rw [bn.cells vv]
     have:vv=0∨vv=1∨vv=2∨vv=3∨vv=4:=by omega
     rcases this with rfl | rfl | rfl | rfl | rfl <;> exact⟨rfl,by decide⟩
    obtain⟨hnc,hnl⟩:=hnc
    have i1:=IntWalk.i64_in (vv:Int) (by omega)
    have i2:(vv:Int)+1-1=vv:=by omega
    have i3:(vv:Int)<5:=by omega
    have i4:(0:Int)<=(vv:Int):=by omega
    have i5:vv<5:=by omega
    have hW2:=hWh.out
    rw [if_pos (by decide)] at hW2
    replace hWh:=Lib.hid hW2
    clear hW2
    generalize nthW notesW ((vv:Int)+1)=nw at *
    have hoa:=World.ownsRow.alloc hown (.cells #[.string ⟨nw.toArray⟩] 9)
    have hxa:=hxw.alloc (.cells #[.string ⟨nw.toArray⟩] 9)
    have gn:=Blk.new wc (.cells #[.string ⟨nw.toArray⟩] 9)
    have hgh:=Lib.hid (And.intro hoa (And.intro hxa gn))
    clear hown hoa hxa gn
    go_wp2_with (at_builtin;refine wpList_plain rfl fun _ hK=>oper_append (w0:=V) info_str Tryd.underlying47 rfl (by decide) (by decide) _ _ rfl _ 4 _ [.string ⟨nw.toArray⟩] _ 1 1 hgh.out.2.1 hgh.out.1 rfl rfl (fun j u hu=>by rw [hgh.out.2.2.cells j];simpa using hu) rfl (by simp [Value.oneCell']) (by omega) (by omega) (fun v' w' ho hxz=>hK _ _ ?_))
    have hoh:=Lib.hid (show w'.ownsRow V.heap.size 9 1 v' 5 (([digits a,kw,digits t,digits c]++[nw]).map fun x=>.string ⟨x.toArray⟩) from ho)
    have hmem:∀ x∈[digits a,kw,digits t,digits c]++[nw],x.length<=100:=by
     intro x hx
     have g1:=hlen a h2.1 (by omega)
     have g2:=hlen t h3.1 (by omega)
     have g3:=hlen c h4.1 (by omega)
     simp only [List.mem_append,List.mem_cons,List.not_mem_nil,or_false] at hx
     rcases hx with (rfl | rfl | rfl | rfl) | rfl <;> omega
    clear ho hgh
    obtain⟨b,cp,rfl,q1,q2⟩:=words_row hoh.out (by simp)
    have hJ:=joinW_p b cp _ _ q2 q1 (by simp) (by simp) hmem
    clear q1 q2 hoh
    go_wp2_with fail
    refine hJ.mono ?_
    rintro e w6 ⟨rfl,hx6⟩
    have hf:=Lib.hid (hX.trans (hxz.trans hx6))
    clear hJ hx6
    go_wp2_with fail
    go_ret2
    exact⟨by rw [hWh.out];rfl,hf.out⟩
  · have b1V:Blk V w.heap.size (.cells #[.int .i64 a,.int .i64 ((kk:Int)+1),.int .i64 t,.int .i64 c,.int .i64 v,.int .i64 x,.int .i64 y] 26):=b1V0
    by_cases e2:kk=1
    · subst e2
      obtain⟨rfl,hx12,hy40⟩:=h6 (by omega)
      clear h5 h6 h7
      have hW2:=hWh.out
      rw [if_neg (by decide),if_pos (by decide)] at hW2
      replace hWh:=Lib.hid hW2
      clear hW2
      have TC:=TV.ext hxw
      have hS:∀ w',Ext wc w'->∀ i:Nat,w'.cell? ⟨w.heap.size,i,none⟩=(#[.int .i64 a,.int .i64 (((1:Nat):Int)+1),.int .i64 t,.int .i64 c,.int .i64 0,.int .i64 x,.int .i64 y]:Array Value)[i]?:=fun w' hx=>(b1.ext hx).cells
      have hS2:∀ w',Ext V w'->∀ i:Nat,w'.cell? ⟨w.heap.size,i,none⟩=(#[.int .i64 a,.int .i64 (((1:Nat):Int)+1),.int .i64 t,.int .i64 c,.int .i64 0,.int .i64 x,.int .i64 y]:Array Value)[i]?:=fun w' hx=>(b1V.ext hx).cells
      go_upto_region 9 with fail
      have hx:=(Ext.refl wc).drew
      refine wp_region_held_drew (S:=fun w'=>∀ i:Nat,w'.cell? ⟨w.heap.size,i,none⟩=(#[.int .i64 a,.int .i64 (((1:Nat):Int)+1),.int .i64 t,.int .i64 c,.int .i64 0,.int .i64 x,.int .i64 y]:Array Value)[i]?) rfl (hS _ hx) (fun hHeld=>?_)
      refine tkb 0 ?_
      iterate 4
       refine tkn (v:=?_) rfl (by kernel_rfl) (fun _ _ _ h=>h) (by assumption) ?_ ?_
       rotate_left
       · (intro w hSw;(try dsimp only at hSw);go_simp;try with_reducible rfl)
       try simp only [put_pack]
      refine tke ?_
      refine tkb 5 ?_
      iterate 3
       refine tkn (v:=?_) rfl (by kernel_rfl) (fun _ _ _ h=>h) (by assumption) ?_ ?_
       rotate_left
       · (intro w hSw;(try dsimp only at hSw);go_simp;try with_reducible rfl)
       try simp only [put_pack]
      refine tke ?_
      refine wpAnyH_ready (rs:=[4]) (by kernel_rfl) (by simp) ?_
      refine AllReadyH.cons rfl (fun K hKK=>?_) (AllReadyH.nil)
      go_simp
      refine (itoa_e x (by omega) (by omega) _ (TC.ext hx)).mono ?_
      rintro e w5 ⟨rfl,hx5⟩
      replace hx:=hx.trans hx5
      clear hx5
      refine hKK.out _ _ (hS _ hx) (fun hHeld=>?_)
      clear hKK K
      try dsimp only
      refine wpAnyH_ready (rs:=[8]) (by kernel_rfl) (by simp) ?_
      refine AllReadyH.cons rfl (fun K hKK=>?_) (AllReadyH.nil)
      go_simp
      refine (itoa_e y (by omega) (by omega) _ (TC.ext hx)).mono ?_
      rintro e w5 ⟨rfl,hx5⟩
      replace hx:=hx.trans hx5
      clear hx5
      refine hKK.out _ _ (hS _ hx) (fun hHeld=>?_)
      clear hKK K
      try dsimp only
      refine wpAnyH_ready (rs:=[9]) (by kernel_rfl) (by simp) ?_
      refine AllReadyH.cons rfl (fun K hKK=>?_) (AllReadyH.nil)
      go_simp
      have hgr:=fun (W:World) (hW:Ext wc W)=>And.intro ((World.ownsRow.alloc (row_ext hown hW)) (.cells #[.string ⟨(digits x).toArray⟩,.string ⟨(digits y).toArray⟩] 9)) (And.intro ((hxw.trans hW).alloc (.cells #[.string ⟨(digits x).toArray⟩,.string ⟨(digits y).toArray⟩] 9)) (Blk.new W (.cells #[.string ⟨(digits x).toArray⟩,.string ⟨(digits y).toArray⟩] 9)))
      replace hgr:=hgr _ hx
      refine hKK.out _ _ (hS _ (hx.alloc _)) (fun hHeld=>?_)
      clear hKK K
      try dsimp only
      refine wpAnyH_ready (rs:=[10]) (by kernel_rfl) (by simp) ?_
      refine AllReadyH.cons rfl (fun K hKK=>?_) (AllReadyH.nil)
      refine step_oper rfl (oper_append (w0:=V) info_str Tryd.underlying47 rfl (by decide) (by decide) _ _ rfl _ 4 _ [.string ⟨(digits x).toArray⟩,.string ⟨(digits y).toArray⟩] _ 2 2 hgr.2.1 hgr.1 (by rfl) (by rfl) (fun j u hu=>by rw [hgr.2.2.cells j];simpa using hu) rfl (by simp [Value.oneCell']) (by omega) (by omega) ?_)
      intro v' w' ho hxz
      refine hKK.out _ _ (hS2 _ hxz) (fun hHeld=>?_)
      clear hKK K
      try dsimp only
      refine tk 11 (v:=?_) rfl (by kernel_rfl) (fun _ _ _ h=>h) (by assumption) ?_ ?_
      rotate_left
      · (intro w hSw;(try dsimp only at hSw);go_simp;try with_reducible rfl)
      try simp only [put_pack]
      have hoh:=Lib.hid (show w'.ownsRow V.heap.size 9 1 v' 6 (([digits a,kw,digits t,digits c]++[digits x,digits y]).map fun x=>.string ⟨x.toArray⟩) from ho)
      have hmem:∀ z∈[digits a,kw,digits t,digits c]++[digits x,digits y],z.length<=100:=by
       intro z hz
       have g1:=hlen a h2.1 (by omega)
       have g2:=hlen t h3.1 (by omega)
       have g3:=hlen c h4.1 (by omega)
       have g4:=hlen x hx12.1 (by omega)
       have g5:=hlen y hy40.1 (by omega)
       simp only [List.mem_append,List.mem_cons,List.not_mem_nil,or_false] at hz
       rcases hz with (rfl | rfl | rfl | rfl) | rfl | rfl <;> omega
      clear ho
      clear hgr
      refine wpAnyH_done (by kernel_rfl) ?_ _
      go_simp
      obtain⟨b,cp,rfl,q1,q2⟩:=words_row hoh.out (by simp)
      have hJ:=joinW_p b cp _ _ q2 q1 (by simp) (by simp) hmem
      clear q1 q2 hoh
      go_wp2_with fail
      refine hJ.mono ?_
      rintro e w6 ⟨rfl,hx6⟩
      have hf:=Lib.hid (hX.trans (hxz.trans hx6))
      clear hJ hx6
      go_wp2_with fail
      go_ret2
      exact⟨by rw [hWh.out];rfl,hf.out⟩
    · have hW2:=hWh.out
      rw [if_neg (by omega),if_neg (by omega),List.append_nil] at hW2
      replace hWh:=Lib.hid hW2
      clear hW2 h5 h6 h7
      have d1:((kk:Int)+1==3)=false:=by rw [beq_eq_false_iff_ne];omega
      have d2:((kk:Int)+1==2)=false:=by rw [beq_eq_false_iff_ne];omega
      have hoh:=Lib.hid (show wc.ownsRow V.heap.size 9 1 (.slice (some ⟨g,0,none⟩) 4 4) 4 (([digits a,kw,digits t,digits c]).map fun x=>.string ⟨x.toArray⟩) from hown)
      have hxz:=hxw
      have hmem:∀ z∈[digits a,kw,digits t,digits c],z.length<=100:=by
       intro z hz
       have g1:=hlen a h2.1 (by omega)
       have g2:=hlen t h3.1 (by omega)
       have g3:=hlen c h4.1 (by omega)
       simp only [List.mem_cons,List.not_mem_nil,or_false] at hz
       rcases hz with rfl | rfl | rfl | rfl <;> omega
      clear hown hxw e2 e3 h1 hkk
      obtain⟨b,cp,hbe,q1,q2⟩:=words_row hoh.out (by simp)
      obtain⟨rfl,rfl⟩:b=g/\cp=4:=by cases hbe;exact⟨rfl,rfl⟩
      clear hbe
      have hJ:=joinW_p _ _ _ _ q2 q1 (by simp) (by simp) hmem
      clear q1 q2 hoh
      go_wp2_with fail
      refine hJ.mono ?_
      rintro e w6 ⟨rfl,hx6⟩
      have hf:=Lib.hid (hX.trans (hxz.trans hx6))
      clear hJ hx6
      go_wp2_with fail
      go_ret2
      exact⟨by rw [hWh.out];rfl,hf.out⟩
end Go.Proofs.YtchahoiainbcaaaDoor
