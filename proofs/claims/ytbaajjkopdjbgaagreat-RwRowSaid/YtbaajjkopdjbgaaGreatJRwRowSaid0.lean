/-
  RwRowSaid: part 0 of its proof.
-/
import Derived.Lib.ItoaNum
import Derived.Lib.BitFns
import Derived.Test.YtbaajjkopdjbgaaGreatProg
import Derived.WalkKit
import Derived.WalkLawsBesides
import Derived.WalkSpells
import Derived.Lib.MinMax
import Derived.Lib.Hide
import Derived.Deep.QuietTactic
import Derived.BigQuiet
import Derived.RegionTactic
import Derived.Deep.RegionWith
import Derived.Deep.LoopGhost
import Derived.ShutString
import Derived.Laws.FloatArith
import Derived.Laws.ComplexArith
import Derived.WalkSmall
import Derived.Lib.AppendIntMem
import Derived.Shelf.Strconv.Itoa0
import Derived.Shelf.Slices.Reverse
import Derived.Ground.Names2Prog
import Derived.Shelf.Slices.Clone
import Derived.Shelf.Slices.Cells
import Derived.Ground.SlgnProg
import Derived.Shelf.SlicesE.Reverse
import Derived.Shelf.SlicesE.Clone
import Derived.Lib.LaidTab
import Derived.Maps.AppendAt
import Derived.OneCell
import Derived.Deep.RegionLaw
import Derived.Deep.AppendLies
import Derived.Laws.AppendOwn
import Derived.OwnWalk
import Derived.WalkMore
import Derived.ScopeJumps
import Derived.Deep.RegionHeld2
open Go.Value renaming int -> V
open Go.IntKind renaming i64 -> Z
theorem Go.Hd {p : Prop} (h : p) : Go.RowKit.Hid p := Go.Lib.hid h
namespace Kv
def within (n lo hi:Int):Int:=if n<lo then lo else if hi<n then hi else n
def clamp (n top:Int):Int:=within n 0 (within top 0 1099511627776)
def room (top:Int):Int:=within top 0 1048576
def packI (hi lo top:Int):Int:=room hi*(room top+1)+within lo 0 (room top)
def unX (x:Int):Int:=within x 0 4398046511104
def unHi (x top:Int):Int:=unX x / (room top+1)
def unLo (x top:Int):Int:=unX x % (room top+1)
theorem within_bd (n lo hi:Int)(h:lo<=hi):lo<=within n lo hi/\within n lo hi<=hi:=by unfold within;omega
theorem room_bd (top:Int):0<=room top/\room top<=1048576:=by unfold room within;omega
theorem clamp_eq (n top:Int)(h:0<=top)(h':top<=1099511627776):clamp n top=within n 0 top:=by unfold clamp within;omega
theorem clamp_room (n:Int):clamp n 1048576=room n:=by unfold clamp room within;omega
theorem clamp_of_room (n top:Int):clamp n (room top)=within n 0 (room top):=clamp_eq _ _ (room_bd top).1 (by have:=(room_bd top).2;omega)
theorem unX_bd (x:Int):0<=unX x/\unX x<=4398046511104:=by unfold unX within;omega
def levelsFrom (n:Nat):Nat->Nat->Nat
 | 0,_=>0
 | f+1,p=>if p<n then levelsFrom n f (2*p)+1 else 0
def levels (n:Int):Nat:=levelsFrom n.toNat 64 1
theorem levelsFrom_scale:∀ (f n p:Nat),levelsFrom (n+1) f (2*p)=levelsFrom (n / 2+1) f p
 | 0,_,_=>rfl
 | f+1,n,p=>by
   simp only [levelsFrom]
   have h:(2*p<n+1)=(p<n / 2+1):=by apply propext;omega
   have ih:=levelsFrom_scale f n (2*p)
   by_cases hp:p<n / 2+1
   · rw [if_pos hp,if_pos (by rw [h];exact hp),ih]
   · rw [if_neg hp,if_neg (by rw [h];exact hp)]
theorem levelsFrom_bitLen:∀ (f n:Nat),levelsFrom (n+1) f 1=Go.Lib.bitLenAux f n
 | 0,_=>rfl
 | f+1,n=>by
   simp only [levelsFrom,Go.Lib.bitLenAux]
   by_cases h:n=0
   · subst h;simp
   · rw [if_pos (by omega),if_neg h]
     have h2:=levelsFrom_scale f n 1
     rw [h2,levelsFrom_bitLen f (n / 2),Nat.add_comm]
theorem levels_bitLen (n:Int)(h:1<n):(levels n)=Go.Lib.bitLen (n-1).toNat:=by
 unfold levels Go.Lib.bitLen
 have:=levelsFrom_bitLen 64 (n-1).toNat
 rw [<- this]
 congr 1
 omega
theorem levels_small (n:Int)(h:n<=1):levels n=0:=by
 show (if 1<n.toNat then _ else 0)=0
 rw [if_neg (by omega)]
end Kv
namespace Go.Proofs.YtbaajjkopdjbgaaGreat
open Go.RowKit Kv
@[go_sem high] theorem run_min_ints3 {P:Program} (w:World) (ts:Array TypeId) (t:TypeId) (k k' k'':IntKind) (x y z:Int) :
  (Builtin.min_ ts t #[.int k x,.int k' y,.int k'' z]).run P w=.ok (.int k (min (min x y) z)) w:=by
 have e:∀ a b:Int,(if b<a then b else a)=min a b:=by intro a b;rw [Int.min_def];split <;> split <;> omega
 simp [Builtin.min_,Builtin.min2,e]
theorem ret_int {k:IntKind}{a b:Int}(h:a=b):Ending.returned (.int k a)=.returned (.int k b):=by rw [h]
theorem ret_bool {a b:Bool}(h:a=b):Ending.returned (.bool a)=.returned (.bool b):=by rw [h]
theorem w64 (x:Int)(h:-9223372036854775808<=x)(h':x<=9223372036854775807):wrap64 x=x:=by unfold wrap64;omega
def Drew (w w':World):Prop:=∃ n,w'=w.drewN n
theorem Drew.mk' (w:World)(n:Nat):Drew w (w.drewN n):=⟨n,rfl⟩
theorem Drew.trans {a b c:World}(h:Drew a b)(k:Drew b c):Drew a c:=by
 obtain⟨n,rfl⟩:=h
 obtain⟨m,rfl⟩:=k
 exact⟨n+m,by simp⟩
theorem Drew.below {w w':World}(B:Nat)(h:Drew w w'):Below B w w':=by
 obtain⟨n,rfl⟩:=h
 exact⟨rfl,rfl,rfl,Nat.le_refl _,fun _ _=>rfl⟩
end Go.Proofs.YtbaajjkopdjbgaaGreat
namespace Kv
open Ieee
def eU:Nat:=1074
theorem eU_eq:eU=1074:=rfl
def U:Nat:=2 ^ eU
theorem U_split (a b:Nat)(h:a+b=1074):2 ^ a*2 ^ b=U:=by
 unfold U;rw [eU_eq,<- h,Nat.pow_add]
theorem U_pos:0<U:=Nat.two_pow_pos eU
abbrev D:Format:=Ieee.double
theorem D_binade:D.binade=4503599627370496:=rfl
theorem D_sign:D.signWeight=9223372036854775808:=rfl
theorem D_least:D.leastPlace=-1074:=rfl
theorem D_inf:D.infRung=9218868437227405312:=rfl
theorem D_frac:D.fractionBits=52:=rfl
theorem signed_pow (s:Bool)(m u k:Nat):signed s m (u+k)=signed s m u*(2 ^ k:Nat):=by
 unfold signed
 rw [Nat.shiftLeft_eq,Nat.shiftLeft_eq,Nat.pow_add,<- Nat.mul_assoc]
 split
 · rw [Int.natCast_mul,Int.neg_mul]
 · rw [Int.natCast_mul]
def Num (x:Nat) (v:Int):Prop:=∃ s m p,D.read x=.number s m p/\-1074<=p/\m<9007199254740992/\signed s m (p+1074).toNat=v
theorem read_number {x:Nat}{s:Bool}{m:Nat}{p:Int}(h:D.read x=.number s m p):-1074<=p/\m<9007199254740992:=by
 unfold Format.read at h
 rw [D_binade,D_sign,D_least,D_inf] at h
 dsimp only at h
 split at h
 · injection h with h1 h2 h3
   omega
 · split at h
   · injection h with h1 h2 h3
     omega
   · split at h <;> cases h
theorem num_of {x:Nat}{s:Bool}{m:Nat}{p:Int}(h:D.read x=.number s m p):Num x (signed s m (p+1074).toNat) :=
 ⟨s,m,p,h,(read_number h).1,(read_number h).2,rfl⟩
theorem compare_mul (a b k:Int)(hk:0<k):compare (a*k) (b*k)=compare a b:=by
 rcases Int.lt_trichotomy a b with h | h | h
 · rw [Int.compare_eq_lt.2 h,Int.compare_eq_lt.2 (Int.mul_lt_mul_of_pos_right h hk)]
 · subst h;rw [Int.compare_eq_eq.2 rfl,Int.compare_eq_eq.2 rfl]
 · rw [Int.compare_eq_gt.2 h,Int.compare_eq_gt.2 (Int.mul_lt_mul_of_pos_right h hk)]
theorem order_num {x y:Nat}{a b:Int}(hx:Num x a)(hy:Num y b):D.order x y=some (compare a b):=by
 obtain⟨s,m,p,h1,h2,_,rfl⟩:=hx
 obtain⟨t,n,q,k1,k2,_,rfl⟩:=hy
 unfold Format.order
 rw [h1,k1]
 show some (compare (signed s m (p-min p q).toNat) (signed t n (q-min p q).toNat))=_
 have e1:(p+1074).toNat=(p-min p q).toNat+(min p q+1074).toNat:=by omega
 have e2:(q+1074).toNat=(q-min p q).toNat+(min p q+1074).toNat:=by omega
 rw [e1,e2,signed_pow,signed_pow,compare_mul]
 have:=Nat.two_pow_pos (min p q+1074).toNat
 omega
theorem log2_mul_pow (m k:Nat)(hm:m≠0):(m*2 ^ k).log2=m.log2+k:=by
 have hp:=Nat.two_pow_pos k
 have h1:=Nat.log2_self_le hm
 have h2:=Nat.lt_log2_self (n:=m)
 rw [Nat.log2_eq_iff (by have:=Nat.mul_pos (Nat.pos_of_ne_zero hm) hp;omega)]
 constructor
 · rw [Nat.pow_add];exact Nat.mul_le_mul_right _ h1
 · rw [show m.log2+k+1=(m.log2+1)+k from by omega,Nat.pow_add 2 (m.log2+1) k]
   exact Nat.mul_lt_mul_of_pos_right h2 hp
def rungOf (N:Nat):Nat:=(N.log2+1022)*4503599627370496+N*2 ^ (52-N.log2)
theorem log2_le52 {N:Nat}(h0:N≠0)(h:N<9007199254740992):N.log2<=52:=by
 have:N.log2<53:=(Nat.log2_lt h0).2 (by simpa using h)
 omega
theorem kept_bounds {N:Nat}(h0:N≠0)(h:N<9007199254740992):4503599627370496<=N*2 ^ (52-N.log2)/\N*2 ^ (52-N.log2)<9007199254740992:=by
 have hL:=log2_le52 h0 h
 have h1:=Nat.log2_self_le h0
 have h2:=Nat.lt_log2_self (n:=N)
 have hp:=Nat.two_pow_pos (52-N.log2)
 constructor
 · have:2 ^ N.log2*2 ^ (52-N.log2)<=N*2 ^ (52-N.log2):=Nat.mul_le_mul_right _ h1
   rw [<- Nat.pow_add,show N.log2+(52-N.log2)=52 from by omega] at this
   simpa using this
 · have:N*2 ^ (52-N.log2)<2 ^ (N.log2+1)*2 ^ (52-N.log2):=Nat.mul_lt_mul_of_pos_right h2 hp
   rw [<- Nat.pow_add,show N.log2+1+(52-N.log2)=53 from by omega] at this
   simpa using this
theorem cut_zero (neg:Bool)(n:Nat):Toward.even.cut neg n 0=n:=by
 unfold Toward.cut
 simp [Nat.mod_one]
theorem cut_exact (neg:Bool)(K drop:Nat)(hK:K≠0):Toward.even.cut neg (K*2 ^ drop) drop=K:=by
 unfold Toward.cut
 have hm:min drop ((K*2 ^ drop).log2+2)=drop:=by rw [log2_mul_pow _ _ hK];omega
 have hp:=Nat.two_pow_pos drop
 simp only [hm,Nat.one_shiftLeft,Nat.mul_div_cancel _ hp,Nat.mul_mod_left]
 have h1:decide (2 ^ drop<2*0)=false:=by simp
 have h2:(2 ^ drop==2*0)=false:=by rw [beq_eq_false_iff_ne];omega
 rw [h1,h2]
 rfl
theorem nearest_whole (neg:Bool)(mag:Nat)(place:Int)(N:Nat)(hp:-1074<=place)(h0:N≠0)(hN:N<9007199254740992)(h:mag*2 ^ (place+1074).toNat=N*U) :
  D.nearest neg mag place=D.word neg (rungOf N):=by
 have hL:=log2_le52 h0 hN
 have hm0:mag≠0:=by
  rintro rfl
  rw [Nat.zero_mul] at h
  have:=Nat.mul_pos (Nat.pos_of_ne_zero h0) U_pos
  omega
 have hlog:(mag.log2:Int)+place=N.log2:=by
  have e1:=log2_mul_pow mag (place+1074).toNat hm0
  have e2:=log2_mul_pow N eU h0
  rw [h] at e1
  have e3:N*U=N*2 ^ eU:=rfl
  rw [e3,e2,eU_eq] at e1
  omega
 have hlast:max (place+mag.log2-(D.fractionBits:Int)) D.leastPlace=(N.log2:Int)-52:=by rw [D_frac,D_least];omega
 have hkept:Toward.even.cut neg (mag <<< (place-((N.log2:Int)-52)).toNat) (((N.log2:Int)-52)-place).toNat=N*2 ^ (52-N.log2):=by
  rw [Nat.shiftLeft_eq]
  by_cases hc:(N.log2:Int)-52<=place
  · rw [show (((N.log2:Int)-52)-place).toNat=0 from by omega,cut_zero]
    have hq:=Nat.two_pow_pos (N.log2+1022)
    refine Nat.eq_of_mul_eq_mul_right hq ?_
    rw [Nat.mul_assoc,<- Nat.pow_add,Nat.mul_assoc,U_split _ _ (by omega),<- h]
    congr 2
    omega
  · rw [show (place-((N.log2:Int)-52)).toNat=0 from by omega,Nat.pow_zero,Nat.mul_one]
    have hmag:mag=N*2 ^ (52-N.log2)*2 ^ (((N.log2:Int)-52)-place).toNat:=by
     have hq:=Nat.two_pow_pos (place+1074).toNat
     refine Nat.eq_of_mul_eq_mul_right hq ?_
     rw [Nat.mul_assoc,Nat.mul_assoc,<- Nat.pow_add,U_split _ _ (by omega),h]
    have hK:N*2 ^ (52-N.log2)≠0:=by have:=(kept_bounds h0 hN).1;omega
    rw [hmag,cut_exact _ _ _ hK]
 unfold Format.nearest
 rw [if_neg hm0]
 simp only [hlast]
 rw [hkept]
 congr 1
 have hb:=(kept_bounds h0 hN).2
 rw [D_least,D_binade,D_inf,show ((N.log2:Int)-52 - -1074).toNat=N.log2+1022 from by omega]
 unfold rungOf
 have:(N.log2+1022)*4503599627370496<=1074*4503599627370496:=Nat.mul_le_mul_right _ (by omega)
 omega
theorem word_sign (neg:Bool)(r:Nat)(h:r<9223372036854775808):(D.word neg r / 9223372036854775808 % 2==1)=neg/\D.word neg r % 9223372036854775808=r:=by
 unfold Format.word
 rw [D_sign]
 cases neg
 · simp
   omega
 · simp
   omega
theorem num_word (neg:Bool)(N:Nat)(h0:N≠0)(hN:N<9007199254740992):Num (D.word neg (rungOf N)) (signed neg N 0*U):=by
 have hL:=log2_le52 h0 hN
 obtain⟨hb1,hb2⟩:=kept_bounds h0 hN
 have hr:D.read (D.word neg (rungOf N))=.number neg (N*2 ^ (52-N.log2)) ((N.log2:Int)-52):=by
  have hlt:rungOf N<9218868437227405312:=by
   unfold rungOf
   have:(N.log2+1022)*4503599627370496<=1074*4503599627370496:=Nat.mul_le_mul_right _ (by omega)
   omega
  obtain⟨w1,w2⟩:=word_sign neg (rungOf N) (by omega)
  unfold Format.read
  rw [D_sign,D_binade,D_inf,D_least]
  simp only [w1,w2]
  have hge:4503599627370496<=rungOf N:=by unfold rungOf;omega
  rw [if_neg (by omega),if_pos hlt]
  have hdiv:rungOf N / 4503599627370496=N.log2+1023:=by unfold rungOf;omega
  have hmod:rungOf N % 4503599627370496=N*2 ^ (52-N.log2)-4503599627370496:=by unfold rungOf;omega
  rw [hdiv,hmod]
  rw [show 4503599627370496+(N*2 ^ (52-N.log2)-4503599627370496)=N*2 ^ (52-N.log2) from by omega,show (-1074:Int)+((N.log2+1023-1:Nat):Int)=(N.log2:Int)-52 from by omega]
 refine⟨neg,_,_,hr,by omega,hb2,?_⟩
 unfold signed
 have e:(N*2 ^ (52-N.log2)) <<< ((N.log2:Int)-52+1074).toNat=N*U:=by
  rw [Nat.shiftLeft_eq,Nat.mul_assoc,U_split _ _ (by omega)]
 rw [e,Nat.shiftLeft_zero]
 split
 · rw [Int.natCast_mul,Int.neg_mul]
 · rw [Int.natCast_mul]
theorem num_zero (neg:Bool):Num (D.word neg 0) 0:=by
 obtain⟨w1,w2⟩:=word_sign neg 0 (by omega)
 have hr:D.read (D.word neg 0)=.number neg 0 (-1074):=by
  unfold Format.read
  rw [D_sign,D_binade,D_inf,D_least]
  dsimp only
  rw [w1,w2,if_pos (by omega)]
 refine⟨neg,0,-1074,hr,by omega,by omega,?_⟩
 unfold signed
 simp
theorem num_nearest (neg:Bool)(mag:Nat)(place:Int)(v:Int)(hp:-1074<=place)(h1:-9007199254740992<v)(h2:v<9007199254740992)(h:signed neg mag (place+1074).toNat=v*U) :
  Num (D.nearest neg mag place) (v*U):=by
 have hU:=U_pos
 by_cases hm:mag=0
 · subst hm
   have hv:v*U=0:=by rw [<- h];unfold signed;simp
   rw [hv]
   unfold Format.nearest
   rw [if_pos rfl]
   exact num_zero neg
 · unfold signed at h
   rw [Nat.shiftLeft_eq] at h
   have hmp:=Nat.mul_pos (Nat.pos_of_ne_zero hm) (Nat.two_pow_pos (place+1074).toNat)
   have hN:mag*2 ^ (place+1074).toNat=v.natAbs*U/\signed neg v.natAbs 0=v:=by
    cases neg
    · simp only [Bool.false_eq_true,if_false] at h
      have hv:0<v:=by
       refine Decidable.byContradiction fun hn=>?_
       have:=Int.mul_le_mul_of_nonneg_right (show v<=0 from by omega) (show (0:Int)<=(U:Int) from by omega)
       omega
      have e:v=(v.natAbs:Int):=by omega
      refine⟨?_,?_⟩
      · rw [e,<- Int.natCast_mul] at h
        simpa using Int.ofNat.inj h
      · unfold signed;simp;omega
    · simp only [if_true] at h
      have hv:v<0:=by
       refine Decidable.byContradiction fun hn=>?_
       have:=Int.mul_nonneg (show 0<=v from by omega) (show (0:Int)<=(U:Int) from by omega)
       omega
      have e:v=-(v.natAbs:Int):=by omega
      refine⟨?_,?_⟩
      · rw [e,Int.neg_mul,<- Int.natCast_mul] at h
        have h':=Int.neg_inj.1 h
        simpa using Int.ofNat.inj h'
      · unfold signed;simp;omega
   have h0:v.natAbs≠0:=by
    intro e;rw [e,Nat.zero_mul] at hN;omega
   rw [nearest_whole neg mag place v.natAbs hp h0 (by omega) hN.1]
   have:=num_word neg v.natAbs h0 (by omega)
   rw [hN.2] at this
   exact this
def DNum (d:Datum) (v:Int):Prop:=∃ s m p,d=.number s m p/\-1074<=p/\m<9007199254740992/\signed s m (p+1074).toNat=v
theorem Num.d {x:Nat}{v:Int}(h:Num x v):DNum (D.read x) v:=h
theorem signed_zero_mag (s:Bool)(k:Nat):signed s 0 k=0:=by unfold signed;simp
theorem signed_abs (t:Int)(s:Bool)(hs:t≠0->s=decide (t<0))(k:Nat):signed s t.natAbs k=t*(2 ^ k:Nat):=by
 by_cases h0:t=0
 · subst h0;rw [Int.natAbs_zero,signed_zero_mag,Int.zero_mul]
 · rw [hs h0]
   unfold signed
   rw [Nat.shiftLeft_eq,Int.natCast_mul]
   by_cases h:t<0
   · rw [decide_eq_true h,if_pos rfl,<- Int.neg_mul]
     congr 1
     omega
   · rw [decide_eq_false h,if_neg (by simp)]
     congr 1
     omega
theorem sum_dnum {d e:Datum}{u v:Int}(hd:DNum d (u*U))(he:DNum e (v*U))(h1:-9007199254740992<u+v)(h2:u+v<9007199254740992) :
  ∃ r,(d.sum e).map D.write=some r/\Num r ((u+v)*U):=by
 obtain⟨s,m,p,rfl,a1,a2,a3⟩:=hd
 obtain⟨t,n,q,rfl,b1,b2,b3⟩:=he
 refine⟨_,rfl,?_⟩
 show Num (D.nearest (if signed s m (p-min p q).toNat+signed t n (q-min p q).toNat=0 then s&&t else decide (signed s m (p-min p q).toNat+signed t n (q-min p q).toNat<0)) (signed s m (p-min p q).toNat+signed t n (q-min p q).toNat).natAbs (min p q)) _
 refine num_nearest _ _ _ _ (by omega) h1 h2 ?_
 have e1:(p+1074).toNat=(p-min p q).toNat+(min p q+1074).toNat:=by omega
 have e2:(q+1074).toNat=(q-min p q).toNat+(min p q+1074).toNat:=by omega
 rw [e1,signed_pow] at a3
 rw [e2,signed_pow] at b3
 rw [signed_abs _ _ (fun h=>by rw [if_neg h]),Int.add_mul,Int.add_mul,a3,b3]
theorem add_num {x y:Nat}{u v:Int}(hx:Num x (u*U))(hy:Num y (v*U))(h1:-9007199254740992<u+v)(h2:u+v<9007199254740992) :
  ∃ r,D.add x y=some r/\Num r ((u+v)*U):=sum_dnum hx.d hy.d h1 h2
theorem floatOfInt_eq (n:Int):Go.floatOfInt .f64 n=D.nearest (decide (n<0)) n.natAbs 0:=rfl
theorem num_F (n:Int)(h1:-9007199254740992<n)(h2:n<9007199254740992):Num (Go.floatOfInt .f64 n) (n*U):=by
 rw [floatOfInt_eq]
 refine num_nearest (decide (n<0)) n.natAbs 0 n (by omega) h1 h2 ?_
 rw [signed_abs _ _ (fun _=>rfl),show ((0:Int)+1074).toNat=eU from rfl]
 rfl
theorem toInt_num {x:Nat}{v:Int}(h:Num x v):(D.read x).toInt .zero=some (v.tdiv (U:Int)):=by
 obtain⟨s,m,p,h1,h2,h3,rfl⟩:=h
 rw [h1]
 show some (signed s (Toward.zero.cut s (m <<< p.toNat) (-p).toNat) 0)=_
 congr 1
 have hcut:Toward.zero.cut s (m <<< p.toNat) (-p).toNat=m*2 ^ (p+1074).toNat / U:=by
  unfold Toward.cut
  simp only [Bool.toNat_false,Nat.add_zero]
  rw [Nat.one_shiftLeft,Nat.shiftLeft_eq]
  by_cases hp:0<=p
  · rw [show (-p).toNat=0 from by omega,Nat.zero_min,Nat.pow_zero,Nat.div_one]
    have e:2 ^ (p+1074).toNat=2 ^ p.toNat*U:=by
     rw [show (p+1074).toNat=p.toNat+eU from by rw [eU_eq];omega,Nat.pow_add]
     rfl
    rw [e,<- Nat.mul_assoc,Nat.mul_div_cancel _ U_pos]
  · rw [show p.toNat=0 from by omega,Nat.pow_zero,Nat.mul_one]
    have e:=U_split (-p).toNat (p+1074).toNat (by omega)
    rw [<- e,Nat.mul_div_mul_right _ _ (Nat.two_pow_pos _)]
    by_cases hd:(-p).toNat<=m.log2+2
    · rw [Nat.min_eq_left hd]
    · rw [Nat.min_eq_right (by omega)]
      have hm:=Nat.lt_log2_self (n:=m)
      have q1:m<2 ^ (m.log2+2):=Nat.lt_of_lt_of_le hm (Nat.pow_le_pow_right (by omega) (by omega))
      have q2:m<2 ^ (-p).toNat:=Nat.lt_of_lt_of_le hm (Nat.pow_le_pow_right (by omega) (by omega))
      rw [Nat.div_eq_of_lt q1,Nat.div_eq_of_lt q2]
 rw [hcut]
 unfold signed
 rw [Nat.shiftLeft_zero,Nat.shiftLeft_eq]
 cases s
 · simp only [Bool.false_eq_true,if_false]
   rw [Int.ofNat_tdiv]
 · simp only [if_true]
   rw [Int.neg_tdiv,Int.ofNat_tdiv]
theorem leqB {x y:Nat}{a b:Int}(hx:Num x a)(hy:Num y b):(Go.FloatKind.f64.format.order x y==some Ordering.lt||Go.FloatKind.f64.format.order x y==some Ordering.eq)=decide (a<=b):=by
 have h:Go.FloatKind.f64.format.order x y=some (compare a b):=order_num hx hy
 rw [h]
 rcases Int.lt_trichotomy a b with h | h | h
 · rw [Int.compare_eq_lt.2 h,decide_eq_true (by omega)];rfl
 · subst h;rw [Int.compare_eq_eq.2 rfl,decide_eq_true (by omega)];rfl
 · rw [Int.compare_eq_gt.2 h,decide_eq_false (by omega)];rfl
theorem geqB {x y:Nat}{a b:Int}(hx:Num x a)(hy:Num y b):(Go.FloatKind.f64.format.order x y==some Ordering.gt||Go.FloatKind.f64.format.order x y==some Ordering.eq)=decide (b<=a):=by
 have h:Go.FloatKind.f64.format.order x y=some (compare a b):=order_num hx hy
 rw [h]
 rcases Int.lt_trichotomy a b with h | h | h
 · rw [Int.compare_eq_lt.2 h,decide_eq_false (by omega)];rfl
 · subst h;rw [Int.compare_eq_eq.2 rfl,decide_eq_true (by omega)];rfl
 · rw [Int.compare_eq_gt.2 h,decide_eq_true (by omega)];rfl
theorem eqB {x y:Nat}{a b:Int}(hx:Num x a)(hy:Num y b):(Go.FloatKind.f64.format.order x y==some Ordering.eq)=decide (a=b):=by
 have h:Go.FloatKind.f64.format.order x y=some (compare a b):=order_num hx hy
 rw [h]
 rcases Int.lt_trichotomy a b with h | h | h
 · rw [Int.compare_eq_lt.2 h,decide_eq_false (by omega)];rfl
 · subst h;rw [Int.compare_eq_eq.2 rfl,decide_eq_true (by omega)];rfl
 · rw [Int.compare_eq_gt.2 h,decide_eq_false (by omega)];rfl
theorem cLo:Go.floatOfInt .f64 (-1048576)=13920626448202203136:=by decide +kernel
theorem cHi:Go.floatOfInt .f64 1048576=4697254411347427328:=by decide +kernel
theorem num_lo:Num 13920626448202203136 (-1048576*U):=by rw [<- cLo];exact num_F _ (by omega) (by omega)
theorem num_hi:Num 4697254411347427328 (1048576*U):=by rw [<- cHi];exact num_F _ (by omega) (by omega)
def partOf (x:Nat):Option Int :=
 match D.read x with
 | .number s m p=>if signed s m (p+1074).toNat % (U:Int)=0/\-1048576*(U:Int)<=signed s m (p+1074).toNat/\signed s m (p+1074).toNat<=1048576*(U:Int) then some (signed s m (p+1074).toNat / (U:Int)) else none
 | _=>none
theorem partOf_num {x:Nat}{v:Int}(h:Num x v):partOf x=if v % (U:Int)=0/\-1048576*(U:Int)<=v/\v<=1048576*(U:Int) then some (v / (U:Int)) else none:=by
 obtain⟨s,m,p,h1,_,_,rfl⟩:=h
 unfold partOf
 rw [h1]
theorem Ui_pos:(0:Int)<(U:Int):=by have:=U_pos;omega
theorem le_of_mulU {a b:Int}(h:a*(U:Int)<=b*(U:Int)):a<=b:=Int.le_of_mul_le_mul_right h Ui_pos
theorem lt_of_mulU {a b:Int}(h:a*(U:Int)<b*(U:Int)):a<b:=Int.lt_of_mul_lt_mul_right h (by have:=Ui_pos;omega)
theorem mulU_le {a b:Int}(h:a<=b):a*(U:Int)<=b*(U:Int):=Int.mul_le_mul_of_nonneg_right h (by have:=Ui_pos;omega)
theorem decU_le (a b:Int):decide (a*(U:Int)<=b*(U:Int))=decide (a<=b):=by
 rw [decide_eq_decide];exact⟨le_of_mulU,mulU_le⟩
theorem partOf_whole {x:Nat}{n:Int}(h:Num x (n*U))(h1:-1048576<=n)(h2:n<=1048576):partOf x=some n:=by
 rw [partOf_num h,if_pos ⟨Int.mul_emod_left _ _,mulU_le h1,mulU_le h2⟩,Int.mul_ediv_cancel _ (by have:=Ui_pos;omega)]
inductive Cls (x:Nat):Prop
 | whole (n:Int) (h:Num x (n*U)) (h1:-1048576<=n) (h2:n<=1048576) (hp:partOf x=some n)
 | broken (v:Int) (h:Num x v) (h1:-1048576*(U:Int)<=v) (h2:v<=1048576*(U:Int)) (h3:v % (U:Int)≠0) (hp:partOf x=none)
 | low (h:Go.FloatKind.f64.format.order x 13920626448202203136=some Ordering.lt) (h2:Go.FloatKind.f64.format.order x x=some Ordering.eq) (hp:partOf x=none)
 | high (h:Go.FloatKind.f64.format.order x 13920626448202203136=some Ordering.gt) (h1:Go.FloatKind.f64.format.order x 4697254411347427328=some Ordering.gt) (h2:Go.FloatKind.f64.format.order x x=some Ordering.eq) (hp:partOf x=none)
 | nan (h:∀ y,Go.FloatKind.f64.format.order x y=none) (hp:partOf x=none)
theorem cls_of (x:Nat):Cls x:=by
 have hU:=Ui_pos
 cases hr:D.read x with
 | number s m p =>
   have hn:=num_of hr
   generalize signed s m (p+1074).toNat=v at hn
   by_cases h1:v < -1048576*(U:Int)
   · refine .low ?_ ?_ ?_
     · show D.order _ _=_
       rw [order_num hn num_lo,Int.compare_eq_lt.2 h1]
     · show D.order _ _=_
       rw [order_num hn hn,Int.compare_eq_eq.2 rfl]
     · rw [partOf_num hn,if_neg (by omega)]
   · by_cases h2:1048576*(U:Int)<v
     · refine .high ?_ ?_ ?_ ?_
       · show D.order _ _=_
         rw [order_num hn num_lo,Int.compare_eq_gt.2 (by omega)]
       · show D.order _ _=_
         rw [order_num hn num_hi,Int.compare_eq_gt.2 h2]
       · show D.order _ _=_
         rw [order_num hn hn,Int.compare_eq_eq.2 rfl]
       · rw [partOf_num hn,if_neg (by omega)]
     · by_cases h3:v % (U:Int)=0
       · have e:v=v / (U:Int)*(U:Int):=by
          have:=Int.mul_ediv_add_emod v U
          rw [h3,Int.add_zero,Int.mul_comm] at this
          exact this.symm
         rw [e] at hn h1 h2
         have q1:-1048576<=v / (U:Int):=le_of_mulU (by omega)
         have q2:v / (U:Int)<=1048576:=le_of_mulU (by omega)
         exact .whole _ hn q1 q2 (partOf_whole hn q1 q2)
       · exact .broken v hn (by omega) (by omega) h3 (by rw [partOf_num hn,if_neg (by omega)])
 | infinity s =>
   have hl:D.read 13920626448202203136=.number true 4503599627370496 (-32):=by decide +kernel
   have hh:D.read 4697254411347427328=.number false 4503599627370496 (-32):=by decide +kernel
   have hp:partOf x=none:=by unfold partOf;rw [hr]
   have hxx:Go.FloatKind.f64.format.order x x=some Ordering.eq:=by
    show (D.read x).order (D.read x)=_
    rw [hr]
    cases s <;> rfl
   cases s
   · refine .high ?_ ?_ hxx hp
     · show (D.read x).order (D.read _)=_
       rw [hr,hl];rfl
     · show (D.read x).order (D.read _)=_
       rw [hr,hh];rfl
   · refine .low ?_ hxx hp
     show (D.read x).order (D.read _)=_
     rw [hr,hl];rfl
 | nan s t =>
   refine .nan (fun y=>?_) (by unfold partOf;rw [hr])
   show (D.read x).order (D.read y)=_
   rw [hr];rfl
theorem partOf_some {x:Nat}{n:Int}(h:partOf x=some n):Num x (n*U)/\-1048576<=n/\n<=1048576:=by
 cases cls_of x with
 | whole m hm h1 h2 hp=>rw [hp] at h;cases h;exact⟨hm,h1,h2⟩
 | broken _ _ _ _ _ hp=>rw [hp] at h;cases h
 | low _ _ hp=>rw [hp] at h;cases h
 | high _ _ _ hp=>rw [hp] at h;cases h
 | nan _ hp=>rw [hp] at h;cases h
theorem broken_cut {v:Int}(h1:-1048576*(U:Int)<=v)(h2:v<=1048576*(U:Int)):-1048576<=v.tdiv U/\v.tdiv U<=1048576:=by
 have hU:=Ui_pos
 have a1:=Int.mul_tdiv_add_tmod v U
 have a2:-(U:Int)<v.tmod U:=Int.lt_tmod_of_pos _ hU
 have a3:v.tmod U<(U:Int):=Int.tmod_lt_of_pos _ hU
 rw [Int.mul_comm] at a1
 constructor
 · have:-1048577*(U:Int)<v.tdiv U*(U:Int):=by omega
   have:=lt_of_mulU this
   omega
 · have:v.tdiv U*(U:Int)<1048577*(U:Int):=by omega
   have:=lt_of_mulU this
   omega
theorem broken_ne {v:Int}(n:Int)(h3:v % (U:Int)≠0):n*(U:Int)≠v:=by
 rintro rfl
 exact h3 (Int.mul_emod_left _ _)
theorem toInt_whole {x:Nat}{n:Int}(h:Num x (n*U))(h1:-1048576<=n)(h2:n<=1048576):Go.floatToIntVal .f64 x .i64=some n:=by
 have e:Go.FloatKind.f64.decode x=D.read x:=rfl
 unfold Go.floatToIntVal
 rw [e,toInt_num h,Int.mul_tdiv_cancel _ (by have:=Ui_pos;omega)]
 have:Go.IntKind.i64.min=-9223372036854775808:=rfl
 have:Go.IntKind.i64.max=9223372036854775807:=rfl
 dsimp only
 rw [if_pos (by omega)]
theorem toInt_broken {x:Nat}{v:Int}(h:Num x v)(h1:-1048576*(U:Int)<=v)(h2:v<=1048576*(U:Int)):Go.floatToIntVal .f64 x .i64=some (v.tdiv U):=by
 have e:Go.FloatKind.f64.decode x=D.read x:=rfl
 obtain⟨q1,q2⟩:=broken_cut h1 h2
 unfold Go.floatToIntVal
 rw [e,toInt_num h]
 have:Go.IntKind.i64.min=-9223372036854775808:=rfl
 have:Go.IntKind.i64.max=9223372036854775807:=rfl
 dsimp only
 rw [if_pos (by omega)]
end Kv
namespace Go.Proofs.YtbaajjkopdjbgaaGreat
open Go.RowKit Kv
def Ext (w w':World):Prop:=Below w.heap.size w w'
theorem Ext.refl (w:World):Ext w w:=Below.refl _ _
theorem Ext.size {w w':World}(h:Ext w w'):w.heap.size<=w'.heap.size:=Below.size h
theorem Ext.trans {a b c:World}(h:Ext a b)(k:Ext b c):Ext a c:=Below.trans h (Below.mono k (Ext.size h))
theorem Ext.drewN {a b:World}(h:Ext a b)(n:Nat):Ext a (b.drewN n):=Below.trans h ⟨rfl,rfl,rfl,Nat.le_refl _,fun _ _=>rfl⟩
theorem Ext.drew {a b:World}(h:Ext a b):Ext a b.drew:=Below.drew h
theorem Ext.alloc {a b:World}(h:Ext a b)(o:Obj):Ext a (b.alloc o):=Below.alloc h (Ext.size h) o
theorem Ext.setCell {a b:World}(h:Ext a b){p:Addr}(hp:a.heap.size<=p.block)(u:Value):Ext a (b.setCell p u):=Below.setCell h hp u
theorem Drew.ext {w w':World}(h:Drew w w'):Ext w w':=Drew.below _ h
theorem Ext.cell {w w':World}(h:Ext w w'){p:Addr}(hp:p.block<w.heap.size):w'.cell? p=w.cell? p:=Below.cell h hp
end Go.Proofs.YtbaajjkopdjbgaaGreat
namespace Go.Proofs
open Go.Shelf
def Tryz.lays129_ren:Go.Shelf.Ren:=⟨fun | 129=>219 | n=>n,fun | 53=>88 | 3=>3 | 4=>4 | 46=>204 | 5=>5 | 9=>9 | n=>n,fun | n=>n⟩
theorem Tryz.lays129:Go.Proofs.Lays.n129 Tryz.prog Tryz.lays129_ren:={
 mixed:=by kernel_rfl
 f129:=Tryz.func219.trans (congrArg some (by kernel_rfl))
 t3:=Tryz.underlying3
 a3:=Tryz.isAgg3
 z3:=Tryz.sizeOf3
 v3:=Tryz.zeroValue3
 t4:=Tryz.underlying4
 a4:=Tryz.isAgg4
 z4:=Tryz.sizeOf4
 v4:=Tryz.zeroValue4
 t5:=Tryz.underlying5
 a5:=Tryz.isAgg5
 z5:=Tryz.sizeOf5
 v5:=Tryz.zeroValue5
 t9:=Tryz.underlying9
 a9:=Tryz.isAgg9
 z9:=Tryz.sizeOf9
 v9:=Tryz.zeroValue9
 t46:=Tryz.underlying204
 a46:=Tryz.isAgg204
 z46:=Tryz.sizeOf204
 v46:=Tryz.zeroValue204
 t53:=Tryz.underlying88
 a53:=Tryz.isAgg88
 z53:=Tryz.sizeOf88
 v53:=Tryz.zeroValue88 }
theorem Tryz.bits_Len64 (x:Int)(w:World)(h0:0<=x)(h1:x<=18446744073709551615) :
  Calls Tryz.prog 219 #[.int .u64 x] w fun e w'=>e=.returned (V Z (Lib.bitLen x.toNat))/\w'=w:=Any.bits_Len64 Tryz.lays129 x w h0 h1
def Tryz.lays112_ren:Go.Shelf.Ren:=⟨fun | 112=>174 | n=>n,fun | 28=>25 | 3=>3 | 4=>4 | 0=>0 | n=>n,fun | n=>n⟩
theorem Tryz.lays112:Go.Proofs.Lays.n112 Tryz.prog Tryz.lays112_ren:={
 mixed:=by kernel_rfl
 f112:=Tryz.func174.trans (congrArg some (by kernel_rfl))
 t0:=Tryz.underlying0
 a0:=Tryz.isAgg0
 z0:=Tryz.sizeOf0
 v0:=Tryz.zeroValue0
 t3:=Tryz.underlying3
 a3:=Tryz.isAgg3
 z3:=Tryz.sizeOf3
 v3:=Tryz.zeroValue3
 t4:=Tryz.underlying4
 a4:=Tryz.isAgg4
 z4:=Tryz.sizeOf4
 v4:=Tryz.zeroValue4
 t28:=Tryz.underlying25
 a28:=Tryz.isAgg25
 z28:=Tryz.sizeOf25
 v28:=Tryz.zeroValue25 }
open Go.RowKit Go.Lib Go.Sort in
theorem Tryz.slices_Reverse_int_empty (a:Option Addr)(cap:Nat)(w:World) :
  Calls Tryz.prog 174 #[.slice a 0 cap] w fun e w'=>e=.returned (.tuple #[])/\w'=w:=Any.slices_Reverse_int_empty Tryz.lays112 a cap w
open Go.RowKit Go.Lib Go.Sort in
theorem Tryz.slices_Reverse_int_cells (b off n c:Nat)(zs:List Int)(w:World)(hz:n<=zs.length)(hbig:n<=9223372036854775807)(hc:∀ j,j<zs.length->w.cell? ⟨b,off+j,none⟩=some (V Z (zs.getD j 0)))(hf:∀ j,j<n->w.frozen? ⟨b,off+j,none⟩=false) :
  Calls Tryz.prog 174 #[.slice (some ⟨b,off,none⟩) n c] w fun e w'=>e=.returned (.tuple #[])/\∃ q,w'=(w.drewN q).setCells b off ((zs.take n).reverse.map (V Z)):=Any.slices_Reverse_int_cells Tryz.lays112 b off n c zs w hz hbig hc hf
end Go.Proofs
namespace Go.Proofs.YtbaajjkopdjbgaaGreat
open Go.RowKit Kv
def deBruijn64:List Int:=[0,1,56,2,57,49,28,3,61,58,42,50,38,29,17,4,62,47,59,36,45,43,51,22,53,39,33,30,24,18,12,5,63,55,48,27,60,41,37,16,46,35,44,21,52,32,23,11,54,26,40,15,34,20,31,10,25,14,19,9,13,8,7,6]
structure Tabs (w:World):Prop where
 pow10:Lib.TabIs Tryz.prog w "internal/strconv.uint64pow10" .u64 Lib.pow10Tab
 bruijn:Lib.TabIs Tryz.prog w "math/bits.deBruijn64tab" .u8 deBruijn64
theorem Tabs.ext {w w':World}(h:Tabs w)(hx:Ext w w'):Tabs w' :=
 ⟨Lib.tabBelow_of_tabIs h.pow10 _ hx,Lib.tabBelow_of_tabIs h.bruijn _ hx⟩
theorem whole_p (x:Nat)(w:World) :
  Calls Tryz.prog 293 #[.float .f64 x] w fun e w'=>(∃ n:Int,e=.returned (.tuple #[V Z n,.bool (partOf x).isSome])/\∀ m,partOf x=some m->n=m)/\w=w':=by
 cases cls_of x with
 | whole n hn h1 h2 hp =>
   have c1:=geqB hn num_lo
   have c2:=leqB hn num_hi
   have c3:=eqB (num_F n (by omega) (by omega)) hn
   rw [decU_le,decide_eq_true h1] at c1
   rw [decU_le,decide_eq_true h2] at c2
   rw [decide_eq_true rfl] at c3
   have hcv:=fun W=>run_convert_float_int (P:=Tryz.prog) W 182 3 .f64 .i64 x n (by kernel_rfl) (by kernel_rfl) (toInt_whole hn h1 h2)
   rw [hp]
   clear hp hn h1 h2
   go_enter Tryz.func293,Tryz.ntmps293
   go_wp2_with fail
   go_ret2
   exact⟨⟨n,rfl,fun m hm=>by injection hm⟩,rfl⟩
 | broken v hv h1 h2 h3 hp =>
   have c1:=geqB hv num_lo
   have c2:=leqB hv num_hi
   obtain⟨q1,q2⟩:=broken_cut h1 h2
   have c3:=eqB (num_F (v.tdiv U) (by omega) (by omega)) hv
   rw [decide_eq_true h1] at c1
   rw [decide_eq_true h2] at c2
   rw [decide_eq_false (broken_ne _ h3)] at c3
   have hcv:=fun W=>run_convert_float_int (P:=Tryz.prog) W 182 3 .f64 .i64 x (v.tdiv U) (by kernel_rfl) (by kernel_rfl) (toInt_broken hv h1 h2)
   rw [hp]
   generalize v.tdiv U=n at *
   clear hp hv h1 h2 h3 q1 q2
   go_enter Tryz.func293,Tryz.ntmps293
   go_wp2_with fail
   go_ret2
   exact⟨⟨n,rfl,fun m hm=>by cases hm⟩,rfl⟩
 | low h h2 hp =>
   have c1:(FloatKind.f64.format.order x 13920626448202203136==some Ordering.gt||FloatKind.f64.format.order x 13920626448202203136==some Ordering.eq)=false:=by rw [h];rfl
   rw [hp]
   clear hp h h2
   go_enter Tryz.func293,Tryz.ntmps293
   go_wp2_with fail
   go_ret2
   exact⟨⟨0,rfl,fun m hm=>by cases hm⟩,rfl⟩
 | high h h1 h2 hp =>
   have c1:(FloatKind.f64.format.order x 13920626448202203136==some Ordering.gt||FloatKind.f64.format.order x 13920626448202203136==some Ordering.eq)=true:=by rw [h];rfl
   have c2:(FloatKind.f64.format.order x 4697254411347427328==some Ordering.lt||FloatKind.f64.format.order x 4697254411347427328==some Ordering.eq)=false:=by rw [h1];rfl
   rw [hp]
   clear hp h h1 h2
   go_enter Tryz.func293,Tryz.ntmps293
   go_wp2_with fail
   go_ret2
   exact⟨⟨0,rfl,fun m hm=>by cases hm⟩,rfl⟩
 | nan h hp =>
   have c1:(FloatKind.f64.format.order x 13920626448202203136==some Ordering.gt||FloatKind.f64.format.order x 13920626448202203136==some Ordering.eq)=false:=by rw [h];rfl
   rw [hp]
   clear hp h
   go_enter Tryz.func293,Tryz.ntmps293
   go_wp2_with fail
   go_ret2
   exact⟨⟨0,rfl,fun m hm=>by cases hm⟩,rfl⟩
def ptOf (a b:Nat):Option (Int × Int) :=
 match partOf a,partOf b with
 | some x,some y=>some (x,y)
 | _,_=>none
def ptX (p:Option (Int × Int)):Int:=match p with | some (x,_)=>x | none=>0
def ptY (p:Option (Int × Int)):Int:=match p with | some (_,y)=>y | none=>0
theorem parts_p (a b:Nat)(w:World) :
  Calls Tryz.prog 231 #[.complex .f64 a b] w fun e w'=>e=.returned (.tuple #[V Z (ptX (ptOf a b)),V Z (ptY (ptOf a b)),.bool (ptOf a b).isSome])/\w=w':=by
 have hA:=whole_p a
 have hB:=whole_p b
 unfold ptOf
 cases ha:partOf a with
 | none =>
   rw [ha] at hA
   cases hb:partOf b with
   | none =>
     rw [hb] at hB
     go_enter Tryz.func231,Tryz.ntmps231
     go_wp2_with fail
     refine (hA _).mono ?_
     rintro e w' ⟨⟨n,rfl,hn⟩,rfl⟩
     go_wp2_with fail
     refine (hB _).mono ?_
     rintro e w' ⟨⟨m,rfl,hm⟩,rfl⟩
     go_wp2_with fail
     go_ret3
     exact⟨rfl,rfl⟩
   | some y =>
     rw [hb] at hB
     go_enter Tryz.func231,Tryz.ntmps231
     go_wp2_with fail
     refine (hA _).mono ?_
     rintro e w' ⟨⟨n,rfl,hn⟩,rfl⟩
     go_wp2_with fail
     refine (hB _).mono ?_
     rintro e w' ⟨⟨m,rfl,hm⟩,rfl⟩
     go_wp2_with fail
     go_ret3
     exact⟨rfl,rfl⟩
 | some x =>
   rw [ha] at hA
   cases hb:partOf b with
   | none =>
     rw [hb] at hB
     go_enter Tryz.func231,Tryz.ntmps231
     go_wp2_with fail
     refine (hA _).mono ?_
     rintro e w' ⟨⟨n,rfl,hn⟩,rfl⟩
     go_wp2_with fail
     refine (hB _).mono ?_
     rintro e w' ⟨⟨m,rfl,hm⟩,rfl⟩
     go_wp2_with fail
     go_ret3
     exact⟨rfl,rfl⟩
   | some y =>
     rw [hb] at hB
     go_enter Tryz.func231,Tryz.ntmps231
     go_wp2_with fail
     refine (hA _).mono ?_
     rintro e w' ⟨⟨n,rfl,hn⟩,rfl⟩
     obtain rfl:=hn x rfl
     go_wp2_with fail
     refine (hB _).mono ?_
     rintro e w' ⟨⟨m,rfl,hm⟩,rfl⟩
     obtain rfl:=hm y rfl
     go_wp2_with fail
     go_ret3
     exact⟨rfl,rfl⟩
def clampR (x:Int):Int:=max (-1048576) (min x 1048576)
theorem at_p (x y:Int)(w:World) :
  Calls Tryz.prog 166 #[V Z x,V Z y] w fun e w'=>e=.returned (.complex .f64 (floatOfInt .f64 (clampR x)) (floatOfInt .f64 (clampR y)))/\w=w':=by
 go_enter Tryz.func166,Tryz.ntmps166
 go_wp2_with fail
 go_ret
 exact⟨rfl,rfl⟩
theorem within_any (n lo hi:Int)(w:World) :
  Calls Tryz.prog 130 #[V Z n,V Z lo,V Z hi] w fun e w'=>e=.returned (V Z (within n lo hi))/\w=w':=by
 unfold within
 go_enter Tryz.func130,Tryz.ntmps130
 go_wp2
 all_goals go_ret
 all_goals simp [*]
theorem clamp_p (n top:Int)(w:World) :
  Calls Tryz.prog 311 #[V Z n,V Z top] w fun e w'=>e=.returned (V Z (clamp n top))/\w=w':=by
 go_enter Tryz.func311,Tryz.ntmps311
 go_wp2
 all_goals go_ret
 all_goals exact⟨ret_int (by unfold clamp within;omega),rfl⟩
theorem clamp_r (n top:Int)(w:World) :
  Calls Tryz.prog 148 #[V Z n,V Z top] w fun e w'=>e=.returned (V Z (clamp n top))/\w=w':=by
 go_enter Tryz.func148,Tryz.ntmps148
 go_wp2_with (go_at_call 130;refine (within_any _ _ _ _).mono ?_;rintro e w' ⟨rfl,rfl⟩)
 go_ret
 exact⟨rfl,rfl⟩
theorem pack_p (hi lo top:Int)(w:World) :
  Calls Tryz.prog 327 #[V Z hi,V Z lo,V Z top] w fun e w'=>e=.returned (V Z (packI hi lo top))/\w=w':=by
 go_enter Tryz.func327,Tryz.ntmps327
 go_wp2_with fail
 refine (clamp_p _ _ _).mono ?_
 rintro e w' ⟨rfl,rfl⟩
 rw [clamp_room]
 have h1:=room_bd hi
 have h2:=room_bd top
 have h3:=within_bd lo 0 (room top) h2.1
 have h4:0<=room hi*(room top+1):=Int.mul_nonneg h1.1 (by omega)
 have h5:room hi*(room top+1)<=1048576*1048577:=Int.mul_le_mul h1.2 (by omega) (by omega) (by omega)
 go_wp2_with fail
 refine (clamp_p _ _ _).mono ?_
 rintro e w' ⟨rfl,rfl⟩
 rw [clamp_room]
 go_wp2_with fail
 refine (clamp_p _ _ _).mono ?_
 rintro e w' ⟨rfl,rfl⟩
 rw [clamp_of_room]
 go_wp2
 go_ret
 exact⟨rfl,rfl⟩
theorem unpack_p (x top:Int)(w:World) :
  Calls Tryz.prog 337 #[V Z x,V Z top] w fun e w'=>e=.returned (.tuple #[V Z (unHi x top),V Z (unLo x top)])/\Drew w w':=by
 have h2:=room_bd top
 have h3:=unX_bd x
 have hx:Hid (max 0 (min x 4398046511104)=unX x):=by unfold unX within;show max 0 (min x 4398046511104)=_;omega
 go_enter Tryz.func337,Tryz.ntmps337
 go_wp2_with fail
 refine (clamp_p _ _ _).mono ?_
 rintro e w' ⟨rfl,rfl⟩
 rw [clamp_room]
 go_wp2
 rw [hx.out]
 go_quiet (fail)
 go_wp2
 go_ret2
 exact⟨rfl,Drew.mk' _ _⟩
theorem pt_bd (a b:Nat):-1048576<=ptX (ptOf a b)/\ptX (ptOf a b)<=1048576/\-1048576<=ptY (ptOf a b)/\ptY (ptOf a b)<=1048576:=by
 unfold ptOf
 cases ha:partOf a with
 | none=>simp [ptX,ptY]
 | some x =>
   cases hb:partOf b with
   | none=>simp [ptX,ptY]
   | some y =>
     have h1:=partOf_some ha
     have h2:=partOf_some hb
     exact⟨h1.2.1,h1.2.2,h2.2.1,h2.2.2⟩
theorem w0:floatOfInt .f64 0=0:=by decide +kernel
theorem ptOf_some {a b:Nat}{x y:Int}(h:ptOf a b=some (x,y)):Num a (x*U)/\Num b (y*U):=by
 unfold ptOf at h
 cases ha:partOf a with
 | none=>rw [ha] at h;cases h
 | some x' =>
   cases hb:partOf b with
   | none=>rw [ha,hb] at h;cases h
   | some y' =>
     rw [ha,hb] at h
     cases h
     exact⟨(partOf_some ha).1,(partOf_some hb).1⟩
def bdP (p:Int × Int):Prop:=-1048576<=p.1/\p.1<=1048576/\-1048576<=p.2/\p.2<=1048576
theorem ptOf_of {a b:Nat}{p:Int × Int}(ha:Num a (p.1*U))(hb:Num b (p.2*U))(h:bdP p):ptOf a b=some p:=by
 unfold ptOf
 rw [partOf_whole ha h.1 h.2.1,partOf_whole hb h.2.2.1 h.2.2.2]
end Go.Proofs.YtbaajjkopdjbgaaGreat
namespace Kv
def triN (d:Nat):Nat:=d*(d+1) / 2
theorem triN_succ (d:Nat):triN (d+1)=triN d+(d+1):=by
 unfold triN
 have:(d+1)*(d+1+1)=d*(d+1)+2*(d+1):=by grind
 rw [this]
 omega
theorem triN_mono {a b:Nat}(h:a<=b):triN a<=triN b:=by
 induction b with
 | zero=>rw [show a=0 from by omega];exact Nat.le_refl _
 | succ b ih =>
   by_cases hb:a=b+1
   · rw [hb];exact Nat.le_refl _
   · have:=ih (by omega)
     rw [triN_succ]
     omega
def triName (x y:Nat):Nat:=triN (x+y)+y
theorem triName_lt {x y N:Nat}(h:x+y<N):triName x y<triN N:=by
 have h1:=triN_mono (show x+y+1<=N from h)
 rw [triN_succ] at h1
 unfold triName
 omega
theorem triN_64 {d:Nat}(h:d<=64):triN d<=2080:=by
 have:=triN_mono h
 rw [show triN 64=2080 from by decide] at this
 exact this
end Kv
namespace Go.Proofs.YtbaajjkopdjbgaaGreat
open Go.RowKit Kv
theorem ptOf_bd {a b:Nat}{p:Int × Int}(h:ptOf a b=some p):bdP p:=by
 have:=pt_bd a b
 rw [h] at this
 exact this
theorem padd {a b c d:Nat}{p q:Int × Int}(hp:ptOf a b=some p)(hq:ptOf c d=some q)(h:bdP (p.1+q.1,p.2+q.2)) :
  ∃ re im,cSumBits .add .f64 a b c d=some (re,im)/\ptOf re im=some (p.1+q.1,p.2+q.2):=by
 obtain⟨n1,n2⟩:=ptOf_some (x:=p.1) (y:=p.2) hp
 obtain⟨n3,n4⟩:=ptOf_some (x:=q.1) (y:=q.2) hq
 obtain⟨a1,a2,a3,a4⟩:=ptOf_bd hp
 obtain⟨a5,a6,a7,a8⟩:=ptOf_bd hq
 obtain⟨r1,g1,m1⟩:=add_num n1 n3 (by omega) (by omega)
 obtain⟨r2,g2,m2⟩:=add_num n2 n4 (by omega) (by omega)
 have e1:floatBits .add .f64 a c=some r1:=g1
 have e2:floatBits .add .f64 b d=some r2:=g2
 refine⟨r1,r2,?_,?_⟩
 · unfold cSumBits
   rw [e1,e2]
   rfl
 · exact ptOf_of (p:=(p.1+q.1,p.2+q.2)) m1 m2 h
theorem pt_nat (x y:Nat)(h:x<=1000)(h':y<=1000):ptOf (floatOfInt .f64 x) (floatOfInt .f64 y)=some ((x:Int),(y:Int)) :=
 ptOf_of (p:=((x:Int),(y:Int))) (num_F x (by omega) (by omega)) (num_F y (by omega) (by omega)) ⟨by show -1048576<=(x:Int);omega,by show (x:Int)<=1048576;omega,by show -1048576<=(y:Int);omega,by show (y:Int)<=1048576;omega⟩
theorem gsize_p (d:Nat)(h:d<=64)(w:World):Calls Tryz.prog 92 #[V Z d] w fun e w'=>e=.returned (V Z (triN d))/\w=w':=by
 have hm:d*(d+1)<=64*65:=Nat.mul_le_mul h (by omega)
 have e1:max 0 (min (d:Int) 64)=d:=by omega
 have e2:=IntWalk.i64_in ((d:Int)+1) (by omega)
 have e3:IntKind.i64.wrap ((d:Int)*((d:Int)+1))=((d*(d+1):Nat):Int):=by
  rw [IntWalk.i64_in _ (by have:(d:Int)*((d:Int)+1)=((d*(d+1):Nat):Int):=by simp
                           rw [this];omega)]
  simp
 have e4:IntKind.i64.wrap ((((d*(d+1):Nat):Int)) / 2)=(triN d:Int):=by
  unfold triN
  rw [IntWalk.i64_in _ (by omega)]
  omega
 clear hm
 generalize triN d=t at *
 generalize d*(d+1)=s at *
 go_enter Tryz.func92,Tryz.ntmps92
 go_wp2_with fail
 go_ret
 exact⟨rfl,rfl⟩
theorem gdiag_p (a b x y:Nat)(h:ptOf a b=some ((x:Int),(y:Int)))(hs:x+y<64)(w:World):Calls Tryz.prog 228 #[.complex .f64 a b] w fun e w'=>e=.returned (V Z ((x+y:Nat):Int))/\w=w':=by
 have hp:=parts_p a b
 rw [h] at hp
 simp only [ptX,ptY,Option.isSome_some] at hp
 have e1:=IntWalk.i64_in ((x:Int)+(y:Int)) (by omega)
 have e2:decide ((x:Int)<0)=false:=by rw [decide_eq_false_iff_not];omega
 have e3:decide ((y:Int)<0)=false:=by rw [decide_eq_false_iff_not];omega
 have e4:decide ((64:Int)<=(x:Int)+(y:Int))=false:=by rw [decide_eq_false_iff_not];omega
 clear h
 go_enter Tryz.func228,Tryz.ntmps228
 go_wp2_with fail
 refine (hp _).mono ?_
 rintro e w' ⟨rfl,rfl⟩;go_wp2_with fail
 go_ret
 exact⟨by simp,rfl⟩
theorem gon_p (n a b x y:Nat)(h:ptOf a b=some ((x:Int),(y:Int)))(hs:x+y<64)(w:World):Calls Tryz.prog 167 #[V Z n,.complex .f64 a b] w fun e w'=>e=.returned (.bool (decide (x+y<n)))/\w=w':=by
 have hp:=gdiag_p a b x y h hs
 generalize x+y=d at *
 have e2:decide ((0:Int)<=(d:Int))=true:=by rw [decide_eq_true_eq];omega
 have e3:decide ((d:Int)<(n:Int))=decide (d<n):=by simp
 clear h
 go_enter Tryz.func167,Tryz.ntmps167
 go_wp2_with fail
 refine (hp _).mono ?_
 rintro e w' ⟨rfl,rfl⟩;go_wp2_with fail
 go_ret
 exact⟨by first | rfl | simp,rfl⟩
theorem gname_p (a b x y:Nat)(h:ptOf a b=some ((x:Int),(y:Int)))(hs:x+y<64)(w:World):Calls Tryz.prog 170 #[.complex .f64 a b] w fun e w'=>e=.returned (V Z (triName x y))/\w=w':=by
 have hd:=gdiag_p a b x y h hs
 have hp:=parts_p a b
 rw [h] at hp
 simp only [ptX,ptY,Option.isSome_some] at hp
 have hz:=gsize_p (x+y) (by omega)
 have hb:=triN_64 (show x+y<=64 by omega)
 have hn:(triName x y:Int)=(triN (x+y):Int)+(y:Int):=by unfold triName;simp
 rw [hn]
 generalize triN (x+y)=t at *
 have e1:=IntWalk.i64_in ((t:Int)+(y:Int)) (by omega)
 have e2:decide (((x+y:Nat):Int)<0)=false:=by rw [decide_eq_false_iff_not];omega
 generalize x+y=d at *
 clear h hn
 go_enter Tryz.func170,Tryz.ntmps170
 go_wp2_with fail
 refine (hd _).mono ?_
 rintro e w' ⟨rfl,rfl⟩;go_wp2_with fail
 refine (hp _).mono ?_
 rintro e w' ⟨rfl,rfl⟩;go_wp2_with fail
 refine (hz _).mono ?_
 rintro e w' ⟨rfl,rfl⟩;go_wp2_with fail
 go_ret
 exact⟨rfl,rfl⟩
end Go.Proofs.YtbaajjkopdjbgaaGreat
namespace Kv
structure Acc where
 kind:Int
 cell:Int
 val:Int
structure Nt where
 kind:Int
 pos:Int
structure TS where
 ans:List Int
 acc:List Acc
 nts:List Nt
 loc:Nat->Int
inductive Prog (α:Type):Type where
 | ret (a:α):Prog α
 | read (c:Int) (k:Int->Prog α):Prog α
 | write (c v:Int) (k:Unit->Prog α):Prog α
 | get (i:Int) (k:Int->Prog α):Prog α
 | set (i v:Int) (k:Unit->Prog α):Prog α
 | note (n:Int) (k:Unit->Prog α):Prog α
namespace Prog
def bind {α β:Type}:Prog α->(α->Prog β)->Prog β
 | ret a,f=>f a
 | read c k,f=>read c fun x=>(k x).bind f
 | write c v k,f=>write c v fun x=>(k x).bind f
 | get i k,f=>get i fun x=>(k x).bind f
 | set i v k,f=>set i v fun x=>(k x).bind f
 | note n k,f=>note n fun x=>(k x).bind f
theorem bind_ret {α β:Type}(a:α)(f:α->Prog β):(ret a).bind f=f a:=rfl
theorem bind_id {α:Type}:∀ p:Prog α,p.bind ret=p
 | ret _=>rfl
 | read c k=>by simp only [bind];congr 1;funext x;exact bind_id (k x)
 | write c v k=>by simp only [bind];congr 1;funext x;exact bind_id (k x)
 | get c k=>by simp only [bind];congr 1;funext x;exact bind_id (k x)
 | set c v k=>by simp only [bind];congr 1;funext x;exact bind_id (k x)
 | note c k=>by simp only [bind];congr 1;funext x;exact bind_id (k x)
theorem bind_assoc {α β γ:Type}(f:α->Prog β)(g:β->Prog γ):∀ p:Prog α,(p.bind f).bind g=p.bind fun x=>(f x).bind g
 | ret _=>rfl
 | read c k=>by simp only [bind];congr 1;funext x;exact bind_assoc f g (k x)
 | write c v k=>by simp only [bind];congr 1;funext x;exact bind_assoc f g (k x)
 | get c k=>by simp only [bind];congr 1;funext x;exact bind_assoc f g (k x)
 | set c v k=>by simp only [bind];congr 1;funext x;exact bind_assoc f g (k x)
 | note c k=>by simp only [bind];congr 1;funext x;exact bind_assoc f g (k x)
end Prog
def rd (c:Int):Prog Int:=.read c .ret
def wr (c v:Int):Prog Unit:=.write c v .ret
def gt (i:Int):Prog Int:=.get i .ret
def st (i v:Int):Prog Unit:=.set i v .ret
def nt (n:Int):Prog Unit:=.note n .ret
def TS.put (S:TS) (a:Acc):TS:={ S with acc:=S.acc++[a] }
def TS.noted (S:TS) (n:Int):TS:={ S with nts:=S.nts++[⟨n,(S.acc.length:Int)⟩] }
def TS.next (S:TS):Option Int:=S.ans[S.acc.length]?
def TS.got (S:TS) (i:Int):Int:=if i<0 then 0 else S.loc i.toNat
def TS.upd (S:TS) (i v:Int):TS :=
 if 0<=i/\i<32768 then { S with loc:=fun j=>if j=i.toNat then v else S.loc j } else S
def Prog.run {α:Type}:Prog α->TS->Option α × TS
 | .ret a,S=>(some a,S)
 | .read c k,S=>match S.next with
   | some v=>(k v).run (S.put ⟨1,c,0⟩)
   | none=>(none,S.put ⟨1,c,0⟩)
 | .write c v k,S=>match S.next with
   | some _=>(k ()).run (S.put ⟨2,c,v⟩)
   | none=>(none,S.put ⟨2,c,v⟩)
 | .get i k,S=>(k (S.got i)).run S
 | .set i v k,S=>(k ()).run (S.upd i v)
 | .note n k,S=>(k ()).run (S.noted n)
def thenR {α β:Type} (r:Option α × TS) (f:α->Prog β):Option β × TS :=
 match r with
 | (some a,S1)=>(f a).run S1
 | (none,S1)=>(none,S1)
theorem Prog.run_bind {α β:Type}(f:α->Prog β):∀ (p:Prog α) (S:TS),(p.bind f).run S=thenR (p.run S) f
 | .ret a,S=>rfl
 | .read c k,S=>by
   simp only [Prog.bind,Prog.run]
   cases S.next with
   | none=>rfl
   | some v=>exact run_bind f (k v) _
 | .write c v k,S=>by
   simp only [Prog.bind,Prog.run]
   cases S.next with
   | none=>rfl
   | some _=>exact run_bind f (k ()) _
 | .get i k,S=>run_bind f (k _) _
 | .set i v k,S=>run_bind f (k ()) _
 | .note n k,S=>run_bind f (k ()) _
theorem Prog.run_bind_some {α β:Type}{p:Prog α}{f:α->Prog β}{S S1:TS}{a:α}(h:p.run S=(some a,S1)):(p.bind f).run S=(f a).run S1:=by
 rw [run_bind,h];rfl
theorem Prog.run_bind_none {α β:Type}{p:Prog α}{f:α->Prog β}{S S1:TS}(h:p.run S=(none,S1)):(p.bind f).run S=(none,S1):=by
 rw [run_bind,h];rfl
theorem TS.upd_ans (S:TS)(i v:Int):(S.upd i v).ans=S.ans:=by unfold TS.upd;split <;> rfl
theorem TS.upd_acc (S:TS)(i v:Int):(S.upd i v).acc=S.acc:=by unfold TS.upd;split <;> rfl
theorem TS.upd_nts (S:TS)(i v:Int):(S.upd i v).nts=S.nts:=by unfold TS.upd;split <;> rfl
theorem Prog.run_ans {α:Type}:∀ (p:Prog α) (S:TS),(p.run S).2.ans=S.ans
 | .ret a,S=>rfl
 | .read c k,S=>by
   simp only [Prog.run]
   cases S.next with
   | none=>rfl
   | some v=>exact run_ans (k v) _
 | .write c v k,S=>by
   simp only [Prog.run]
   cases S.next with
   | none=>rfl
   | some _=>exact run_ans (k ()) _
 | .get i k,S=>run_ans (k _) _
 | .set i v k,S=>(run_ans (k ()) _).trans (TS.upd_ans S i v)
 | .note n k,S=>run_ans (k ()) _
theorem Prog.run_acc {α:Type}:∀ (p:Prog α) (S:TS),∃ l,(p.run S).2.acc=S.acc++l
 | .ret a,S=>⟨[],by simp [Prog.run]⟩
 | .read c k,S=>by
   simp only [Prog.run]
   cases S.next with
   | none=>exact⟨_,rfl⟩
   | some v =>
     obtain⟨l,h⟩:=run_acc (k v) (S.put ⟨1,c,0⟩)
     exact⟨⟨1,c,0⟩ :: l,by rw [h];simp [TS.put]⟩
 | .write c v k,S=>by
   simp only [Prog.run]
   cases S.next with
   | none=>exact⟨_,rfl⟩
   | some _ =>
     obtain⟨l,h⟩:=run_acc (k ()) (S.put ⟨2,c,v⟩)
     exact⟨⟨2,c,v⟩ :: l,by rw [h];simp [TS.put]⟩
 | .get i k,S=>run_acc (k _) _
 | .set i v k,S=>by
   obtain⟨l,h⟩:=run_acc (k ()) (S.upd i v)
   exact⟨l,by rw [<- TS.upd_acc S i v];exact h⟩
 | .note n k,S=>run_acc (k ()) (S.noted n)
inductive Prog.Notes {α:Type}:Prog α->Nat->Prop
 | ret (a:α) (n:Nat):Notes (.ret a) n
 | read (c:Int) {k:Int->Prog α} {n:Nat}:(∀ x,Notes (k x) n)->Notes (.read c k) n
 | write (c v:Int) {k:Unit->Prog α} {n:Nat}:Notes (k ()) n->Notes (.write c v k) n
 | get (i:Int) {k:Int->Prog α} {n:Nat}:(∀ x,Notes (k x) n)->Notes (.get i k) n
 | set (i v:Int) {k:Unit->Prog α} {n:Nat}:Notes (k ()) n->Notes (.set i v k) n
 | note (m:Int) {k:Unit->Prog α} {n:Nat}:Notes (k ()) n->Notes (.note m k) (n+1)
theorem Prog.Notes.mono {α:Type}{p:Prog α}{n:Nat}(h:p.Notes n):∀ {m},n<=m->p.Notes m:=by
 induction h with
 | ret a n=>intro m _;exact .ret a m
 | read c _ ih=>intro m hm;exact .read c fun x=>ih x hm
 | write c v _ ih=>intro m hm;exact .write c v (ih hm)
 | get c _ ih=>intro m hm;exact .get c fun x=>ih x hm
 | set c v _ ih=>intro m hm;exact .set c v (ih hm)
 | note k _ ih =>
   intro m hm
   cases m with
   | zero=>omega
   | succ m=>exact .note k (ih (by omega))
theorem Prog.Notes.bind {α β:Type}{p:Prog α}{f:α->Prog β}{n m:Nat}(h:p.Notes n)(hf:∀ a,(f a).Notes m):(p.bind f).Notes (n+m):=by
 induction h with
 | ret a n=>exact (hf a).mono (by omega)
 | read c _ ih=>exact .read c fun x=>ih x
 | write c v _ ih=>exact .write c v ih
 | get c _ ih=>exact .get c fun x=>ih x
 | set c v _ ih=>exact .set c v ih
 | @note k _ n _ ih=>rw [show n+1+m=(n+m)+1 from by omega];exact .note k ih
theorem Prog.Notes.bind0 {α β:Type}{p:Prog α}{f:α->Prog β}{m:Nat}(h:p.Notes 0)(hf:∀ a,(f a).Notes m):(p.bind f).Notes m:=by
 have:=h.bind hf;rwa [Nat.zero_add] at this
theorem notes_rd (c:Int):(rd c).Notes 0:=.read c fun x=>.ret x 0
theorem notes_wr (c v:Int):(wr c v).Notes 0:=.write c v (.ret () 0)
theorem notes_gt (c:Int):(gt c).Notes 0:=.get c fun x=>.ret x 0
theorem notes_st (c v:Int):(st c v).Notes 0:=.set c v (.ret () 0)
theorem notes_nt (c:Int):(nt c).Notes 1:=.note c (.ret () 0)
theorem Prog.Notes.run {α:Type}{p:Prog α}{n:Nat}(h:p.Notes n):∀ S:TS,(p.run S).2.nts.length<=S.nts.length+n:=by
 induction h with
 | ret a n=>intro S;simp [Prog.run]
 | read c _ ih =>
   intro S
   simp only [Prog.run]
   cases S.next with
   | none=>simp [TS.put]
   | some v=>exact ih v _
 | write c v _ ih =>
   intro S
   simp only [Prog.run]
   cases S.next with
   | none=>simp [TS.put]
   | some _=>exact ih _
 | get i _ ih=>intro S;exact ih _ _
 | set i v _ ih=>intro S;have:=ih (S.upd i v);rw [TS.upd_nts] at this;exact this
 | note k _ ih =>
   intro S
   have h1:=ih (S.noted k)
   have h2:(S.noted k).nts.length=S.nts.length+1:=by simp [TS.noted]
   simp only [Prog.run]
   omega
inductive Ref {α:Type} (p:Prog α):Bool->TS->α->Bool->TS->Prop
 | over (S:TS) (a:α):Ref p true S a true S
 | done {S S1:TS} {a:α}:p.run S=(some a,S1)->Ref p false S a false S1
 | stop {S S1:TS} (a:α):p.run S=(none,S1)->Ref p false S a true S1
theorem Ref.bind {α β:Type}{p:Prog α}{f:α->Prog β}{o o1 o2:Bool}{S S1 S2:TS}{a:α}{b:β}
  (h:Ref p o S a o1 S1)(k:Ref (f a) o1 S1 b o2 S2):Ref (p.bind f) o S b o2 S2:=by
 cases h with
 | over=>cases k;exact .over _ _
 | done h =>
   cases k with
   | done k=>exact .done ((Prog.run_bind_some h).trans k)
   | stop _ k=>exact .stop _ ((Prog.run_bind_some h).trans k)
 | stop _ h=>cases k;exact .stop _ (Prog.run_bind_none h)
theorem Ref.ret {α:Type}(a:α)(o:Bool)(S:TS):Ref (.ret a) o S a o S:=by
 cases o with
 | true=>exact .over _ _
 | false=>exact .done rfl
theorem Ref.any {α β:Type}{p:Prog α}{S S':TS}{a:α}{o:Bool}(h:Ref p true S a o S')(q:Prog β)(b:β):Ref q true S b o S':=by
 cases h;exact .over _ _
end Kv
namespace Go.Proofs.YtbaajjkopdjbgaaGreat
open Go.RowKit Kv
def Ints (w:World) (v:Value) (l:List Int):Prop :=
 ∃ A c,v=.slice A l.length c/\l.length<=c/\c<=9223372036854775807/\(l≠[]->∃ b off,A=some ⟨b,off,none⟩/\b<w.heap.size/\∀ i x,l[i]?=some x->w.cell? ⟨b,off+i,none⟩=some (V Z x))
theorem Ints.ext {w w':World}{v:Value}{l:List Int}(h:Ints w v l)(hx:Ext w w'):Ints w' v l:=by
 obtain⟨A,c,rfl,h1,h2,h3⟩:=h
 refine⟨A,c,rfl,h1,h2,fun hl=>?_⟩
 obtain⟨b,off,rfl,hb,hc⟩:=h3 hl
 exact⟨b,off,rfl,Nat.lt_of_lt_of_le hb (Ext.size hx),fun i x hi=>(Ext.cell hx (p:=⟨b,off+i,none⟩) hb).trans (hc i x hi)⟩
theorem Ints.nil (w:World):Ints w (.slice none 0 0) []:=⟨none,0,rfl,by simp,by omega,fun h=>absurd rfl h⟩
theorem Ints.at_ {w:World}{A:Option Addr}{n c:Nat}{l:List Int}(h:Ints w (.slice A n c) l){i:Nat}(hi:i<n) :
  ∃ b off,A=some ⟨b,off,none⟩/\b<w.heap.size/\w.cell? ⟨b,off+i,none⟩=some (V Z (l.getD i 0)):=by
 obtain⟨A',c',he,h1,h2,h3⟩:=h
 injection he with e1 e2 e3
 subst e1 e2 e3
 have hl:l≠[]:=by rintro rfl;simp at hi
 obtain⟨b,off,rfl,hb,hc⟩:=h3 hl
 refine⟨b,off,rfl,hb,?_⟩
 have:l[i]?=some (l.getD i 0):=by simp [List.getD,List.getElem?_eq_getElem hi]
 exact hc i _ this
theorem Ints.slice {w:World}{v:Value}{l:List Int}(h:Ints w v l):∃ A c,v=.slice A l.length c/\l.length<=c/\c<=9223372036854775807:=by
 obtain⟨A,c,rfl,h1,h2,_⟩:=h
 exact⟨A,c,rfl,h1,h2⟩
def IntRow (w:World) (base:Nat) (v:Value) (l:List Int):Prop:=w.ownsRow base 3 1 v l.length (l.map (V Z))
theorem IntRow.nil (w:World)(base:Nat):IntRow w base (.slice none 0 0) []:=World.ownsRow_nil _ _ _ _
theorem IntRow.ints {w:World}{base:Nat}{v:Value}{l:List Int}(h:IntRow w base v l):Ints w v l:=by
 have h':=h
 obtain⟨hl,h2⟩:=h
 rcases h2 with⟨rfl,h0⟩ | ⟨g,cap,cur,rfl,hg,hh,hn,hm,hs,ht⟩
 · obtain rfl:l=[]:=List.eq_nil_of_length_eq_zero h0
   exact Ints.nil w
 · refine⟨_,_,rfl,hn,by unfold maxLen at hm;exact hm,fun _=>⟨g,0,rfl,?_,fun i x hi=>?_⟩⟩
   · rcases Nat.lt_or_ge g w.heap.size with hlt | hge
     · exact hlt
     · rw [Array.getElem?_eq_none hge] at hh;cases hh
   · have hc:=World.ownsRow.cells h' (g:=g) rfl i (V Z x) (by rw [List.getElem?_map,hi];rfl)
     rw [Addr.add_lit] at hc;exact hc
theorem info_int:(Tryz.prog.info? 3).map (fun i=>(i.zero,i.size,i.bytes))=some (some (V Z 0),1,8):=by kernel_rfl
theorem append_int {ops:Array Oper}{rest:List Oper}{o:Oper}{a:Act}{Q:Exit->Act->World->Prop}{w:World}(hgd:o.guard=none)(s x:Operand)
  (ho:o.op=.call { callee:=.builtin .append,args:=#[s,x],argTypes:=#[25,25] })
  (base:Nat)(v:Value)(l:List Int)(y:Int)(hown:IntRow w base v l)(hs:a.eval s=v)(hx:a.eval x=.slice (some ⟨w.heap.size,0,none⟩) 1 1)
  (hlen:l.length<1000000000000)(hbase:base<=w.heap.size)
  (h:∀ v' w',IntRow w' base v' (l++[y])->(w.alloc (.cells #[V Z y] 3)).grownBy w' v.ownBlock->wpList Tryz.prog ops Q rest (a.put o.dst v') w') :
  wpList Tryz.prog ops Q (o :: rest) a (w.alloc (.cells #[V Z y] 3)):=by
 obtain⟨i0,hi,hz0,hz1,hz2⟩:=info_parts info_int
 refine wpList_append_own _ hgd s x 25 ho base 3 i0 (V Z 0) 1 8 Tryz.underlying25 hi hz0 hz1 hz2 rfl (by decide) v l.length _ hs (World.ownsRow.alloc hown _) ⟨w.heap.size,0,none⟩ 1 1 [V Z y] hx rfl (cell_one_new _ _ _) (by simp [Value.oneCell']) (by unfold maxLen;omega) (by omega) (by simp;omega) fun v' w' h1 h2 _=>?_
 refine h v' w' ?_ h2
 unfold IntRow
 rw [List.length_append,List.map_append]
 exact h1
theorem Ext.appended {w wr w':World}{v:Value}{l:List Int}{o:Obj}(h:Ext w wr)(hown:IntRow wr w.heap.size v l)(hg:(wr.alloc o).grownBy w' v.ownBlock):Ext w w':=by
 refine Below.grown (Below.alloc h h.size o) hg (by have:=h.size;simp;omega) fun k hk=>?_
 obtain⟨_,h2⟩:=hown
 rcases h2 with⟨rfl,_⟩ | ⟨g,cap,cur,rfl,hgb,_⟩
 · simp [Value.ownBlock] at hk
 · simp [Value.ownBlock] at hk
   omega
theorem cell_of_heap {w:World}{b:Nat}{cs:Array Value}{t:TypeId}{fz:Nat × Nat}(h:w.heap[b]?=some (.cells cs t fz))(i:Nat):w.cell? ⟨b,i,none⟩=cs[i]?:=by
 simp [World.cell?,h]
def ownR (ix:List Nat) (w:World) (p b:Nat):Prop:=b=p∨∃ i∈ix,∃ v,w.cell? ⟨p,i,none⟩=some v/\v.ownBlock=some b
theorem ownR_same {ix:List Nat}{w w':World}{p:Nat}(h:w'.heap[p]?=w.heap[p]?)(b:Nat):ownR ix w' p b↔ownR ix w p b:=by
 unfold ownR
 have e:∀ i,w'.cell? ⟨p,i,none⟩=w.cell? ⟨p,i,none⟩:=fun i=>World.cell?_of_block (w:=w) (a:=⟨p,i,none⟩) h
 simp only [e]
structure Keep (ix:List Nat) (B p:Nat) (w w':World):Prop where
 below:Below B w w'
 rest:∀ b,b<w.heap.size->¬ ownR ix w p b->w'.heap[b]?=w.heap[b]?/\¬ ownR ix w' p b
section
variable {ix:List Nat} {B p:Nat} {w w' w'':World}
theorem Keep.refl (ix:List Nat)(B p:Nat)(w:World):Keep ix B p w w:=⟨Below.refl _ _,fun _ _ h=>⟨rfl,h⟩⟩
theorem Keep.size (h:Keep ix B p w w'):w.heap.size<=w'.heap.size:=h.below.size
theorem Keep.trans (h:Keep ix B p w w')(k:Keep ix B p w' w''):Keep ix B p w w'' :=
 ⟨h.below.trans k.below,fun b hb ho=>by
  obtain⟨h1,h2⟩:=h.rest b hb ho
  obtain⟨h3,h4⟩:=k.rest b (Nat.lt_of_lt_of_le hb h.size) h2
  exact⟨h3.trans h1,h4⟩⟩
theorem Keep.of_ext (h:Ext w w')(hp:p<w.heap.size)(hB:B<=w.heap.size):Keep ix B p w w' :=
 ⟨Below.mono h hB,fun b hb ho=>⟨Below.block h b hb,fun h'=>ho ((ownR_same (Below.block h p hp) b).1 h')⟩⟩
theorem Keep.alloc (o:Obj)(hp:p<w.heap.size)(hB:B<=w.heap.size):Keep ix B p w (w.alloc o):=Keep.of_ext ((Ext.refl w).alloc o) hp hB
theorem Keep.drewN (n:Nat)(h:Keep ix B p w w'):Keep ix B p w (w'.drewN n):=⟨⟨h.below.os,h.below.tape,h.below.output,h.below.size,h.below.block⟩,h.rest⟩
def Held (ix:List Nat) (w:World) (p b:Nat) (o:Obj):Prop:=w.heap[b]?=some o/\¬ ownR ix w p b
theorem Held.lt {b:Nat}{o:Obj}(h:Held ix w p b o):b<w.heap.size:=(Array.getElem?_eq_some_iff.1 h.1).1
theorem Held.keep {b:Nat}{o:Obj}(h:Held ix w p b o)(k:Keep ix B p w w'):Held ix w' p b o:=by
 obtain⟨h1,h2⟩:=k.rest b h.lt h.2
 exact⟨h1.trans h.1,h2⟩
theorem Held.ext {b:Nat}{o:Obj}(h:Held ix w p b o)(k:Ext w w')(hp:p<w.heap.size):Held ix w' p b o :=
 h.keep (B:=0) (Keep.of_ext k hp (Nat.zero_le _))
theorem Held.alloc {b:Nat}{o:Obj}(h:Held ix w p b o)(o':Obj)(hp:p<w.heap.size):Held ix (w.alloc o') p b o:=h.ext ((Ext.refl w).alloc o') hp
theorem Held.cells {b:Nat}{cs:Array Value}{t:TypeId}{fz:Nat × Nat}(h:Held ix w p b (.cells cs t fz))(i:Nat):w.cell? ⟨b,i,none⟩=cs[i]?:=cell_of_heap h.1 i
end
theorem row_ext {w w':World}{base e size n:Nat}{v:Value}{xs:List Value}(h:w.ownsRow base e size v n xs)(hx:Ext w w'):w'.ownsRow base e size v n xs :=
 h.kept (row:=none) ⟨hx.os,hx.tape,hx.output,hx.size,fun k hk _=>hx.block k hk⟩ (by cases v.ownBlock <;> simp)
theorem rows_apart {w:World}{B B' e e' s s' n n':Nat}{v v':Value}{xs xs':List Value}(h:w.ownsRow B e s v n xs)(h':w.ownsRow B' e' s' v' n' xs')(he:e≠e') :
  v.ownBlock=none∨v.ownBlock≠v'.ownBlock:=by
 rcases h.2 with⟨rfl,_⟩ | ⟨g,cap,cur,rfl,_,hg,_⟩
 · exact .inl rfl
 · refine .inr fun hb=>?_
   rcases h'.2 with⟨rfl,_⟩ | ⟨g',cap',cur',rfl,_,hg',_⟩
   · simp [Value.ownBlock] at hb
   · simp only [Value.ownBlock,Option.some.injEq] at hb
     subst hb
     rw [hg] at hg'
     injection hg' with hg'
     injection hg' with _ e2
     exact he e2
theorem row_not {w:World}{B e s n:Nat}{v:Value}{xs:List Value}(h:w.ownsRow B e s v n xs){b:Nat}{cs:Array Value}{t:TypeId}{fz:Nat × Nat}(hb:w.heap[b]?=some (.cells cs t fz))(he:e≠t) :
  v.ownBlock≠some b:=by
 intro hv
 rcases h.2 with⟨rfl,_⟩ | ⟨g,cap,cur,rfl,_,hg,_⟩
 · simp [Value.ownBlock] at hv
 · simp only [Value.ownBlock,Option.some.injEq] at hv
   subst hv;rw [hg] at hb
   injection hb with hb
   injection hb with _ e2
   exact he e2
def accVals (l:List Acc):List Value:=l.flatMap fun a=>[V Z a.kind,V Z a.cell,V Z a.val]
def ntVals (l:List Nt):List Value:=l.flatMap fun a=>[V Z a.kind,V Z a.pos]
def LocIs (L:List Int) (f:Nat->Int):Prop:=∀ i,f i=L.getD i 0
def maxAns:Nat:=1000000000
structure PMem (B:Nat) (w:World) (p:Nat) (S:TS) (st:Int) (vA vL vC vN:Value) (L:List Int):Prop where
 ge:B<=p
 heap:w.heap[p]?=some (.cells #[V Z st,vA,vL,vC,vN] 90 (0,0))
 ans:Ints w vA S.ans
 ansB:∀ b,vA.ownBlock=some b->b<B
 rowL:w.ownsRow B 3 1 vL L.length (L.map (V Z))
 rowC:w.ownsRow B 112 3 vC S.acc.length (accVals S.acc)
 rowN:w.ownsRow B 114 2 vN S.nts.length (ntVals S.nts)
 loc:LocIs L S.loc
 locN:L.length<=32768
 accN:S.acc.length<=S.ans.length+1
 ansN:S.ans.length<=maxAns
 ntsN:S.nts.length<=maxAns
def Plays (B:Nat) (w:World) (p:Nat) (S:TS):Prop:=S.acc.length<=S.ans.length/\∃ vA vL vC vN L,PMem B w p S 1 vA vL vC vN L
def Stops (B:Nat) (w:World) (p:Nat) (S:TS):Prop:=∃ vA vL vC vN L,PMem B w p S 2 vA vL vC vN L
abbrev KeepP (B p:Nat) (w w':World):Prop:=Keep [2,3,4] B p w w'
abbrev HeldP (w:World) (p b:Nat) (o:Obj):Prop:=Held [2,3,4] w p b o
section
variable {B p:Nat} {w w':World} {S:TS} {st:Int} {vA vL vC vN:Value} {L:List Int}
theorem PMem.lt (h:PMem B w p S st vA vL vC vN L):p<w.heap.size:=(Array.getElem?_eq_some_iff.1 h.heap).1
theorem PMem.own (h:PMem B w p S st vA vL vC vN L){b:Nat}(hb:ownR [2,3,4] w p b):B<=b/\b<w.heap.size:=by
 rcases hb with rfl | ⟨i,hi,v,hv,hvb⟩
 · exact⟨h.ge,h.lt⟩
 · have e:=cell_of_heap h.heap i
   simp only [List.mem_cons,List.not_mem_nil,or_false] at hi
   rcases hi with rfl | rfl | rfl
   · obtain rfl:vL=v:=by rw [e] at hv;simpa using hv
     exact h.rowL.lt b hvb
   · obtain rfl:vC=v:=by rw [e] at hv;simpa using hv
     exact h.rowC.lt b hvb
   · obtain rfl:vN=v:=by rw [e] at hv;simpa using hv
     exact h.rowN.lt b hvb
theorem PMem.ext (h:PMem B w p S st vA vL vC vN L)(hx:Ext w w'):PMem B w' p S st vA vL vC vN L :=
 { h with heap:=(Below.block hx p h.lt).trans h.heap,ans:=h.ans.ext hx,rowL:=row_ext h.rowL hx,rowC:=row_ext h.rowC hx,rowN:=row_ext h.rowN hx }
theorem Plays.ext (h:Plays B w p S)(hx:Ext w w'):Plays B w' p S:=by
 obtain⟨h0,vA,vL,vC,vN,L,h⟩:=h
 exact⟨h0,vA,vL,vC,vN,L,h.ext hx⟩
theorem Plays.alloc (h:Plays B w p S)(o:Obj):Plays B (w.alloc o) p S:=h.ext ((Ext.refl w).alloc o)
theorem Plays.lt (h:Plays B w p S):p<w.heap.size:=by obtain⟨_,_,_,_,_,_,h⟩:=h;exact h.lt
theorem Plays.le (h:Plays B w p S):B<=w.heap.size:=by obtain⟨_,_,_,_,_,_,h⟩:=h;have:=h.lt;have:=h.ge;omega
theorem Plays.held (h:Plays B w p S)(o:Obj):HeldP (w.alloc o) p w.heap.size o:=by
 refine⟨heap_alloc_new w o,fun ho=>?_⟩
 obtain⟨_,_,_,_,_,_,h⟩:=h
 have h1:=(ownR_same (w:=w) (Below.heap_alloc w o p h.lt) _).1 ho
 have:=(h.own h1).2
 omega
end
theorem Plays.entry {B p:Nat}{S:TS}{w:World}(h:Plays B w p S)(a:Obj):HeldP (w.alloc a) p w.heap.size a/\Keep [2,3,4] B p w (w.alloc a)/\Plays B (w.alloc a) p S :=
 ⟨h.held a,(Keep.refl [2,3,4] B p w).trans (Keep.alloc a h.lt h.le),h.alloc a⟩
theorem Plays.entry2 {B p:Nat}{S:TS}{w:World}(h:Plays B w p S)(a b:Obj):HeldP ((w.alloc a).alloc b) p w.heap.size a/\HeldP ((w.alloc a).alloc b) p (w.heap.size+1) b/\Keep [2,3,4] B p w ((w.alloc a).alloc b)/\Plays B ((w.alloc a).alloc b) p S:=by
 have h2:=(h.alloc a).held b
 rw [World.size_alloc] at h2
 exact⟨(h.held a).alloc b (h.alloc a).lt,h2,((Keep.refl [2,3,4] B p w).trans (Keep.alloc a h.lt h.le)).trans (Keep.alloc b (h.alloc a).lt (h.alloc a).le),(h.alloc a).alloc b⟩
theorem info_acc:(Tryz.prog.info? 112).map (fun i=>(i.zero,i.size,i.bytes))=some (some (.agg #[V Z 0,V Z 0,V Z 0]),3,24):=by kernel_rfl
theorem info_note:(Tryz.prog.info? 114).map (fun i=>(i.zero,i.size,i.bytes))=some (some (.agg #[V Z 0,V Z 0]),2,16):=by kernel_rfl
theorem accVals_snoc (l:List Acc)(a:Acc):accVals (l++[a])=accVals l++[V Z a.kind,V Z a.cell,V Z a.val]:=by simp [accVals]
theorem ntVals_snoc (l:List Nt)(a:Nt):ntVals (l++[a])=ntVals l++[V Z a.kind,V Z a.pos]:=by simp [ntVals]
theorem heap_setCell {w:World}{b i:Nat}{cs:Array Value}{t:TypeId}{fz:Nat × Nat}(h:w.heap[b]?=some (.cells cs t fz))(v:Value) :
  (w.setCell ⟨b,i,none⟩ v).heap[b]?=some (.cells (cs.setIfInBounds i v) t fz):=by
 simp [World.setCell,Array.getElem?_modify,h]
theorem heap_setCell_ne (w:World){b i k:Nat}(v:Value)(h:k≠b):(w.setCell ⟨b,i,none⟩ v).heap[k]?=w.heap[k]?:=Below.heap_setCell _ _ _ _ h
theorem frozen_of_heap {w:World}{b:Nat}{cs:Array Value}{t:TypeId}(h:w.heap[b]?=some (.cells cs t (0,0)))(i:Nat):w.frozen? ⟨b,i,none⟩=false:=by
 simp [World.frozen?,h]
theorem grown_heap {w w1:World}{b:Nat}{o:Obj}{row:Option Nat}(h:w.heap[b]?=some o)(hv:row≠some b)(hg:w.grownBy w1 row):w1.heap[b]?=some o:=by
 have hb:=(Array.getElem?_eq_some_iff.1 h).1
 rw [hg.block b hb (fun e=>hv e.symm),h]
theorem ints_grown {w w1:World}{v:Value}{l:List Int}{row:Option Nat}(h:Ints w v l)(hg:w.grownBy w1 row)(hv:∀ b,v.ownBlock=some b->row≠some b):Ints w1 v l:=by
 obtain⟨A,c,rfl,h1,h2,h3⟩:=h
 refine⟨A,c,rfl,h1,h2,fun hl=>?_⟩
 obtain⟨b,off,rfl,hb,hc⟩:=h3 hl
 refine⟨b,off,rfl,Nat.lt_of_lt_of_le hb hg.size,fun i x hi=>?_⟩
 rw [<- hc i x hi]
 exact World.cell?_of_block (w:=w) (hg.block b hb (fun e=>hv b rfl e.symm))
theorem ints_set {w:World}{v:Value}{l:List Int}(h:Ints w v l)(a:Addr)(u:Value)(hv:∀ b,v.ownBlock=some b->b≠a.block):Ints (w.setCell a u) v l:=by
 obtain⟨A,c,rfl,h1,h2,h3⟩:=h
 refine⟨A,c,rfl,h1,h2,fun hl=>?_⟩
 obtain⟨b,off,rfl,hb,hc⟩:=h3 hl
 refine⟨b,off,rfl,by simpa using hb,fun i x hi=>?_⟩
 rw [<- hc i x hi]
 exact World.cell?_of_block (w:=w) (Below.heap_setCell _ _ _ _ (hv b rfl))
section
variable {B p:Nat} {w w1:World} {S:TS} {st:Int} {vA vL vC vN:Value} {L:List Int}
theorem PMem.cNe (h:PMem B w p S st vA vL vC vN L):vL.ownBlock≠some p/\vC.ownBlock≠some p/\vN.ownBlock≠some p :=
 ⟨row_not h.rowL h.heap (by decide),row_not h.rowC h.heap (by decide),row_not h.rowN h.heap (by decide)⟩
theorem keep_field {B p:Nat}{w w1:World}{cs cs':Array Value}{t:TypeId}{ix:List Nat}{row:Option Nat}{u:Value}{i:Nat}(hB:B<=p)(hp:w.heap[p]?=some (.cells cs t (0,0)))(hg:w.grownBy w1 row)(hr:∀ b,row=some b->B<=b/\ownR ix w p b)
  (hne:row≠some p)(_:cs'=cs.setIfInBounds i u)(hu:∀ b,u.ownBlock=some b->ownR ix w p b∨w.heap.size<=b):Keep ix B p w (w1.setCell ⟨p,i,none⟩ u):=by
 have hp1:=grown_heap hp hne hg
 have hp2:=heap_setCell (i:=i) hp1 u
 refine⟨⟨hg.os,hg.tape,hg.output,by have:=hg.size;simpa using this,fun k hk=>?_⟩,fun b hb ho=>⟨?_,fun h'=>?_⟩⟩
 · rw [heap_setCell_ne _ _ (by omega),hg.block k (by have:=(Array.getElem?_eq_some_iff.1 hp).1;omega) (fun e=>by have:=(hr k e.symm).1;omega)]
 · rw [heap_setCell_ne _ _ (fun e=>ho (.inl e)),hg.block b hb (fun e=>ho (hr b e.symm).2)]
 · rcases h' with rfl | ⟨j,hj,v,hv,hvb⟩
   · exact ho (.inl rfl)
   · rw [cell_of_heap hp2] at hv
     by_cases e:i=j
     · subst e
       rw [Array.getElem?_setIfInBounds] at hv
       split at hv
       · split at hv
         · injection hv with hv
           subst hv
           rcases hu b hvb with h1 | h1
           · exact ho h1
           · omega
         · cases hv
       · rename_i e;exact e rfl
     · rw [Array.getElem?_setIfInBounds_ne e] at hv
       exact ho (.inr ⟨j,hj,v,(cell_of_heap hp j).trans hv,hvb⟩)
theorem row_set {B e s n p i:Nat}{v u:Value}{xs:List Value}(h:w1.ownsRow B e s v n xs)(hne:v.ownBlock≠some p):(w1.setCell ⟨p,i,none⟩ u).ownsRow B e s v n xs :=
 ownsRow_setCell_other h (a:=⟨p,i,none⟩) hne u
theorem ownR_at {cs:Array Value}{t:TypeId}{ix:List Nat}{i:Nat}{v:Value}(hp:w.heap[p]?=some (.cells cs t (0,0)))(hi:i∈ix)(hv:cs[i]?=some v){b:Nat}(hb:v.ownBlock=some b):ownR ix w p b :=
 .inr ⟨i,hi,v,(cell_of_heap hp i).trans hv,hb⟩
theorem PMem.state (h:PMem B w p S st vA vL vC vN L)(st':Int):PMem B (w.setCell ⟨p,0,none⟩ (V Z st')) p S st' vA vL vC vN L/\KeepP B p w (w.setCell ⟨p,0,none⟩ (V Z st')):=by
 obtain⟨nL,nC,nN⟩:=h.cNe
 refine⟨{ h with heap:=heap_setCell h.heap _,ans:=ints_set h.ans _ _ ?_,rowL:=row_set h.rowL nL,rowC:=row_set h.rowC nC,rowN:=row_set h.rowN nN },?_⟩
 · intro b hb
   have:=h.ansB b hb
   have:=h.ge
   show b≠p
   omega
 · exact keep_field (row:=none) h.ge h.heap (World.grownBy.refl _ _) (fun b hb=>by cases hb) (by simp) rfl (fun b hb=>by simp [Value.ownBlock] at hb)
theorem PMem.grewC (h:PMem B w p S st vA vL vC vN L)(a:Acc){g cap:Nat}(hg:w.grownBy w1 vC.ownBlock)(hat:vC.ownBlock=some g∨w.heap.size<=g)
  (hown:w1.ownsRow B 112 3 (.slice (some ⟨g,0,none⟩) (S.acc.length+1) cap) (S.acc.length+1) (accVals S.acc++[V Z a.kind,V Z a.cell,V Z a.val]))(hl:S.acc.length<=S.ans.length) :
  PMem B (w1.setCell ⟨p,3,none⟩ (.slice (some ⟨g,0,none⟩) (S.acc.length+1) cap)) p (S.put a) st vA vL (.slice (some ⟨g,0,none⟩) (S.acc.length+1) cap) vN L /\
   KeepP B p w (w1.setCell ⟨p,3,none⟩ (.slice (some ⟨g,0,none⟩) (S.acc.length+1) cap)):=by
 obtain⟨nL,nC,nN⟩:=h.cNe
 have hp1:=grown_heap h.heap nC hg
 have hgp:(Value.slice (some ⟨g,0,none⟩) (S.acc.length+1) cap).ownBlock≠some p:=row_not hown hp1 (by decide)
 refine⟨?_,?_⟩
 · refine { ge:=h.ge,heap:=heap_setCell hp1 _,ans:=ints_set (ints_grown h.ans hg ?_) _ _ ?_,ansB:=h.ansB,rowL:=row_set (h.rowL.kept hg (rows_apart h.rowL h.rowC (by decide))) nL,rowC:=?_,rowN:=row_set (h.rowN.kept hg (rows_apart h.rowN h.rowC (by decide))) nN,loc:=h.loc,locN:=h.locN,accN:=?_,ansN:=h.ansN,ntsN:=h.ntsN }
   · intro b hb e
     have:=h.ansB b hb
     have:=(h.rowC.lt b e).1
     omega
   · intro b hb
     have:=h.ansB b hb
     have:=h.ge
     show b≠p
     omega
   · have e:(S.put a).acc=S.acc++[a]:=rfl
     rw [e,accVals_snoc,List.length_append,List.length_singleton]
     exact row_set hown hgp
   · have e:(S.put a).acc=S.acc++[a]:=rfl
     rw [e,List.length_append,List.length_singleton]
     show S.acc.length+1<=S.ans.length+1
     omega
 · refine keep_field h.ge h.heap hg (fun b hb=>⟨(h.rowC.lt b hb).1,ownR_at h.heap (by simp) (i:=3) rfl hb⟩) nC rfl fun b hb=>?_
   obtain rfl:g=b:=by simpa [Value.ownBlock] using hb
   rcases hat with h1 | h1
   · exact .inl (ownR_at h.heap (by simp) (i:=3) rfl h1)
   · exact .inr h1
theorem PMem.grewN (h:PMem B w p S st vA vL vC vN L)(n:Int){g cap:Nat}(hg:w.grownBy w1 vN.ownBlock)(hat:vN.ownBlock=some g∨w.heap.size<=g)
  (hown:w1.ownsRow B 114 2 (.slice (some ⟨g,0,none⟩) (S.nts.length+1) cap) (S.nts.length+1) (ntVals S.nts++[V Z n,V Z (S.acc.length:Nat)]))(hl:S.nts.length<maxAns) :
  PMem B (w1.setCell ⟨p,4,none⟩ (.slice (some ⟨g,0,none⟩) (S.nts.length+1) cap)) p (S.noted n) st vA vL vC (.slice (some ⟨g,0,none⟩) (S.nts.length+1) cap) L /\
   KeepP B p w (w1.setCell ⟨p,4,none⟩ (.slice (some ⟨g,0,none⟩) (S.nts.length+1) cap)):=by
 obtain⟨nL,nC,nN⟩:=h.cNe
 have hp1:=grown_heap h.heap nN hg
 have hgp:(Value.slice (some ⟨g,0,none⟩) (S.nts.length+1) cap).ownBlock≠some p:=row_not hown hp1 (by decide)
 refine⟨?_,?_⟩
 · refine { ge:=h.ge,heap:=heap_setCell hp1 _,ans:=ints_set (ints_grown h.ans hg ?_) _ _ ?_,ansB:=h.ansB,rowL:=row_set (h.rowL.kept hg (rows_apart h.rowL h.rowN (by decide))) nL,rowN:=?_,rowC:=row_set (h.rowC.kept hg (rows_apart h.rowC h.rowN (by decide))) nC,loc:=h.loc,locN:=h.locN,accN:=h.accN,ansN:=h.ansN,ntsN:=?_ }
   · intro b hb e
     have:=h.ansB b hb
     have:=(h.rowN.lt b e).1
     omega
   · intro b hb
     have:=h.ansB b hb
     have:=h.ge
     show b≠p
     omega
   · have e:(S.noted n).nts=S.nts++[⟨n,(S.acc.length:Int)⟩]:=rfl
     rw [e,ntVals_snoc,List.length_append,List.length_singleton]
     exact row_set hown hgp
   · have e:(S.noted n).nts=S.nts++[⟨n,(S.acc.length:Int)⟩]:=rfl
     rw [e,List.length_append,List.length_singleton]
     omega
 · refine keep_field h.ge h.heap hg (fun b hb=>⟨(h.rowN.lt b hb).1,ownR_at h.heap (by simp) (i:=4) rfl hb⟩) nN rfl fun b hb=>?_
   obtain rfl:g=b:=by simpa [Value.ownBlock] using hb
   rcases hat with h1 | h1
   · exact .inl (ownR_at h.heap (by simp) (i:=4) rfl h1)
   · exact .inr h1
end
theorem cells_new2 (w:World)(O:Obj)(cs:Array Value)(t:TypeId):∀ (j:Nat) (u:Value),cs.toList[j]?=some u->(((w.alloc O).alloc (.cells cs t)).drew).cell? ((⟨w.heap.size+1,0,none⟩:Addr).add j)=some u:=by
 intro j u hu
 rw [Addr.add_lit,Nat.zero_add]
 refine (cell_of_heap (w:=((w.alloc O).alloc (.cells cs t)).drew) (b:=w.heap.size+1) (cs:=cs) (t:=t) (fz:=(0,0)) ?_ j).trans (by simpa using hu)
 have:=heap_alloc_new (w.alloc O) (.cells cs t)
 rw [World.size_alloc] at this
 exact this
theorem cells_new1 (w:World)(cs:Array Value)(t:TypeId):∀ (j:Nat) (u:Value),cs.toList[j]?=some u->((w.alloc (.cells cs t)).drew).cell? ((⟨w.heap.size,0,none⟩:Addr).add j)=some u:=by
 intro j u hu
 rw [Addr.add_lit,Nat.zero_add]
 exact (cell_of_heap (w:=(w.alloc (.cells cs t)).drew) (b:=w.heap.size) (cs:=cs) (t:=t) (fz:=(0,0)) (heap_alloc_new w (.cells cs t)) j).trans (by simpa using hu)
theorem grown1 {w w1:World}{O:Obj}{row:Option Nat}(hg:((w.alloc O).drew).grownBy w1 row):w.grownBy w1 row :=
 World.grownBy.trans (World.grownBy_alloc w O row) ⟨hg.os,hg.tape,hg.output,hg.size,hg.block⟩
theorem grown2 {w w1:World}{O O':Obj}{row:Option Nat}(hg:(((w.alloc O).alloc O').drew).grownBy w1 row):w.grownBy w1 row :=
 World.grownBy.trans (World.grownBy_alloc w O row) (World.grownBy.trans (World.grownBy_alloc _ O' row) ⟨hg.os,hg.tape,hg.output,hg.size,hg.block⟩)
set_option maxRecDepth 100000 in
theorem ask_p (B p:Nat)(S:TS)(k c v x:Int)(w:World)(h:Plays B w p S)(hx:S.next=some x) :
  Calls Tryz.prog 222 #[.pointer (some ⟨p,0,none⟩),.agg #[V Z k,V Z c,V Z v]] w fun e w'=>e=.returned (V Z x)/\Plays B w' p (S.put ⟨k,c,v⟩)/\KeepP B p w w':=by
 obtain⟨h1,vA,vL,vC,vN,L,h⟩:=h
 have hlt:S.acc.length<S.ans.length:=by
  unfold TS.next at hx
  exact (List.getElem?_eq_some_iff.1 hx).1
 have hx2:=Hd (show S.ans.getD S.acc.length 0=x by
  unfold TS.next at hx
  simp [List.getD,hx])
 clear hx
 have hc:=cell_of_heap h.heap
 have hbo:=h.ansN;unfold maxAns at hbo;have hle:=h.lt;have hge:=h.ge
 obtain⟨Aa,ca,rfl,ha1,ha2⟩:=h.ans.slice
 obtain⟨Ac,cc,hvC⟩:∃ A c,vC=.slice A S.acc.length c:=by
  rcases h.rowC.2 with⟨rfl,h0⟩ | ⟨g,cap,cur,rfl,_⟩
  · exact⟨none,0,by rw [h0]⟩
  · exact⟨_,_,rfl⟩
 subst hvC
 have hL:=Hd h
 have hlt2:=Hd hlt
 clear h hlt
 obtain⟨i0,hi,hz0,hz1,hz2⟩:=info_parts info_acc
 go_enter Tryz.func222,Tryz.ntmps222
 go_wp2_with fail
 go_region_law ((refine step_append_lies _ (by rfl) _ _ _ (by rfl) B 112 i0 _ 3 24 Tryz.underlying27 hi hz0 hz1 hz2 rfl (by omega) (Value.slice Ac S.acc.length cc) S.acc.length (accVals S.acc) (by rfl) (((World.ownsRow.alloc hL.out.rowC _).drew).alloc _) ⟨w.heap.size+1,0,none⟩ 1 1 [V Z k,V Z c,V Z v] (by rfl) (by rfl) (cells_new2 w _ _ _) (by simp [Value.oneCell']) (by omega) (by unfold maxLen;omega) (by omega) (by simp;omega) (w.heap.size+2) (by simp) ?_;intro gg cap w1 hown1 hgrow hat hlt;have hp1:=grown_heap hL.out.heap hL.out.cNe.2.1 (grown2 hgrow);have hq1:=cell_of_heap hp1;have hf1:=frozen_of_heap hp1))
 all_goals
  obtain⟨HM,HK⟩:=hL.out.grewC ⟨k,c,v⟩ (grown2 hgrow) (hat.imp id (by omega)) hown1 h1
  clear hown1 hgrow hat hlt hp1 hq1 hf1 hc
  generalize hv':(Value.slice (some ⟨gg,0,none⟩) (S.acc.length+1) cap)=v' at *
  generalize w1.setCell ⟨p,3,none⟩ v'=W at *
  clear hv' w1
  have hq:=cell_of_heap HM.heap
  have hlt:=hlt2.out
  obtain⟨b,off,rfl,hb,hcell⟩:=HM.ans.at_ (show S.acc.length<S.ans.length from hlt)
  rw [show (S.put ⟨k,c,v⟩).ans.getD S.acc.length 0=x from hx2.out] at hcell
  have HF:Plays B W p (S.put ⟨k,c,v⟩):=⟨by show (S.acc++_).length<=S.ans.length;simp;omega,_,_,_,_,_,HM⟩
  have HKh:=Hd HK
  clear HM HK;go_wp2_with fail
  go_ret
  exact⟨rfl,HF,HKh.out⟩
set_option maxRecDepth 100000 in
theorem ask_s (B p:Nat)(S:TS)(k c v:Int)(w:World)(h:Plays B w p S)(hx:S.next=none) :
  Calls Tryz.prog 222 #[.pointer (some ⟨p,0,none⟩),.agg #[V Z k,V Z c,V Z v]] w fun e w'=>e=.panicked [{ v:=.iface 92 (.agg #[.pointer (some ⟨p,0,none⟩)]),recovered:=false }]/\Stops B w' p (S.put ⟨k,c,v⟩)/\KeepP B p w w':=by
 obtain⟨h1,vA,vL,vC,vN,L,h⟩:=h
 have hlt:S.acc.length=S.ans.length:=by
  unfold TS.next at hx
  have:=List.getElem?_eq_none_iff.1 hx
  omega
 clear hx
 have hc:=cell_of_heap h.heap
 have hbo:=h.ansN;unfold maxAns at hbo;have hle:=h.lt;have hge:=h.ge
 obtain⟨Aa,ca,rfl,ha1,ha2⟩:=h.ans.slice
 obtain⟨Ac,cc,hvC⟩:∃ A c,vC=.slice A S.acc.length c:=by
  rcases h.rowC.2 with⟨rfl,h0⟩ | ⟨g,cap,cur,rfl,_⟩
  · exact⟨none,0,by rw [h0]⟩
  · exact⟨_,_,rfl⟩
 subst hvC
 have hL:=Hd h
 have hlt2:=Hd hlt
 clear h hlt
 obtain⟨i0,hi,hz0,hz1,hz2⟩:=info_parts info_acc
 go_enter Tryz.func222,Tryz.ntmps222
 go_wp2_with fail
 go_region_law ((refine step_append_lies _ (by rfl) _ _ _ (by rfl) B 112 i0 _ 3 24 Tryz.underlying27 hi hz0 hz1 hz2 rfl (by omega) (Value.slice Ac S.acc.length cc) S.acc.length (accVals S.acc) (by rfl) (((World.ownsRow.alloc hL.out.rowC _).drew).alloc _) ⟨w.heap.size+1,0,none⟩ 1 1 [V Z k,V Z c,V Z v] (by rfl) (by rfl) (cells_new2 w _ _ _) (by simp [Value.oneCell']) (by omega) (by unfold maxLen;omega) (by omega) (by simp;omega) (w.heap.size+2) (by simp) ?_;intro gg cap w1 hown1 hgrow hat hlt;have hp1:=grown_heap hL.out.heap hL.out.cNe.2.1 (grown2 hgrow);have hq1:=cell_of_heap hp1;have hf1:=frozen_of_heap hp1))
 all_goals
  obtain⟨HM,HK⟩:=hL.out.grewC ⟨k,c,v⟩ (grown2 hgrow) (hat.imp id (by omega)) hown1 h1
  clear hown1 hgrow hat hlt hp1 hq1 hf1 hc
  generalize hv':(Value.slice (some ⟨gg,0,none⟩) (S.acc.length+1) cap)=v' at *
  generalize w1.setCell ⟨p,3,none⟩ v'=W at *
  clear hv' w1
  have hq:=cell_of_heap HM.heap
  have hle:S.ans.length<=S.acc.length:=by have:=hlt2.out;omega
  have hfz:=frozen_of_heap HM.heap
  have HMh:=Hd HM
  have HKh:=Hd HK
  clear HM HK;go_wp2_with fail
  obtain⟨HM2,HK2⟩:=HMh.out.state 2
  exact⟨rfl,rfl,⟨_,_,_,_,_,HM2⟩,HKh.out.trans HK2⟩
theorem got_at {S:TS}{L:List Int}(h:LocIs L S.loc)(i:Nat):S.got i=L.getD i 0:=by
 unfold TS.got
 rw [if_neg (by omega),Int.toNat_natCast]
 exact h i
theorem got_out {S:TS}{L:List Int}(h:LocIs L S.loc)(i:Nat)(hi:L.length<=i):S.got i=0:=by
 rw [got_at h];simp [List.getD,List.getElem?_eq_none hi]
theorem got_neg {S:TS}{i:Int}(h:i<0):S.got i=0:=by unfold TS.got;rw [if_pos h]
theorem get_p (B p:Nat)(S:TS)(i:Int)(w:World)(h:Plays B w p S) :
  Calls Tryz.prog 95 #[.pointer (some ⟨p,0,none⟩),V Z i] w fun e w'=>e=.returned (V Z (S.got i))/\w=w':=by
 obtain⟨_,vA,vL,vC,vN,L,h⟩:=h
 have hc:=cell_of_heap h.heap
 have hI:Ints w vL L:=IntRow.ints h.rowL
 by_cases h0:i<0
 · rw [got_neg h0]
   go_enter Tryz.func95,Tryz.ntmps95
   go_wp2_with fail
   go_ret
   exact⟨rfl,rfl⟩
 · obtain⟨i,rfl⟩:∃ n:Nat,i=(n:Int):=⟨i.toNat,by omega⟩
   obtain⟨A,c,rfl,hc1,hc2⟩:=hI.slice
   by_cases h1:i<L.length
   · obtain⟨b,off,rfl,hb,hcell⟩:=hI.at_ h1
     rw [got_at h.loc]
     clear h hI
     go_enter Tryz.func95,Tryz.ntmps95
     go_wp2_with fail
     go_ret
     exact⟨rfl,rfl⟩
   · rw [got_out h.loc i (by omega)]
     clear h hI
     go_enter Tryz.func95,Tryz.ntmps95
     go_wp2_with fail
     go_ret
     exact⟨rfl,rfl⟩
end Go.Proofs.YtbaajjkopdjbgaaGreat
namespace Go.Proofs.YtbaajjkopdjbgaaGreat
section
variable {P:Program} (w:World)
theorem zeroCells_one (z:Value)(m:Nat):(Builtin.zeroCells #[z] m)=(List.replicate m z).toArray:=by
 apply Array.ext'
 simp only [Builtin.zeroCells,Array.toList_map,Array.toList_range]
 apply List.ext_getElem?
 intro j
 by_cases hj:j<m
 · simp [hj,Nat.mod_one]
 · simp [hj]
theorem run_append_zeros (t u ty:TypeId)(base:Nat)(e:TypeId)(i:TypeInfo)(z:Value)(bytes:Nat)(k:IntKind)(ht:P.underlying t=some (.slice e))(hu:P.underlying u=some (.int k))(hi:P.info? e=some i)(hz:i.zero=some z)
  (hsize:i.size=1)(hby:i.bytes=bytes)(hzs:z.cells=#[z])(hz1:z.oneCell'=true)
  (v:Value)(n:Nat)(xs:List Value)(hown:w.ownsRow base e 1 v n xs)(m:Nat)(hm:0<m)(h63:n+m<=maxLen)(hbytes:(n+m)*bytes<=140737488355328)(hbase:base<=w.heap.size) :
  ∃ g cap w',(Builtin.append_ #[t,u] ty #[v,.int k m]).run P w=.ok (.slice (some ⟨g,0,none⟩) (n+m) cap) w' /\
   w'.ownsRow base e 1 (.slice (some ⟨g,0,none⟩) (n+m) cap) (n+m) (xs++List.replicate m z)/\w.grownBy w' v.ownBlock/\(v.ownBlock=some g∨g=w.heap.size):=by
 subst hby
 have hsmall:n+m<=9223372036854775807:=by simpa only [maxLen] using h63
 have hw64:IntKind.i64.wrap (m:Int)=m:=by rw [IntKind.wrap_i64];omega
 have hm0:¬ ((m:Int)<0):=by omega
 have hmb:¬ (281474976710656<(m:Int)*(i.bytes:Int)):=by
  have h1:m*i.bytes<=(n+m)*i.bytes:=Nat.mul_le_mul_right _ (by omega)
  have h2:((m*i.bytes:Nat):Int)<=140737488355328:=by omega
  rw [Int.natCast_mul] at h2;omega
 have hmz:¬ (m=0):=by omega
 have hlen:(xs++List.replicate m z).length=(n+m)*1:=by rw [List.length_append,hown.1,List.length_replicate];omega
 have hxs:xs.length=n:=by have:=hown.1;omega
 have hzc:=zeroCells_one z
 have grown:∀ (old:Nat),old<n+m->∀ (row:Option Nat),
   (w.drew.alloc (.cells (xs.toArray++(List.replicate m z).toArray++Builtin.zeroCells z.cells (grownCap w (n+m) old e-(n+m))) e)).ownsRow base e 1
     (.slice (some ⟨w.heap.size,0,none⟩) (n+m) (grownCap w (n+m) old e)) (n+m) (xs++List.replicate m z) /\
   w.grownBy (w.drew.alloc (.cells (xs.toArray++(List.replicate m z).toArray++Builtin.zeroCells z.cells (grownCap w (n+m) old e-(n+m))) e)) row:=by
  intro old ho row
  have hge:=grownCap_ge w (n+m) old e
  have hcm:grownCap w (n+m) old e<=maxLen:=grownCap_le_maxLen w (n+m) old e h63
  refine⟨⟨hlen,.inr ⟨w.heap.size,_,_,rfl,hbase,heap_alloc_new w.drew _,hge,hcm,?_,?_⟩⟩,⟨rfl,rfl,rfl,by simp,fun k hk _=>Go.RowKit.Below.heap_alloc w.drew _ k hk⟩⟩
  · simp only [Array.size_append,List.size_toArray,size_zeroCells,hzs,List.length_replicate,hxs]
    simp
    omega
  · simp only [Array.toList_append,List.append_assoc]
    rw [<- List.append_assoc,<- hlen]
    exact List.take_left
 rcases hown.2 with⟨rfl,rfl⟩ | ⟨g,cap,cur,rfl,hbg,hg,hnc,hcm,hcs,htake⟩
 · obtain rfl:xs=[]:=List.eq_nil_of_length_eq_zero hxs
   have hgr:=grown 0 (by omega) (Value.ownBlock (.slice none 0 0))
   refine⟨w.heap.size,grownCap w (0+m) 0 e,_,?_,hgr.1,hgr.2,.inr rfl⟩
   have h63':¬ (9223372036854775807<(m:Int)):=by omega
   have h48':¬ (281474976710656<Builtin.nextslicecap m 0*i.bytes):=by rw [nextslicecap_zero hm];simp only [Nat.zero_add] at hbytes;omega
   simp [Builtin.append_,run_underlying ht,run_underlying hu,sizeOf,typeInfo,zeroValue,hi,hz,hsize,hw64,hm0,hmb,hmz,h63',h48',Question.forced,Builtin.firstCells,newRow,grownCap,asInt,asIntOf,hzs,hzc]
 · by_cases hroom:n+m<=cap
   · have hfit:n*1+(List.replicate m z).length<=cur.size:=by rw [List.length_replicate,hcs];omega
     have h1:∀ u∈List.replicate m z,u.oneCell'=true:=fun u hu=>by rw [List.eq_of_mem_replicate hu];exact hz1
     have hst:=run_storeCells_at P g (n*1) e (List.replicate m z) 0 cur w hg (by simpa using hfit) h1
     simp only [Nat.add_zero,Nat.mul_one] at hst
     refine⟨g,cap,w.setRow g (cur.toList.take n++List.replicate m z++cur.toList.drop (n+(List.replicate m z).length)).toArray,?_,⟨hlen,.inr ⟨g,cap,_,rfl,hbg,setRow_heap w g cur _ e _ hg,hroom,hcm,?_,?_⟩⟩,⟨rfl,rfl,rfl,by simp,fun k _ hk=>setRow_other w g k _ (fun e=>hk (by simp [Value.ownBlock,e]))⟩,.inl rfl⟩
     · simp [Builtin.append_,run_underlying ht,run_underlying hu,sizeOf,typeInfo,zeroValue,hi,hz,hsize,hw64,hm0,hmb,hmz,hroom,Addr.add_lit,hst,asInt,asIntOf,hzs,hzc]
     · simp only [List.size_toArray,List.length_append,List.length_take,List.length_drop,Array.length_toList]
       simp only [List.length_replicate] at hfit ⊢
       omega
     · have e:((cur.toList.take n++List.replicate m z++cur.toList.drop (n+(List.replicate m z).length)).toArray).toList=(xs++List.replicate m z)++cur.toList.drop (n+(List.replicate m z).length):=by
        rw [<- htake,Nat.mul_one]
       rw [e,<- hlen]
       exact List.take_left
   · have holds:∀ j u,xs[j]?=some u->w.cell? ((⟨g,0,none⟩:Addr).add j)=some u:=hown.cells (g:=g) rfl
     have hgr:=grown cap (by omega) (Value.ownBlock (.slice (some ⟨g,0,none⟩) n cap))
     refine⟨w.heap.size,grownCap w (n+m) cap e,_,?_,hgr.1,hgr.2,.inr rfl⟩
     have hfo:=run_firstCells_some (P:=P) w.drew 1 n ⟨g,0,none⟩ n cap xs (by omega) (by simpa using holds)
     have h63':¬ (9223372036854775807<((n:Int)+(m:Int))):=by omega
     have h48':¬ (281474976710656<Builtin.nextslicecap (n+m) cap*i.bytes):=by have:=growslice_fits (show cap<n+m by omega) hbytes;omega
     simp [Builtin.append_,run_underlying ht,run_underlying hu,sizeOf,typeInfo,zeroValue,hi,hz,hsize,hw64,hm0,hmb,hmz,hroom,h63',h48',Question.forced,hfo,newRow,grownCap,asInt,asIntOf,hzs,hzc]
theorem step_append_zeros {ops:Array Oper}{o:Oper}{a:Act}{K:Act->World->Prop}{Q:Exit->Act->World->Prop}{E:Prop}(hgd:o.guard=none)(s x:Operand)(t u:TypeId)
  (ho:o.op=.call { callee:=.builtin .append,args:=#[s,x],argTypes:=#[t,u] })
  (base:Nat)(e:TypeId)(i:TypeInfo)(z:Value)(bytes:Nat)(k:IntKind)(ht:P.underlying t=some (.slice e))(hu:P.underlying u=some (.int k))(hi:P.info? e=some i)(hz:i.zero=some z)
  (hsize:i.size=1)(hby:i.bytes=bytes)(hzs:z.cells=#[z])(hz1:z.oneCell'=true)
  (v:Value)(n:Nat)(xs:List Value)(hs:a.eval s=v)(hown:w.ownsRow base e 1 v n xs)(m:Nat)(hx:a.eval x=.int k m)(hm:0<m)(h63:n+m<=maxLen)(hbytes:(n+m)*bytes<=140737488355328)(hbase:base<=w.heap.size)
  (h:∀ g cap w',w'.ownsRow base e 1 (.slice (some ⟨g,0,none⟩) (n+m) cap) (n+m) (xs++List.replicate m z)->w.grownBy w' v.ownBlock->(v.ownBlock=some g∨g=w.heap.size)->K (a.put o.dst (.slice (some ⟨g,0,none⟩) (n+m) cap)) w') :
  if Region.wanted o (yielded ops a.tmps)=true then Oper.wp P o a w K Q else E:=by
 have hw:Region.wanted o (yielded ops a.tmps)=true:=by simp [Region.wanted,hgd]
 rw [if_pos hw]
 obtain⟨g,cap,w',hr,h2,h3,h4⟩:=run_append_zeros (P:=P) w t u o.type base e i z bytes k ht hu hi hz hsize hby hzs hz1 v n xs hown m hm h63 hbytes hbase
 unfold Oper.wp execOp
 simp only [ho,resolve,invoke,builtin,Sem.run_bind,Sem.run_pure,Result.andThen_ok,List.map_toArray,List.map_cons,List.map_nil,hs,hx,hr]
 exact h g cap w' h2 h3 h4
end
end Go.Proofs.YtbaajjkopdjbgaaGreat
namespace Go.Proofs.YtbaajjkopdjbgaaGreat
open Go.RowKit Kv
theorem grown0 {w w1:World}{row:Option Nat}(hg:(w.drew).grownBy w1 row):w.grownBy w1 row:=⟨hg.os,hg.tape,hg.output,hg.size,hg.block⟩
section
variable {B p:Nat} {w w1:World} {S:TS} {st:Int} {vA vL vC vN:Value} {L:List Int}
theorem LocIs.set {L:List Int}{f:Nat->Int}(h:LocIs L f)(i:Nat)(hi:i<L.length)(v:Int):LocIs (L.set i v) (fun j=>if j=i then v else f j):=by
 intro j
 by_cases e:j=i
 · subst e;simp [List.getD,hi]
 · simp [List.getD,e,Ne.symm e,h j]
theorem LocIs.zeros {L:List Int}{f:Nat->Int}(h:LocIs L f)(n:Nat):LocIs (L++List.replicate n 0) f:=by
 intro j
 rw [h j]
 simp only [List.getD_eq_getElem?_getD,List.getElem?_append,List.getElem?_replicate]
 split
 · rfl
 · rename_i hj
   rw [List.getElem?_eq_none (by omega)]
   split <;> rfl
theorem TS.upd_in {S:TS}{i:Nat}(h:i<32768)(v:Int):S.upd i v={ S with loc:=fun j=>if j=i then v else S.loc j }:=by
 unfold TS.upd
 rw [if_pos (by omega),Int.toNat_natCast]
theorem TS.upd_out {S:TS}{i v:Int}(h:i<0∨32768<=i):S.upd i v=S:=by
 unfold TS.upd
 rw [if_neg (by omega)]
theorem TS.upd_zero {S:TS}{L:List Int}(h:LocIs L S.loc){i:Nat}(hi:L.length<=i):S.upd i 0=S:=by
 unfold TS.upd
 split
 · obtain⟨a,c,n,f⟩:=S
   congr 1
   funext j
   show (if j=(i:Int).toNat then 0 else f j)=f j
   split
   · subst j
     have h2:f ((i:Int).toNat)=L.getD ((i:Int).toNat) 0:=h _
     rw [h2]
     simp [List.getD,List.getElem?_eq_none (show L.length<=i from hi)]
   · rfl
 · rfl
theorem PMem.stored {g cap:Nat}(h:PMem B w p S st vA (.slice (some ⟨g,0,none⟩) L.length cap) vC vN L)(i:Nat)(hi:i<L.length)(v:Int) :
  PMem B (w.setCell ⟨g,i,none⟩ (V Z v)) p (S.upd i v) st vA (.slice (some ⟨g,0,none⟩) L.length cap) vC vN (L.set i v)/\KeepP B p w (w.setCell ⟨g,i,none⟩ (V Z v)):=by
 obtain⟨nL,nC,nN⟩:=h.cNe
 have hgp:g≠p:=fun e=>nL (by rw [e];rfl)
 obtain⟨hs1,hs2⟩:=h.rowL.stored i (V Z v)
 have hlt:=h.locN
 have hu:=TS.upd_in (S:=S) (show i<32768 by omega) v
 have hgB:=(h.rowL.lt g rfl).1
 refine⟨{ ge:=h.ge,heap:=?_,ans:=?_,ansB:=h.ansB,rowL:=?_,rowC:=?_,rowN:=?_,loc:=?_,locN:=by simpa using h.locN,accN:=?_,ansN:=?_,ntsN:=?_ },?_⟩
 · rw [heap_setCell_ne _ _ (Ne.symm hgp)];exact h.heap
 · rw [hu]
   exact ints_set h.ans _ _ (fun b hb=>by have:=h.ansB b hb;show b≠g;omega)
 · rw [List.map_set,List.length_set];exact hs1
 · rw [hu]
   exact row_set h.rowC (fun e=>by
    have:=rows_apart h.rowC h.rowL (by decide)
    rw [e] at this
    simp [Value.ownBlock] at this)
 · rw [hu]
   exact row_set h.rowN (fun e=>by
    have:=rows_apart h.rowN h.rowL (by decide)
    rw [e] at this
    simp [Value.ownBlock] at this)
 · rw [hu];exact h.loc.set i hi v
 · rw [hu];exact h.accN
 · rw [hu];exact h.ansN
 · rw [hu];exact h.ntsN
 · have ho:ownR [2,3,4] w p g:=ownR_at h.heap (by simp) (i:=2) rfl rfl
   refine⟨⟨rfl,rfl,rfl,by simp,fun k hk=>heap_setCell_ne _ _ (by omega)⟩,fun b hb hn=>⟨heap_setCell_ne _ _ (fun e=>hn (e▸ho)),fun h'=>hn ?_⟩⟩
   exact (ownR_same (heap_setCell_ne _ _ (Ne.symm hgp)) b).1 h'
theorem PMem.grewL (h:PMem B w p S st vA vL vC vN L)(n:Nat){g cap:Nat}(hg:w.grownBy w1 vL.ownBlock)(hat:vL.ownBlock=some g∨w.heap.size<=g)
  (hown:w1.ownsRow B 3 1 (.slice (some ⟨g,0,none⟩) (L.length+n) cap) (L.length+n) (L.map (V Z)++(List.replicate n (V Z 0))))(hl:L.length+n<=32768) :
  PMem B (w1.setCell ⟨p,2,none⟩ (.slice (some ⟨g,0,none⟩) (L.length+n) cap)) p S st vA (.slice (some ⟨g,0,none⟩) (L.length+n) cap) vC vN (L++List.replicate n 0) /\
   KeepP B p w (w1.setCell ⟨p,2,none⟩ (.slice (some ⟨g,0,none⟩) (L.length+n) cap)):=by
 obtain⟨nL,nC,nN⟩:=h.cNe
 have hp1:=grown_heap h.heap nL hg
 have hgp:(Value.slice (some ⟨g,0,none⟩) (L.length+n) cap).ownBlock≠some p:=row_not hown hp1 (by decide)
 refine⟨?_,?_⟩
 · refine { ge:=h.ge,heap:=heap_setCell hp1 _,ans:=ints_set (ints_grown h.ans hg ?_) _ _ ?_,ansB:=h.ansB,rowC:=row_set (h.rowC.kept hg (rows_apart h.rowC h.rowL (by decide))) nC,rowL:=?_,rowN:=row_set (h.rowN.kept hg (rows_apart h.rowN h.rowL (by decide))) nN,loc:=h.loc.zeros n,locN:=by simpa using hl,accN:=h.accN,ansN:=h.ansN,ntsN:=h.ntsN }
   · intro b hb e
     have:=h.ansB b hb
     have:=(h.rowL.lt b e).1
     omega
   · intro b hb
     have:=h.ansB b hb
     have:=h.ge
     show b≠p
     omega
   · rw [List.length_append,List.length_replicate,List.map_append,List.map_replicate]
     exact row_set hown hgp
 · refine keep_field h.ge h.heap hg (fun b hb=>⟨(h.rowL.lt b hb).1,ownR_at h.heap (by simp) (i:=2) rfl hb⟩) nL rfl fun b hb=>?_
   obtain rfl:g=b:=by simpa [Value.ownBlock] using hb
   rcases hat with h1 | h1
   · exact .inl (ownR_at h.heap (by simp) (i:=2) rfl h1)
   · exact .inr h1
end
set_option maxRecDepth 100000 in
theorem set_p (B p:Nat)(S:TS)(i v:Int)(w:World)(h:Plays B w p S) :
  Calls Tryz.prog 132 #[.pointer (some ⟨p,0,none⟩),V Z i,V Z v] w fun e w'=>e=.returned (.tuple #[])/\Plays B w' p (S.upd i v)/\KeepP B p w w':=by
 by_cases h0:i<0∨32768<=i
 · rw [TS.upd_out h0]
   have h':=Hd h
   obtain⟨h1,vA,vL,vC,vN,L,h⟩:=h
   have hc:=cell_of_heap h.heap
   clear h
   rcases h0 with h0 | h0
   · go_enter Tryz.func132,Tryz.ntmps132
     go_wp2_with fail
     first | go_end0 | refine bodyPost_ret (results_none rfl _ _ _) rfl ?_
     exact⟨rfl,h'.out,Keep.refl _ _ _ _⟩
   · go_enter Tryz.func132,Tryz.ntmps132
     go_wp2_with fail
     first | go_end0 | refine bodyPost_ret (results_none rfl _ _ _) rfl ?_
     exact⟨rfl,h'.out,Keep.refl _ _ _ _⟩
 · obtain⟨i,rfl⟩:∃ n:Nat,i=(n:Int):=⟨i.toNat,by omega⟩
   have hi:i<32768:=by omega
   clear h0
   have h':=Hd h
   obtain⟨h1,vA,vL,vC,vN,L,h⟩:=h
   have hc:=cell_of_heap h.heap
   have hI:Ints w vL L:=IntRow.ints h.rowL
   have hLn:=h.locN
   obtain⟨A,c,rfl,hc1,hc2⟩:=hI.slice
   by_cases hin:i<L.length
   · obtain⟨g,rfl⟩:∃ g,A=some ⟨g,0,none⟩:=by
      rcases h.rowL.2 with⟨e,h0⟩ | ⟨g,cap,cur,e,_⟩
      · omega
      · injection e with e1 e2 e3
        exact⟨g,e1⟩
     obtain⟨HM,HK⟩:=h.stored i hin v
     obtain⟨b,off,he,hb,hcell⟩:=hI.at_ hin
     injection he with he
     injection he with e1 e2
     subst e1 e2;rw [Nat.zero_add] at hcell
     have hfz:=h.rowL.frozenAt i
     have HP:Plays B _ p (S.upd i v):=⟨by rw [TS.upd_acc,TS.upd_ans];exact h1,_,_,_,_,_,HM⟩
     have HPh:=Hd HP
     have HKh:=Hd HK
     clear HM HK HP h hI
     go_enter Tryz.func132,Tryz.ntmps132
     go_wp2_with fail
     first | go_end0 | refine bodyPost_ret (results_none rfl _ _ _) rfl ?_
     exact⟨rfl,HPh.out,HKh.out⟩
   · by_cases hv:v=0
     · subst hv
       rw [TS.upd_zero h.loc (by omega)]
       clear h hI
       go_enter Tryz.func132,Tryz.ntmps132
       go_wp2_with fail
       first | go_end0 | refine bodyPost_ret (results_none rfl _ _ _) rfl ?_
       exact⟨rfl,h'.out,Keep.refl _ _ _ _⟩
     · have hvb:(v==0)=false:=by rw [beq_eq_false_iff_ne];exact hv
       obtain⟨i0,hi0,hz0,hz1,hz2⟩:=info_parts info_int
       obtain⟨m,hm⟩:∃ m,L.length+m=i+1:=⟨i+1-L.length,by omega⟩
       have hw:IntKind.i64.wrap (IntKind.i64.wrap ((i:Int)+1)-(L.length:Int))=(m:Int):=by rw [IntKind.wrap_i64,IntKind.wrap_i64];omega
       have hL:=Hd h
       have hmh:=Hd hm
       clear h hI hm
       have hm0:0<m:=by have:=hmh.out;omega
       go_enter Tryz.func132,Tryz.ntmps132
       go_wp2_with fail
       go_region_law ((refine step_append_zeros _ (by rfl) _ _ _ _ (by rfl) B 3 i0 (V Z 0) 8 .i64 Tryz.underlying25 Tryz.underlying3 hi0 hz0 hz1 hz2 rfl rfl (Value.slice A L.length c) L.length (L.map (V Z)) (by rfl) (World.ownsRow.drew hL.out.rowL) m (by first | rfl | (simp only [hw];done)) hm0 (by have:=hmh.out;unfold maxLen;omega) (by have:=hmh.out;omega) (by have:=hL.out.lt;have:=hL.out.ge;simp;omega) ?_;intro gg cap w1 hown1 hgrow hat;have hp1:=grown_heap hL.out.heap hL.out.cNe.1 (grown0 hgrow);have hq1:=cell_of_heap hp1;have hf1:=frozen_of_heap hp1))
       all_goals
        obtain⟨HM,HK⟩:=hL.out.grewL m (grown0 hgrow) (hat.imp id (fun e=>Nat.le_of_eq e.symm)) hown1 (by have:=hmh.out;omega)
        clear hown1 hgrow hat hp1 hq1 hf1 hc hL
        generalize w1.setCell ⟨p,2,none⟩ (.slice (some ⟨gg,0,none⟩) (L.length+m) cap)=W at *
        clear w1
        have hlen:L.length+m=(L++List.replicate m (0:Int)).length:=by simp
        rw [hlen] at HM ⊢
        have hi2:i<(L++List.replicate m (0:Int)).length:=by have:=hmh.out;omega
        generalize L++List.replicate m (0:Int)=L2 at *
        have hq:=cell_of_heap HM.heap
        obtain⟨HM2,HK2⟩:=HM.stored i hi2 v
        have hfz:=HM.rowL.frozenAt i
        have hcl:W.cell? ⟨gg,i,none⟩=some (V Z (L2.getD i 0)):=by
         obtain⟨b,off,he,_,hcell⟩:=(IntRow.ints HM.rowL).at_ hi2
         injection he with he
         injection he with e1 e2
         subst e1 e2;rw [Nat.zero_add] at hcell;exact hcell
        have HP:Plays B _ p (S.upd i v):=⟨by rw [TS.upd_acc,TS.upd_ans];exact h1,_,_,_,_,_,HM2⟩
        have HPh:=Hd HP
        have HKh:=Hd (HK.trans HK2)
        clear HM HK HP HM2 HK2 hlen hmh hm0 hw hin hLn;go_wp2_with fail
        first | go_end0 | refine bodyPost_ret (results_none rfl _ _ _) rfl ?_
        exact⟨rfl,HPh.out,HKh.out⟩
structure RMem (B:Nat) (w:World) (p:Nat) (S:TS) (n:Nat) (o:Bool) (vA vC vN vL:Value) (L:List Int):Prop where
 ge:B<=p
 heap:w.heap[p]?=some (.cells #[vA,V Z n,.bool o,vC,vN,vL] 49 (0,0))
 ans:Ints w vA S.ans
 ansB:∀ b,vA.ownBlock=some b->b<B
 rowL:w.ownsRow B 3 1 vL L.length (L.map (V Z))
 rowC:w.ownsRow B 112 3 vC S.acc.length (accVals S.acc)
 rowN:w.ownsRow B 114 2 vN S.nts.length (ntVals S.nts)
 loc:LocIs L S.loc
 locN:L.length<=32768
 accN:S.acc.length<=S.ans.length+1
 ansN:S.ans.length<=maxAns
 ntsN:S.nts.length<=maxAns
def RAt (B:Nat) (w:World) (p:Nat) (o:Bool) (S:TS):Prop:=∃ n vA vC vN vL L,RMem B w p S n o vA vC vN vL L/\n=min S.acc.length S.ans.length/\o=decide (S.ans.length<S.acc.length)
abbrev KeepR (B p:Nat) (w w':World):Prop:=Keep [3,4,5] B p w w'
abbrev HeldR (w:World) (p b:Nat) (o:Obj):Prop:=Held [3,4,5] w p b o
section
variable {B p:Nat} {w w' w1:World} {S:TS} {n:Nat} {o:Bool} {vA vL vC vN:Value} {L:List Int}
theorem RMem.lt (h:RMem B w p S n o vA vC vN vL L):p<w.heap.size:=(Array.getElem?_eq_some_iff.1 h.heap).1
theorem RMem.own (h:RMem B w p S n o vA vC vN vL L){b:Nat}(hb:ownR [3,4,5] w p b):B<=b/\b<w.heap.size:=by
 rcases hb with rfl | ⟨i,hi,v,hv,hvb⟩
 · exact⟨h.ge,h.lt⟩
 · have e:=cell_of_heap h.heap i
   simp only [List.mem_cons,List.not_mem_nil,or_false] at hi
   rcases hi with rfl | rfl | rfl
   · obtain rfl:vC=v:=by rw [e] at hv;simpa using hv
     exact h.rowC.lt b hvb
   · obtain rfl:vN=v:=by rw [e] at hv;simpa using hv
     exact h.rowN.lt b hvb
   · obtain rfl:vL=v:=by rw [e] at hv;simpa using hv
     exact h.rowL.lt b hvb
theorem RMem.ext (h:RMem B w p S n o vA vC vN vL L)(hx:Ext w w'):RMem B w' p S n o vA vC vN vL L :=
 { h with heap:=(Below.block hx p h.lt).trans h.heap,ans:=h.ans.ext hx,rowL:=row_ext h.rowL hx,rowC:=row_ext h.rowC hx,rowN:=row_ext h.rowN hx }
theorem RAt.ext (h:RAt B w p o S)(hx:Ext w w'):RAt B w' p o S:=by
 obtain⟨n,vA,vC,vN,vL,L,h,h0⟩:=h
 exact⟨n,vA,vC,vN,vL,L,h.ext hx,h0⟩
theorem RAt.alloc (h:RAt B w p o S)(ob:Obj):RAt B (w.alloc ob) p o S:=h.ext ((Ext.refl w).alloc ob)
theorem RAt.lt (h:RAt B w p o S):p<w.heap.size:=by obtain⟨_,_,_,_,_,_,h,_⟩:=h;exact h.lt
theorem RAt.le (h:RAt B w p o S):B<=w.heap.size:=by obtain⟨_,_,_,_,_,_,h,_⟩:=h;have:=h.lt;have:=h.ge;omega
theorem RAt.held (h:RAt B w p o S)(ob:Obj):HeldR (w.alloc ob) p w.heap.size ob:=by
 refine⟨heap_alloc_new w ob,fun ho=>?_⟩
 obtain⟨_,_,_,_,_,_,h,_⟩:=h
 have h1:=(ownR_same (w:=w) (Below.heap_alloc w ob p h.lt) _).1 ho
 have:=(h.own h1).2
 omega
theorem RMem.cNe (h:RMem B w p S n o vA vC vN vL L):vL.ownBlock≠some p/\vC.ownBlock≠some p/\vN.ownBlock≠some p :=
 ⟨row_not h.rowL h.heap (by decide),row_not h.rowC h.heap (by decide),row_not h.rowN h.heap (by decide)⟩
theorem RMem.told (h:RMem B w p S n o vA vC vN vL L)(m:Nat):RMem B (w.setCell ⟨p,1,none⟩ (V Z m)) p S m o vA vC vN vL L/\KeepR B p w (w.setCell ⟨p,1,none⟩ (V Z m)):=by
 obtain⟨nL,nC,nN⟩:=h.cNe
 refine⟨{ h with heap:=heap_setCell h.heap _,ans:=ints_set h.ans _ _ ?_,rowL:=row_set h.rowL nL,rowC:=row_set h.rowC nC,rowN:=row_set h.rowN nN },?_⟩
 · intro b hb
   have:=h.ansB b hb
   have:=h.ge
   show b≠p
   omega
 · exact keep_field (row:=none) h.ge h.heap (World.grownBy.refl _ _) (fun b hb=>by cases hb) (by simp) rfl (fun b hb=>by simp [Value.ownBlock] at hb)
theorem RMem.ended (h:RMem B w p S n o vA vC vN vL L)(o':Bool):RMem B (w.setCell ⟨p,2,none⟩ (.bool o')) p S n o' vA vC vN vL L/\KeepR B p w (w.setCell ⟨p,2,none⟩ (.bool o')):=by
 obtain⟨nL,nC,nN⟩:=h.cNe
 refine⟨{ h with heap:=heap_setCell h.heap _,ans:=ints_set h.ans _ _ ?_,rowL:=row_set h.rowL nL,rowC:=row_set h.rowC nC,rowN:=row_set h.rowN nN },?_⟩
 · intro b hb
   have:=h.ansB b hb
   have:=h.ge
   show b≠p
   omega
 · exact keep_field (row:=none) h.ge h.heap (World.grownBy.refl _ _) (fun b hb=>by cases hb) (by simp) rfl (fun b hb=>by simp [Value.ownBlock] at hb)
theorem RMem.grewC (h:RMem B w p S n o vA vC vN vL L)(a:Acc){g cap:Nat}(hg:w.grownBy w1 vC.ownBlock)(hat:vC.ownBlock=some g∨w.heap.size<=g)
  (hown:w1.ownsRow B 112 3 (.slice (some ⟨g,0,none⟩) (S.acc.length+1) cap) (S.acc.length+1) (accVals S.acc++[V Z a.kind,V Z a.cell,V Z a.val]))(hl:S.acc.length<=S.ans.length) :
  RMem B (w1.setCell ⟨p,3,none⟩ (.slice (some ⟨g,0,none⟩) (S.acc.length+1) cap)) p (S.put a) n o vA (.slice (some ⟨g,0,none⟩) (S.acc.length+1) cap) vN vL L /\
   KeepR B p w (w1.setCell ⟨p,3,none⟩ (.slice (some ⟨g,0,none⟩) (S.acc.length+1) cap)):=by
 obtain⟨nL,nC,nN⟩:=h.cNe
 have hp1:=grown_heap h.heap nC hg
 have hgp:(Value.slice (some ⟨g,0,none⟩) (S.acc.length+1) cap).ownBlock≠some p:=row_not hown hp1 (by decide)
 refine⟨?_,?_⟩
 · refine { ge:=h.ge,heap:=heap_setCell hp1 _,ans:=ints_set (ints_grown h.ans hg ?_) _ _ ?_,ansB:=h.ansB,rowL:=row_set (h.rowL.kept hg (rows_apart h.rowL h.rowC (by decide))) nL,rowC:=?_,rowN:=row_set (h.rowN.kept hg (rows_apart h.rowN h.rowC (by decide))) nN,loc:=h.loc,locN:=h.locN,accN:=?_,ansN:=h.ansN,ntsN:=h.ntsN }
   · intro b hb e
     have:=h.ansB b hb
     have:=(h.rowC.lt b e).1
     omega
   · intro b hb
     have:=h.ansB b hb
     have:=h.ge
     show b≠p
     omega
   · have e:(S.put a).acc=S.acc++[a]:=rfl
     rw [e,accVals_snoc,List.length_append,List.length_singleton]
     exact row_set hown hgp
   · have e:(S.put a).acc=S.acc++[a]:=rfl
     rw [e,List.length_append,List.length_singleton]
     show S.acc.length+1<=S.ans.length+1
     omega
 · refine keep_field h.ge h.heap hg (fun b hb=>⟨(h.rowC.lt b hb).1,ownR_at h.heap (by simp) (i:=3) rfl hb⟩) nC rfl fun b hb=>?_
   obtain rfl:g=b:=by simpa [Value.ownBlock] using hb
   rcases hat with h1 | h1
   · exact .inl (ownR_at h.heap (by simp) (i:=3) rfl h1)
   · exact .inr h1
theorem RMem.grewN (h:RMem B w p S n o vA vC vN vL L)(k:Int){g cap:Nat}(hg:w.grownBy w1 vN.ownBlock)(hat:vN.ownBlock=some g∨w.heap.size<=g)
  (hown:w1.ownsRow B 114 2 (.slice (some ⟨g,0,none⟩) (S.nts.length+1) cap) (S.nts.length+1) (ntVals S.nts++[V Z k,V Z (S.acc.length:Nat)]))(hl:S.nts.length<maxAns) :
  RMem B (w1.setCell ⟨p,4,none⟩ (.slice (some ⟨g,0,none⟩) (S.nts.length+1) cap)) p (S.noted k) n o vA vC (.slice (some ⟨g,0,none⟩) (S.nts.length+1) cap) vL L /\
   KeepR B p w (w1.setCell ⟨p,4,none⟩ (.slice (some ⟨g,0,none⟩) (S.nts.length+1) cap)):=by
 obtain⟨nL,nC,nN⟩:=h.cNe
 have hp1:=grown_heap h.heap nN hg
 have hgp:(Value.slice (some ⟨g,0,none⟩) (S.nts.length+1) cap).ownBlock≠some p:=row_not hown hp1 (by decide)
 refine⟨?_,?_⟩
 · refine { ge:=h.ge,heap:=heap_setCell hp1 _,ans:=ints_set (ints_grown h.ans hg ?_) _ _ ?_,ansB:=h.ansB,rowL:=row_set (h.rowL.kept hg (rows_apart h.rowL h.rowN (by decide))) nL,rowN:=?_,rowC:=row_set (h.rowC.kept hg (rows_apart h.rowC h.rowN (by decide))) nC,loc:=h.loc,locN:=h.locN,accN:=h.accN,ansN:=h.ansN,ntsN:=?_ }
   · intro b hb e
     have:=h.ansB b hb
     have:=(h.rowN.lt b e).1
     omega
   · intro b hb
     have:=h.ansB b hb
     have:=h.ge
     show b≠p
     omega
   · have e:(S.noted k).nts=S.nts++[⟨k,(S.acc.length:Int)⟩]:=rfl
     rw [e,ntVals_snoc,List.length_append,List.length_singleton]
     exact row_set hown hgp
   · have e:(S.noted k).nts=S.nts++[⟨k,(S.acc.length:Int)⟩]:=rfl
     rw [e,List.length_append,List.length_singleton]
     omega
 · refine keep_field h.ge h.heap hg (fun b hb=>⟨(h.rowN.lt b hb).1,ownR_at h.heap (by simp) (i:=4) rfl hb⟩) nN rfl fun b hb=>?_
   obtain rfl:g=b:=by simpa [Value.ownBlock] using hb
   rcases hat with h1 | h1
   · exact .inl (ownR_at h.heap (by simp) (i:=4) rfl h1)
   · exact .inr h1
theorem RMem.stored {g cap:Nat}(h:RMem B w p S n o vA vC vN (.slice (some ⟨g,0,none⟩) L.length cap) L)(i:Nat)(hi:i<L.length)(v:Int) :
  RMem B (w.setCell ⟨g,i,none⟩ (V Z v)) p (S.upd i v) n o vA vC vN (.slice (some ⟨g,0,none⟩) L.length cap) (L.set i v)/\KeepR B p w (w.setCell ⟨g,i,none⟩ (V Z v)):=by
 obtain⟨nL,nC,nN⟩:=h.cNe
 have hgp:g≠p:=fun e=>nL (by rw [e];rfl)
 obtain⟨hs1,hs2⟩:=h.rowL.stored i (V Z v)
 have hlt:=h.locN
 have hu:=TS.upd_in (S:=S) (show i<32768 by omega) v
 have hgB:=(h.rowL.lt g rfl).1
 refine⟨{ ge:=h.ge,heap:=?_,ans:=?_,ansB:=h.ansB,rowL:=?_,rowC:=?_,rowN:=?_,loc:=?_,locN:=by simpa using h.locN,accN:=?_,ansN:=?_,ntsN:=?_ },?_⟩
 · rw [heap_setCell_ne _ _ (Ne.symm hgp)];exact h.heap
 · rw [hu]
   exact ints_set h.ans _ _ (fun b hb=>by have:=h.ansB b hb;show b≠g;omega)
 · rw [List.map_set,List.length_set];exact hs1
 · rw [hu]
   exact row_set h.rowC (fun e=>by
    have:=rows_apart h.rowC h.rowL (by decide)
    rw [e] at this
    simp [Value.ownBlock] at this)
 · rw [hu]
   exact row_set h.rowN (fun e=>by
    have:=rows_apart h.rowN h.rowL (by decide)
    rw [e] at this
    simp [Value.ownBlock] at this)
 · rw [hu];exact h.loc.set i hi v
 · rw [hu];exact h.accN
 · rw [hu];exact h.ansN
 · rw [hu];exact h.ntsN
 · have ho:ownR [3,4,5] w p g:=ownR_at h.heap (by simp) (i:=5) rfl rfl
   refine⟨⟨rfl,rfl,rfl,by simp,fun k hk=>heap_setCell_ne _ _ (by omega)⟩,fun b hb hn=>⟨heap_setCell_ne _ _ (fun e=>hn (e▸ho)),fun h'=>hn ?_⟩⟩
   exact (ownR_same (heap_setCell_ne _ _ (Ne.symm hgp)) b).1 h'
theorem RMem.grewL (h:RMem B w p S n o vA vC vN vL L){g cap:Nat}(hg:w.grownBy w1 vL.ownBlock)(hat:vL.ownBlock=some g∨w.heap.size<=g)
  (hown:w1.ownsRow B 3 1 (.slice (some ⟨g,0,none⟩) (L.length+1) cap) (L.length+1) (L.map (V Z)++[V Z 0]))(hl:L.length+1<=32768) :
  RMem B (w1.setCell ⟨p,5,none⟩ (.slice (some ⟨g,0,none⟩) (L.length+1) cap)) p S n o vA vC vN (.slice (some ⟨g,0,none⟩) (L.length+1) cap) (L++[0]) /\
   KeepR B p w (w1.setCell ⟨p,5,none⟩ (.slice (some ⟨g,0,none⟩) (L.length+1) cap)):=by
 obtain⟨nL,nC,nN⟩:=h.cNe
 have hp1:=grown_heap h.heap nL hg
 have hgp:(Value.slice (some ⟨g,0,none⟩) (L.length+1) cap).ownBlock≠some p:=row_not hown hp1 (by decide)
 refine⟨?_,?_⟩
 · refine { ge:=h.ge,heap:=heap_setCell hp1 _,ans:=ints_set (ints_grown h.ans hg ?_) _ _ ?_,ansB:=h.ansB,rowC:=row_set (h.rowC.kept hg (rows_apart h.rowC h.rowL (by decide))) nC,rowL:=?_,rowN:=row_set (h.rowN.kept hg (rows_apart h.rowN h.rowL (by decide))) nN,loc:=h.loc.zeros 1,locN:=by simpa using hl,accN:=h.accN,ansN:=h.ansN,ntsN:=h.ntsN }
   · intro b hb e
     have:=h.ansB b hb
     have:=(h.rowL.lt b e).1
     omega
   · intro b hb
     have:=h.ansB b hb
     have:=h.ge
     show b≠p
     omega
   · rw [List.length_append,List.length_singleton,List.map_append]
     exact row_set hown hgp
 · refine keep_field h.ge h.heap hg (fun b hb=>⟨(h.rowL.lt b hb).1,ownR_at h.heap (by simp) (i:=5) rfl hb⟩) nL rfl fun b hb=>?_
   obtain rfl:g=b:=by simpa [Value.ownBlock] using hb
   rcases hat with h1 | h1
   · exact .inl (ownR_at h.heap (by simp) (i:=5) rfl h1)
   · exact .inr h1
end
theorem RAt.entry {B p:Nat}{o:Bool}{S:TS}{w:World}(h:RAt B w p o S)(a:Obj):HeldR (w.alloc a) p w.heap.size a/\Keep [3,4,5] B p w (w.alloc a)/\RAt B (w.alloc a) p o S :=
 ⟨h.held a,(Keep.refl [3,4,5] B p w).trans (Keep.alloc a h.lt h.le),h.alloc a⟩
theorem RAt.entry2 {B p:Nat}{o:Bool}{S:TS}{w:World}(h:RAt B w p o S)(a b:Obj):HeldR ((w.alloc a).alloc b) p w.heap.size a/\HeldR ((w.alloc a).alloc b) p (w.heap.size+1) b/\Keep [3,4,5] B p w ((w.alloc a).alloc b)/\RAt B ((w.alloc a).alloc b) p o S:=by
 have h2:=(h.alloc a).held b
 rw [World.size_alloc] at h2
 exact⟨(h.held a).alloc b (h.alloc a).lt,h2,((Keep.refl [3,4,5] B p w).trans (Keep.alloc a h.lt h.le)).trans (Keep.alloc b (h.alloc a).lt (h.alloc a).le),(h.alloc a).alloc b⟩
theorem wp_scope_fwd {P:Program}{a:Act}{w:World}{Q:Exit->Act->World->Prop}{c rest:Code}(l:Nat)(hf:findLabel c l=some rest)
  (first:c.wp P (Exit.jump l (fun a' w'=>rest.wp P (Exit.noGoto Q) a' w') Q) a w):(Code.scope c).wp P Q a w:=by
 refine wp_scope_jumps l (fun a' w'=>rest.wp P (Exit.noGoto Q) a' w') (fun _ _=>0) hf first fun a' w' h=>Code.wp_mono (fun e a2 w2 hq=>?_) h
 cases e <;> first | exact hq | exact hq.elim
theorem Plays.drew {B p:Nat}{w:World}{S:TS}(h:Plays B w p S):Plays B w.drew p S:=h.ext (Ext.refl w).drew
theorem Keep.drew {ix:List Nat}{B p:Nat}{w w':World}(h:Keep ix B p w w'):Keep ix B p w w'.drew:=⟨⟨h.below.os,h.below.tape,h.below.output,h.below.size,h.below.block⟩,h.rest⟩
theorem Held.drew {ix:List Nat}{p b:Nat}{w:World}{o:Obj}(h:Held ix w p b o):Held ix w.drew p b o:=h
def stopE (p:Nat):Ending:=.panicked [{ v:=.iface 92 (.agg #[.pointer (some ⟨p,0,none⟩)]),recovered:=false }]
def Post {α:Type} (enc:α->Value) (B p:Nat) (w0:World) (r:Option α × TS) (e:Ending) (w':World):Prop :=
 match r.1 with
 | some v=>e=.returned (enc v)/\Plays B w' p r.2/\KeepP B p w0 w'
 | none=>e=stopE p/\Stops B w' p r.2/\KeepP B p w0 w'
def Owes {α:Type} (R:Ending->World->Prop) (enc:α->Value) (B p:Nat) (w0:World) (r:Option α × TS):Prop:=∀ e w',Post enc B p w0 r e w'->R e w'
theorem owes {α:Type}(enc:α->Value)(B p:Nat)(w0:World)(r:Option α × TS):Owes (Post enc B p w0 r) enc B p w0 r:=fun _ _ h=>h
def encI (x:Int):Value:=V Z x
def encU (_:Unit):Value:=.tuple #[]
def encB (b:Bool):Value:=.bool b
@[go_sem] theorem encI_eq (x:Int):encI x=V Z x:=rfl
@[go_sem] theorem encU_eq (x:Unit):encU x=.tuple #[]:=rfl
@[go_sem] theorem encB_eq (x:Bool):encB x=.bool x:=rfl
section
variable {α β:Type} {B p:Nat} {w0 w:World} {S:TS} {R:Ending->World->Prop}
theorem Owes.done {enc:α->Value}{v:α}{w':World}(h:Owes R enc B p w0 (some v,S))(h1:Plays B w' p S)(h2:KeepP B p w0 w'):R (.returned (enc v)) w':=h _ _ ⟨rfl,h1,h2⟩
theorem Owes.stop {enc:α->Value}{w':World}(h:Owes R enc B p w0 (none,S))(h1:Stops B w' p S)(h2:KeepP B p w0 w'):R (stopE p) w':=h _ _ ⟨rfl,h1,h2⟩
theorem tstep {P:Program}{f:FuncId}{args:Array Value}{K:Ending->World->Prop}{enc:α->Value}{enc':β->Value}{T:Prog α}{g:α->Prog β}
  (hO:Owes R enc' B p w0 ((T.bind g).run S))(hB:KeepP B p w0 w)(h:Calls P f args w (Post enc B p w (T.run S)))(hp:∀ w',R (stopE p) w'->K (stopE p) w')
  (hk:∀ v S1 w1,T.run S=(some v,S1)->Plays B w1 p S1->KeepP B p w w1->KeepP B p w0 w1->Owes R enc' B p w0 ((g v).run S1)->K (.returned (enc v)) w1):Calls P f args w K:=by
 refine h.mono fun e w1 hp1=>?_
 unfold Post at hp1
 generalize hr:T.run S=r at hp1
 obtain⟨o,S1⟩:=r
 cases o with
 | some v =>
   obtain⟨rfl,h1,h2⟩:=hp1
   rw [Prog.run_bind_some hr] at hO
   exact hk v S1 w1 hr h1 h2 (hB.trans h2) hO
 | none =>
   obtain⟨rfl,h1,h2⟩:=hp1
   rw [Prog.run_bind_none hr] at hO
   exact hp w1 (hO.stop h1 (hB.trans h2))
theorem tlast {P:Program}{f:FuncId}{args:Array Value}{K:Ending->World->Prop}{enc enc':α->Value}{T:Prog α}
  (hO:Owes R enc' B p w0 (T.run S))(hB:KeepP B p w0 w)(h:Calls P f args w (Post enc B p w (T.run S)))(hp:∀ w',R (stopE p) w'->K (stopE p) w')
  (hk:∀ v S1 w1,T.run S=(some v,S1)->Plays B w1 p S1->KeepP B p w w1->KeepP B p w0 w1->Owes R enc' B p w0 (some v,S1)->K (.returned (enc v)) w1):Calls P f args w K:=by
 rw [<- Prog.bind_id T] at hO
 exact tstep hO hB h hp hk
theorem run_gt (l:Int)(g:Int->Prog α)(S:TS):((gt l).bind g).run S=(g (S.got l)).run S:=rfl
theorem run_gt1 (l:Int)(S:TS):(gt l).run S=(some (S.got l),S):=rfl
end
theorem read_p (B p:Nat)(S:TS)(c:Int)(w:World)(h:Plays B w p S):Calls Tryz.prog 146 #[.pointer (some ⟨p,0,none⟩),V Z c] w (Post encI B p w ((rd c).run S)):=by
 cases hx:S.next with
 | some x =>
   have hr:(rd c).run S=(some x,S.put ⟨1,c,0⟩):=by simp [rd,Prog.run,hx]
   rw [hr]
   have hA:=ask_p B p S 1 c 0 x w h hx
   clear hr hx
   go_enter Tryz.func146,Tryz.ntmps146
   go_wp2_with fail
   refine hA.mono ?_
   rintro e w' ⟨rfl,h1,h2⟩
   have HH:Hid (Plays B w' p (S.put ⟨1,c,0⟩)/\KeepP B p w w'):=⟨h1,h2⟩
   clear h1 h2;go_wp2_with fail
   go_ret
   exact⟨rfl,HH.out.1,HH.out.2⟩
 | none =>
   have hr:(rd c).run S=(none,S.put ⟨1,c,0⟩):=by simp [rd,Prog.run,hx]
   rw [hr]
   have hA:=ask_s B p S 1 c 0 w h hx
   clear hr hx
   go_enter Tryz.func146,Tryz.ntmps146
   go_wp2_with fail
   refine hA.mono ?_
   rintro e w' ⟨rfl,h1,h2⟩
   exact⟨rfl,rfl,h1,h2⟩
theorem write_p (B p:Nat)(S:TS)(c v:Int)(w:World)(h:Plays B w p S):Calls Tryz.prog 139 #[.pointer (some ⟨p,0,none⟩),V Z c,V Z v] w (Post encU B p w ((wr c v).run S)):=by
 cases hx:S.next with
 | some x =>
   have hr:(wr c v).run S=(some (),S.put ⟨2,c,v⟩):=by simp [wr,Prog.run,hx]
   rw [hr]
   have hA:=ask_p B p S 2 c v x w h hx
   clear hr hx
   go_enter Tryz.func139,Tryz.ntmps139
   go_wp2_with fail
   refine hA.mono ?_
   rintro e w' ⟨rfl,h1,h2⟩
   have HH:Hid (Plays B w' p (S.put ⟨2,c,v⟩)/\KeepP B p w w'):=⟨h1,h2⟩
   clear h1 h2;go_wp2_with fail
   first | go_end0 | refine bodyPost_ret (results_none rfl _ _ _) rfl ?_
   exact⟨rfl,HH.out.1,HH.out.2⟩
 | none =>
   have hr:(wr c v).run S=(none,S.put ⟨2,c,v⟩):=by simp [wr,Prog.run,hx]
   rw [hr]
   have hA:=ask_s B p S 2 c v w h hx
   clear hr hx
   go_enter Tryz.func139,Tryz.ntmps139
   go_wp2_with fail
   refine hA.mono ?_
   rintro e w' ⟨rfl,h1,h2⟩
   exact⟨rfl,rfl,h1,h2⟩
theorem setO {B p:Nat}{S:TS}{i v:Int}{w:World}(h:Plays B w p S):Calls Tryz.prog 132 #[.pointer (some ⟨p,0,none⟩),V Z i,V Z v] w (Post encU B p w ((st i v).run S)) :=
 (set_p B p S i v w h).mono fun _ _ ⟨h1,h2,h3⟩=>⟨h1,h2,h3⟩
section
variable {α β:Type} {B p:Nat} {w0 w:World} {o:Bool} {S:TS} {R:Ending->World->Prop}
def RPost {α:Type} (enc:α->Value) (B p:Nat) (w0:World) (T:Prog α) (o:Bool) (S:TS) (e:Ending) (w':World):Prop :=
 ∃ a o' S',e=.returned (enc a)/\Ref T o S a o' S'/\RAt B w' p o' S'/\KeepR B p w0 w'
def ROwes {α:Type} (R:Ending->World->Prop) (enc:α->Value) (B p:Nat) (w0:World) (T:Prog α) (o:Bool) (S:TS):Prop:=∀ e w',RPost enc B p w0 T o S e w'->R e w'
theorem ROwes.ret {enc:α->Value}{a:α}{w':World}(h:ROwes R enc B p w0 (.ret a) o S)(h1:RAt B w' p o S)(h2:KeepR B p w0 w'):R (.returned (enc a)) w':=h _ _ ⟨a,o,S,rfl,Ref.ret a o S,h1,h2⟩
theorem ROwes.over {enc:α->Value}{T:Prog α}(a:α){w':World}(h:ROwes R enc B p w0 T true S)(h1:RAt B w' p true S)(h2:KeepR B p w0 w'):R (.returned (enc a)) w':=h _ _ ⟨a,true,S,rfl,.over _ _,h1,h2⟩
theorem ROwes.any {enc:α->Value}{T:Prog α}(h:ROwes R enc B p w0 T true S)(T':Prog α):ROwes R enc B p w0 T' true S:=by
 rintro e w' ⟨a,o',S',rfl,hr,h1,h2⟩
 cases hr
 exact h.over a h1 h2
theorem ROwes.then {enc:α->Value}{T:Prog β}{g:β->Prog α}{v:β}{o1:Bool}{S1:TS}(h:ROwes R enc B p w0 (T.bind g) o S)(hr:Ref T o S v o1 S1):ROwes R enc B p w0 (g v) o1 S1:=by
 rintro e w' ⟨a,o',S',rfl,hr',h1,h2⟩
 exact h _ _ ⟨a,o',S',rfl,hr.bind hr',h1,h2⟩
theorem RAt.drew (h:RAt B w p o S):RAt B w.drew p o S:=h.ext (Ext.refl w).drew
theorem RAt.cell (h:RAt B w p o S):∃ vA n vC vN vL,∀ i,w.cell? ⟨p,i,none⟩=(#[vA,V Z n,.bool o,vC,vN,vL]:Array Value)[i]?:=by
 obtain⟨n,vA,vC,vN,vL,L,h,_⟩:=h
 exact⟨_,_,_,_,_,cell_of_heap h.heap⟩
end
section
variable {α:Type} {B p:Nat} {w0:World} {o:Bool} {S:TS} {R:Ending->World->Prop} {enc:α->Value}
theorem ref_gt (l:Int)(o:Bool)(S:TS):Ref (gt l) o S (S.got l) o S:=by
 cases o with
 | true=>exact .over _ _
 | false=>exact .done rfl
theorem ROwes.get {l:Int}{g:Int->Prog α}(h:ROwes R enc B p w0 ((gt l).bind g) o S):ROwes R enc B p w0 (g (S.got l)) o S:=h.then (ref_gt l o S)
end
theorem RMem.slice {B p:Nat}{w:World}{S:TS}{n:Nat}{o:Bool}{vA vC vN vL:Value}{L:List Int}(h:RMem B w p S n o vA vC vN vL L):∃ A c,vL=.slice A L.length c/\L.length<=c/\c<=9223372036854775807:=by
 obtain⟨A,c,rfl,h1,h2⟩:=(IntRow.ints h.rowL).slice
 exact⟨A,c,rfl,h1,h2⟩
end Go.Proofs.YtbaajjkopdjbgaaGreat
