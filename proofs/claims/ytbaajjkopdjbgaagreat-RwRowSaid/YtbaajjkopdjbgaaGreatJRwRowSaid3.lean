/-
  RwRowSaid: part 3 of its proof.
-/
import Derived.Test.YtbaajjkopdjbgaaGreatJRwRowSaid2
import Derived.ScopeJumps
import Derived.WalkMore
import Derived.Deep.DeepCutAuto
open Go.Value renaming int -> V
open Go.IntKind renaming i64 -> Z
namespace Kv
def regAt (l:List Reg) (i:Int):Reg:=l.getD i.toNat ⟨1,0,0,1,-1,-1,1⟩
theorem regAt_of {l:List Reg}{i:Int}{k:Nat}{r:Reg}(hi:i=k)(h:l[k]?=some r):regAt l i=r:=by
 unfold regAt
 rw [hi,Int.toNat_natCast,List.getD_eq_getElem?_getD,h];rfl
def filWait (r v:Reg) (me level:Int):Nat->Prog Unit
 | 0=>.ret ()
 | n+1=>(regR r me).bind fun x=>if x<level then .ret () else (regR v me).bind fun y=>if y=me+1 then filWait r v me level n else .ret ()
def filLevel (N:Nat) (l:List Reg) (n me level:Int):Prog Unit :=
 (regW (regAt l me) me level).bind fun _=>(regW (regAt l (n-1+level)) me (me+1)).bind fun _ =>
   forP (fun j _=>filWait (regAt l j) (regAt l (n-1+level)) me level N) (ranksFrom me n.toNat 0) ()
def filA (N:Nat) (l:List Reg) (n me:Int):Prog Int :=
 (nt 1).bind fun _=>(forP (fun level _=>filLevel N l n me level) (ranksFrom (-1) (n-1).toNat 1) ()).bind fun _=>(nt 3).bind fun _=>.ret 0
def filR (l:List Reg) (me:Int):Prog Unit:=(nt 5).bind fun _=>regW (regAt l me) me 0
def zeroP (r:Reg) (me:Int):Nat->Prog Unit
 | 0=>.ret ()
 | n+1=>(regR r me).bind fun x=>if x=0 then .ret () else zeroP r me n
def fastTry (N:Nat) (l:List Reg) (n me:Int):Nat->Prog Unit
 | 0=>.ret ()
 | k+1=>(regW (regAt l (2+me)) me 1).bind fun _=>(regW (regAt l 0) me (me+1)).bind fun _=>(regR (regAt l 1) me).bind fun y =>
    if y=0 then
     (regW (regAt l 1) me (me+1)).bind fun _=>(regR (regAt l 0) me).bind fun x =>
       if x=me+1 then .ret () else
        (regW (regAt l (2+me)) me 0).bind fun _=>(forP (fun j _=>zeroP (regAt l (2+j)) me N) (ranksFrom (-1) n.toNat 0) ()).bind fun _ =>
          (regR (regAt l 1) me).bind fun y=>if y=me+1 then .ret () else (zeroP (regAt l 1) me N).bind fun _=>fastTry N l n me k
    else (regW (regAt l (2+me)) me 0).bind fun _=>(zeroP (regAt l 1) me N).bind fun _=>fastTry N l n me k
def fastA (N:Nat) (l:List Reg) (n me:Int):Prog Int:=(nt 1).bind fun _=>(fastTry N l n me N).bind fun _=>(nt 3).bind fun _=>.ret 0
def fastR (l:List Reg) (me:Int):Prog Unit:=(nt 5).bind fun _=>(regW (regAt l 1) me 0).bind fun _=>regW (regAt l (2+me)) me 0
def bwMost (l:List Reg) (n me c:Int) (t:Int):Prog Int :=
 forP (fun j t=>(regR (regAt l (1+n+j)) me).bind fun x=>.ret (if x % 2=c then max t (x / 2) else t)) (ranksFrom me n.toNat 0) t
def bwChoose (r:Reg) (me:Int):Nat->Prog Unit
 | 0=>.ret ()
 | n+1=>(regR r me).bind fun x=>if x=0 then .ret () else bwChoose r me n
def bwWait (l:List Reg) (n me j t c:Int):Nat->Prog Unit
 | 0=>.ret ()
 | k+1=>(regR (regAt l (1+n+j)) me).bind fun x =>
    if x / 2=0 then .ret () else if x % 2=c then (if t<x / 2∨(x / 2=t/\me<j) then .ret () else bwWait l n me j t c k)
    else (regR (regAt l 0) me).bind fun y=>if bitM y=c then bwWait l n me j t c k else .ret ()
def bwA (N:Nat) (l:List Reg) (own n me:Int):Prog Int :=
 (nt 1).bind fun _=>(regW (regAt l (1+me)) me 1).bind fun _=>(regR (regAt l 0) me).bind fun y=>(st own (bitM y)).bind fun _ =>
   (bwMost l n me (bitM y) 0).bind fun t=>(regW (regAt l (1+n+me)) me (2*(t+1)+bitM y)).bind fun _=>(regW (regAt l (1+me)) me 0).bind fun _=>(nt 2).bind fun _ =>
     (forP (fun j _=>(bwChoose (regAt l (1+j)) me N).bind fun _=>bwWait l n me j (t+1) (bitM y) N) (ranksFrom me n.toNat 0) ()).bind fun _=>(nt 3).bind fun _=>.ret 0
def bwR (l:List Reg) (own n me:Int):Prog Unit :=
 (nt 5).bind fun _=>(gt own).bind fun x=>(regW (regAt l 0) me (1-bitM x)).bind fun _=>regW (regAt l (1+n+me)) me (bitM x)
theorem filLevel_bind {β:Type}(N:Nat)(l:List Reg)(n me level:Int)(f:Unit->Prog β):(filLevel N l n me level).bind f=(regW (regAt l me) me level).bind fun _=>(regW (regAt l (n-1+level)) me (me+1)).bind fun _ =>
  (forP (fun j _=>filWait (regAt l j) (regAt l (n-1+level)) me level N) (ranksFrom me n.toNat 0) ()).bind f:=by
 unfold filLevel
 simp only [Prog.bind_assoc]
theorem filWait_bind {β:Type}(r v:Reg)(me level:Int)(n:Nat)(f:Unit->Prog β):(filWait r v me level (n+1)).bind f=(regR r me).bind fun x=>if x<level then f () else (regR v me).bind fun y=>if y=me+1 then (filWait r v me level n).bind f else f ():=by
 rw [show filWait r v me level (n+1)=(regR r me).bind fun x=>if x<level then .ret () else (regR v me).bind fun y=>if y=me+1 then filWait r v me level n else .ret () from rfl,Prog.bind_assoc]
 congr 1
 funext x
 split
 · rfl
 · rw [Prog.bind_assoc]
   congr 1
   funext y
   split <;> rfl
theorem zeroP_bind {β:Type}(r:Reg)(me:Int)(n:Nat)(f:Unit->Prog β):(zeroP r me (n+1)).bind f=(regR r me).bind fun x=>if x=0 then f () else (zeroP r me n).bind f:=by
 rw [show zeroP r me (n+1)=(regR r me).bind fun x=>if x=0 then .ret () else zeroP r me n from rfl,Prog.bind_assoc]
 congr 1
 funext x
 split <;> rfl
theorem notes_filWait (r v:Reg)(me level:Int):∀ n:Nat,(filWait r v me level n).Notes 0
 | 0=>.ret _ _
 | n+1=>by
   rw [show filWait r v me level (n+1)=(regR r me).bind fun x=>if x<level then .ret () else (regR v me).bind fun y=>if y=me+1 then filWait r v me level n else .ret () from rfl]
   refine (notes_regR _ _).bind0 fun x=>?_
   split
   · exact .ret _ _
   · refine (notes_regR _ _).bind0 fun y=>?_
     split
     · exact notes_filWait r v me level n
     · exact .ret _ _
theorem notes_zeroP (r:Reg)(me:Int):∀ n:Nat,(zeroP r me n).Notes 0
 | 0=>.ret _ _
 | n+1=>by
   rw [show zeroP r me (n+1)=(regR r me).bind fun x=>if x=0 then .ret () else zeroP r me n from rfl]
   refine (notes_regR _ _).bind0 fun x=>?_
   split
   · exact .ret _ _
   · exact notes_zeroP r me n
end Kv
namespace Kv
open Go
def Fr:Nat->(List Value->Prop)->Prop
 | 0,G=>G []
 | n+1,G=>∀ u:Value,Fr n fun l=>G (u :: l)
theorem fr_list:∀ (n:Nat) (G:List Value->Prop),Fr n G->∀ l:List Value,l.length=n->G l
 | 0,G,h,[],_=>h
 | n+1,G,h,u :: l,hl=>fr_list n (fun l=>G (u :: l)) (h u) l (by simpa using hl)
theorem fr_act (n:Nat)(G:Act->Prop)(h:Fr n fun l=>G ⟨l.toArray,[]⟩)(a:Act)(hd:a.defers=[])(hs:a.tmps.size=n):G a:=by
 obtain⟨⟨l⟩,d⟩:=a
 obtain rfl:d=[]:=hd
 exact fr_list n (fun l=>G ⟨l.toArray,[]⟩) h l (by simpa using hs)
def Jumps (J:Nat->Act->World->Prop) (Q:Exit->Act->World->Prop):Exit->Act->World->Prop
 | .goto l,a,w=>J l a w
 | e,a,w=>Q e a w
section
variable {P:Program} {a:Act} {w:World} {J:Nat->Act->World->Prop} {Q:Exit->Act->World->Prop}
@[go_sem] theorem jumps_normal:Jumps J Q .normal a w=Q .normal a w:=rfl
@[go_sem] theorem jumps_exit (id:Nat):Jumps J Q (.exit id) a w=Q (.exit id) a w:=rfl
@[go_sem] theorem jumps_ret:Jumps J Q .ret a w=Q .ret a w:=rfl
@[go_sem] theorem jumps_panic (c:List PanicEntry):Jumps J Q (.panic c) a w=Q (.panic c) a w:=rfl
@[go_sem] theorem jumps_goto (l:Nat):Jumps J Q (.goto l) a w=J l a w:=rfl
theorem wp_scope_labels {c:Code}(J:Nat->Act->World->Prop)(μ:Nat->Act->World->Nat)(first:c.wp P (Jumps J Q) a w)
  (pass:∀ l a w,J l a w->∃ rest,findLabel c l=some rest/\rest.wp P (Jumps (fun l' a' w'=>J l' a' w'/\μ l' a' w'<μ l a w) Q) a w):(Code.scope c).wp P Q a w:=by
 intro b k cs
 have key:∀ n l a w rest,findLabel c l=some rest->μ l a w=n->J l a w->∃ e a' w',Q e a' w'/\Arrives P (lone (b.at a (.code rest :: .inScope c :: k)) cs w) b k cs e a' w':=by
  intro n
  induction n using Nat.strongRecOn with
  | _ n ih =>
    intro l a w rest hf hn hJ
    obtain⟨rest',hf',hp⟩:=pass l a w hJ
    obtain rfl:rest=rest':=by rw [hf] at hf';injection hf'
    obtain⟨e,a₁,w₁,hq,harr⟩:=hp b (.inScope c :: k) cs
    cases e with
    | normal=>exact⟨.normal,a₁,w₁,hq,Steps.trans harr (.one step_inScope)⟩
    | exit id=>exact⟨.exit id,a₁,w₁,hq,fun k' hk=>harr k' (by simp [exitTo,hk])⟩
    | goto l' =>
      obtain⟨hJ',hlt⟩:=hq
      obtain⟨rest2,hf2,_⟩:=pass l' a₁ w₁ hJ'
      have hg:gotoIn l' (.inScope c :: k)=some (.code rest2 :: .inScope c :: k):=by simp [gotoIn,hf2]
      obtain⟨e₂,a₂,w₂,hq₂,harr₂⟩:=ih _ (by omega) l' a₁ w₁ rest2 hf2 rfl hJ'
      exact⟨e₂,a₂,w₂,hq₂,.of_steps (harr _ hg) harr₂⟩
    | ret=>exact⟨_,a₁,w₁,hq,harr⟩
    | panic ch=>exact⟨_,a₁,w₁,hq,harr⟩
    | outgrown=>exact⟨_,a₁,w₁,hq,harr⟩
 obtain⟨e,a₁,w₁,hq,harr⟩:=first b (.inScope c :: k) cs
 cases e with
 | normal=>exact⟨.normal,a₁,w₁,hq,.head step_scope (Steps.trans harr (.one step_inScope))⟩
 | exit id=>exact⟨.exit id,a₁,w₁,hq,fun k' hk=>.head step_scope (harr k' (by simp [exitTo,hk]))⟩
 | goto l' =>
   obtain⟨rest2,hf2,_⟩:=pass l' a₁ w₁ hq
   have hg:gotoIn l' (.inScope c :: k)=some (.code rest2 :: .inScope c :: k):=by simp [gotoIn,hf2]
   obtain⟨e₂,a₂,w₂,hq₂,harr₂⟩:=key _ l' a₁ w₁ rest2 hf2 rfl hq
   exact⟨e₂,a₂,w₂,hq₂,.of_steps (.head step_scope (harr _ hg)) harr₂⟩
 | ret=>exact⟨_,a₁,w₁,hq,.of_steps (.one step_scope) harr⟩
 | panic ch=>exact⟨_,a₁,w₁,hq,.of_steps (.one step_scope) harr⟩
 | outgrown=>exact⟨_,a₁,w₁,hq,.of_steps (.one step_scope) harr⟩
theorem wp_scope_fall {c:Code}(J:Nat->Act->World->Prop)(μ:Nat->Act->World->Nat)
  (pass:∀ l a w,J l a w->∃ rest,findLabel c l=some (.seq .skip rest)/\rest.wp P (Jumps (fun l' a' w'=>J l' a' w'/\μ l' a' w'<μ l a w) Q) a w)
  (first:(∀ l rest a w,findLabel c l=some (.seq .skip rest)->J l a w->rest.wp P (Jumps J Q) a w)->c.wp P (Jumps J Q) a w):(Code.scope c).wp P Q a w:=by
 refine wp_scope_labels J μ (first fun l rest a w hf hJ=>?_) fun l a w hJ=>?_
 · obtain⟨rest',hf',hp⟩:=pass l a w hJ
   obtain rfl:rest=rest':=by rw [hf] at hf';simpa using hf'
   refine Code.wp_mono (fun e a2 w2 hq=>?_) hp
   cases e with
   | goto l'=>exact hq.1
   | normal=>exact hq
   | exit id=>exact hq
   | ret=>exact hq
   | panic ch=>exact hq
   | outgrown=>exact hq
 · obtain⟨rest,hf,hp⟩:=pass l a w hJ
   exact⟨_,hf,wp_seq (wp_skip hp)⟩
end
end Kv
namespace Kv
open Go Go.RowKit
def nameM (l:List Reg) (N:Nat) (me:Int):Nat->Nat->Nat->Prog Int
 | 0,_,_=>.ret ((triN N:Int)-1)
 | f+1,x,y=>(passM (regAt l (2*(triName x y:Int))) (regAt l (2*(triName x y:Int)+1)) me).bind fun told =>
    if told=0 then .ret (triName x y:Int) else if told=1 then nameM l N me f (x+1) y else nameM l N me f x (y+1)
def getM (l:List Reg) (N:Nat) (own me:Int):Prog Int :=
 (gt own).bind fun had=>if had≠0 then .ret (wrap64 (had-1)) else (nameM l N me N 0 0).bind fun name=>(st own (name+1)).bind fun _=>.ret name
end Kv
namespace Go.Proofs.YtbaajjkopdjbgaaGreat
open Go.RowKit Kv
theorem rat_p (b len k d:Nat)(w:World)(h:2*k+2<=len)(_hc:len<=d+2*k+2)(hc2:d+2*k+2<=9223372036854775807)(_hl:len<=100000) :
  Calls Tryz.prog 169 #[.slice (some ⟨b,0,none⟩) len (d+2*k+2),V Z k] w fun e w'=>(∃ c2,e=.returned (.slice (some ⟨b,2*k*7,none⟩) 2 c2))/\w=w':=by
 have e1:=IntWalk.i64_in (2*(k:Int)) (by omega)
 have e2:=IntWalk.i64_in (2*(k:Int)+2) (by omega)
 have e3:decide ((k:Int)<0)=false:=by rw [decide_eq_false_iff_not];omega
 have e4:decide ((len:Int)<2*(k:Int)+2)=false:=by rw [decide_eq_false_iff_not];omega
 have e5:(2*(k:Int)).toNat=2*k:=by omega
 have e6:(2*(k:Int)+2).toNat=2*k+2:=by omega
 have e7:2*(k:Int)+2<=((d+2*k+2:Nat):Int):=by omega
 have e8:0<=2*(k:Int):=by omega
 have e9:2*(k:Int)<=2*(k:Int)+2:=by omega
 go_enter Tryz.func169,Tryz.ntmps169
 go_wp2_with fail
 go_ret
 exact⟨⟨_,rfl⟩,rfl⟩
def zsum:Value->Nat
 | .complex _ a b=>match ptOf a b with
   | some p=>(p.1+p.2).toNat
   | none=>0
 | _=>0
theorem zsum_eq {a b x y:Nat}(h:ptOf a b=some ((x:Int),(y:Int))):zsum (.complex .f64 a b)=x+y:=by
 simp only [zsum,h]
 omega
set_option maxRecDepth 100000 in
set_option maxHeartbeats 2000000 in
theorem getname_p (B p N:Nat)(S:TS)(rs:List Reg)(own:Int)(m b d:Nat)(w:World)(h:Plays B w p S)(hreg:RegsAt [2,3,4] w p b rs)(hlen:rs.length=2*triN N)(hok:∀ r∈rs,r.ok/\r.n=N)(h1:1<=N)(h2:N<=8)(hm1:m<N)
  (hd:d<=9223372036854775000) :
  Calls Tryz.prog 90 #[.pointer (some ⟨p,0,none⟩),.slice (some ⟨b,0,none⟩) rs.length (d+rs.length),V Z N,V Z own,V Z m] w (Post encI B p w ((getM rs N own m).run S)):=by
 generalize hR:Post encI B p w ((getM rs N own m).run S)=R
 have hO:Owes R encI B p w ((getM rs N own m).run S):=hR▸owes _ _ _ _ _
 clear hR
 have hK:=Keep.refl [2,3,4] B p w
 have hP:=h;clear h;unfold getM at hO;rw [run_gt] at hO
 have hT36:triN N<=36:=by
  have:=triN_mono h2
  rw [show triN 8=36 from by decide] at this
  exact this
 have hT1:1<=triN N:=by
  have:=triN_mono h1
  rw [show triN 1=1 from by decide] at this
  exact this
 have hsz:=fun w=>gsize_p N (by omega) w
 have hat1:=fun w=>at_p 1 0 w
 have hat2:=fun w=>at_p 0 1 w
 have hat3:=fun w=>at_p 0 0 w
 rw [show clampR 1=1 from by decide,show clampR 0=0 from by decide] at hat1 hat2
 rw [show clampR 0=0 from by decide] at hat3
 have hpt1:ptOf (floatOfInt .f64 1) (floatOfInt .f64 0)=some (1,0):=pt_nat 1 0 (by omega) (by omega)
 have hpt2:ptOf (floatOfInt .f64 0) (floatOfInt .f64 1)=some (0,1):=pt_nat 0 1 (by omega) (by omega)
 have hpt3:ptOf (floatOfInt .f64 0) (floatOfInt .f64 0)=some (((0:Nat):Int),((0:Nat):Int)):=pt_nat 0 0 (by omega) (by omega)
 have hptsh:=Hd (And.intro hpt1 (And.intro hpt2 hpt3))
 clear hpt1 hpt2 hpt3
 obtain⟨r1,hr1⟩:∃ x,floatOfInt .f64 1=x:=⟨_,rfl⟩
 obtain⟨r0,hr0⟩:∃ x,floatOfInt .f64 0=x:=⟨_,rfl⟩
 have hw1:=IntWalk.i64_in ((triN N:Int)-1) (by omega)
 have hoh:=Hd hO
 have hlenh:=Hd hlen
 have hokh:=Hd hok
 clear hO hok
 go_enter Tryz.func90,Tryz.ntmps90
 go_wp2_with fail
 refine wp_scope_straight ?_
 go_wp2_with fail
 refine (get_p B p S own _ hP).mono ?_
 rintro e w' ⟨rfl,rfl⟩;have hO:=hoh.out;clear hoh
 generalize S.got own=x at hO ⊢
 by_cases hx:x=0
 · have dx:(x != 0)=false:=by simpa using hx
   rw [if_neg (by simpa using hx)] at hO
   have hOh:=Hd hO;clear hO hx;go_wp2_with fail
   refine (hsz _).mono ?_
   rintro e w' ⟨rfl,rfl⟩;go_wp2_with fail
   refine (hat1 _).mono ?_
   rintro e w' ⟨rfl,rfl⟩;go_wp2_with fail
   refine (hat2 _).mono ?_
   rintro e w' ⟨rfl,rfl⟩;go_wp2_with fail
   refine (hat3 _).mono ?_
   rintro e w' ⟨rfl,rfl⟩;go_wp2_with fail
   apply wp_label
   rename_i hKK
   replace hKK:=Hd hKK
   refine hKK.out _ _ ?_
   clear hKK
   obtain⟨G,hG⟩:∃ G:Int->Prog Int,G=fun name=>(st own (name+1)).bind fun _=>.ret name:=⟨_,rfl⟩
   replace hO:=hOh.out
   rw [<- hG] at hO
   have hOh2:=Hd hO
   have hGh:=Hd hG
   clear hO hOh hG hsz hat1 hat2 hat3;go_wp2_with fail
   go_loopw [12,15] (fun u z wr=>∃ (f x y za zb:Nat) (S2:TS),z=.complex .f64 za zb/\Hid (ptOf za zb=some ((x:Int),(y:Int)))/\x+y+f=N/\u=V Z ((triN N:Int)-1)/\Plays B wr p S2/\KeepP B p w wr/\RegsAt [2,3,4] wr p b rs/\Hid (Owes R encI B p w (((nameM rs N m f x y).bind G).run S2))) (fun _ z _=>N-zsum z)
   case atStart=>exact⟨N,0,0,r0,r0,S,rfl,Hd (by rw [<- hr0];exact hptsh.out.2.2),by omega,rfl,hP,hK,hreg,hOh2⟩
   case round =>
    clear hP hK hreg hOh2
    obtain⟨f,x,y,za,zb,S2,rfl,hpt,hxy,rfl,hP,hK,hreg,hOh⟩:=hrel
    have hon:=fun w=>gon_p N za zb x y hpt.out (by omega) w
    cases f with
    | zero =>
      have d1:decide (x+y<N)=false:=by rw [decide_eq_false_iff_not];omega
      rw [d1] at hon;replace hO:=hOh.out
      rw [show nameM rs N m 0 x y=.ret ((triN N:Int)-1) from rfl,Prog.bind_ret,show G ((triN N:Int)-1)=(st own (triN N:Int)).bind fun _=>.ret ((triN N:Int)-1) from by
       rw [hGh.out]
       show (st own ((triN N:Int)-1+1)).bind _=_
       rw [show (triN N:Int)-1+1=(triN N:Int) from by omega]] at hO
      clear hOh;have hOh:=Hd hO
      have hw2:IntKind.i64.wrap ((triN N:Int)-1+1)=(triN N:Int):=by rw [IntWalk.i64_in _ (by omega)];omega
      have hw3:IntKind.i64.wrap (triN N:Int)=(triN N:Int):=IntWalk.i64_in _ (by omega)
      clear hO hpt hxy;go_wp2_with fail
      refine (hon _).mono ?_
      rintro e w' ⟨rfl,rfl⟩;go_wp2_with fail
      refine tstep hOh.out hK (setO hP) (fun _ h=>⟨rfl,h⟩) ?_
      clear hOh hK hP;intro u9 S9 w9 _ hP hk hK hO
      have hf:=hO.done (v:=(triN N:Int)-1) hP hK
      clear hO hP hK hk;go_wp2_with fail
      first | exact hf | (go_ret;exact hf)
    | succ f =>
      have d1:decide (x+y<N)=true:=by rw [decide_eq_true_eq];omega
      rw [d1] at hon
      have hkl:=triName_lt (x:=x) (y:=y) (N:=N) (by omega)
      have hnm:=fun w=>gname_p za zb x y hpt.out (by omega) w
      obtain⟨k,hk⟩:∃ k,triName x y=k:=⟨_,rfl⟩
      rw [hk] at hkl hnm
      obtain⟨q0,hq0⟩:∃ r,rs[2*k]?=some r:=⟨_,List.getElem?_eq_getElem (by omega)⟩
      obtain⟨q1,hq1⟩:∃ r,rs[2*k+1]?=some r:=⟨_,List.getElem?_eq_getElem (by omega)⟩
      have hok0:=hokh.out _ (List.mem_of_getElem? hq0)
      have hok1:=hokh.out _ (List.mem_of_getElem? hq1)
      have hra:=fun w=>rat_p b (2*triN N) k (d+2*triN N-(2*k+2)) w (by omega) (by omega) (by omega) (by omega)
      rw [show d+2*triN N-(2*k+2)+2*k+2=d+2*triN N from by omega] at hra
      replace hO:=hOh.out
      rw [show nameM rs N m (f+1) x y=((passM (regAt rs (2*(triName x y:Int))) (regAt rs (2*(triName x y:Int)+1)) m).bind fun told =>
       if told=0 then .ret (triName x y:Int) else if told=1 then nameM rs N m f (x+1) y else nameM rs N m f x (y+1)) from rfl,hk,regAt_of (show 2*(k:Int)=((2*k:Nat):Int) from by omega) hq0,regAt_of (show 2*(k:Int)+1=((2*k+1:Nat):Int) from by omega) hq1,Prog.bind_assoc] at hO
      clear hOh;have hOh:=Hd hO
      have hqq:=Hd (And.intro hq0 hq1)
      have hzs:=Hd (zsum_eq hpt.out)
      have hxyh:=Hd hxy
      have hkh:=Hd hk
      clear hO hq0 hq1 hxy hk;go_wp2_with fail
      refine (hon _).mono ?_
      rintro e w' ⟨rfl,rfl⟩;go_wp2_with fail
      refine (hnm _).mono ?_
      rintro e w' ⟨rfl,rfl⟩;go_wp2_with fail
      refine (hra _).mono ?_
      rintro e w' ⟨⟨cc,rfl⟩,rfl⟩
      go_wp2_with fail
      refine tstep hOh.out hK (passn_p B p S2 q0 q1 m b cc (2*k) rs _ hP hreg hqq.out hok0.1 hok1.1 (by omega) (by rw [hok0.2];omega) (by rw [hok1.2];omega)) (fun _ h=>⟨rfl,h⟩) ?_
      clear hOh hK hP;intro told S3 w3 hrun hP hk1 hK hO;replace hreg:=hreg.keep hk1;clear hk1 hrun hqq hok0 hok1 hra hon
      by_cases ht0:told=0
      · have dt:(told==0)=true:=by rw [beq_iff_eq];exact ht0
        rw [if_pos ht0,Prog.bind_ret,show G (k:Int)=(st own ((k:Int)+1)).bind fun _=>.ret (k:Int) from by rw [hGh.out]] at hO
        have hOh:=Hd hO
        have hw2:IntKind.i64.wrap ((k:Int)+1)=(k:Int)+1:=IntWalk.i64_in _ (by omega)
        clear hO ht0 hzs hpt;go_wp2_with fail
        refine (hnm _).mono ?_
        rintro e w' ⟨rfl,rfl⟩;go_wp2_with fail
        refine tstep hOh.out hK (setO hP) (fun _ h=>⟨rfl,h⟩) ?_
        clear hOh hK hP;intro u9 S9 w9 _ hP hk hK hO
        have hf:=hO.done (v:=(k:Int)) hP hK
        clear hO hP hK hk;go_wp2_with fail
        first | exact hf | (go_ret;exact hf)
      · have dt:(told==0)=false:=by rw [beq_eq_false_iff_ne];exact ht0
        rw [if_neg ht0] at hO;clear hnm ht0
        by_cases ht1:told=1
        · have dt1:(told==1)=true:=by rw [beq_iff_eq];exact ht1
          rw [if_pos ht1] at hO;have hOh:=Hd hO
          obtain⟨re,im,hsum,hp2⟩:=padd hpt.out hptsh.out.1 (by have:=hxyh.out;exact⟨by simp only;omega,by simp only;omega,by simp only;omega,by simp only;omega⟩)
          rw [hr1,hr0] at hsum
          have hadd:=fun W=>run_complex_sum (P:=Tryz.prog) W .add (.inl rfl) 138 .f64 za zb r1 r0 re im hsum
          have hp3:ptOf re im=some (((x+1:Nat):Int),((y:Nat):Int)):=by rw [hp2];simp
          have hp3h:=Hd hp3
          clear hO ht1 hpt hsum hp2 hp3;go_wp2_with fail
          refine⟨⟨f,x+1,y,re,im,S3,rfl,hp3h,by have:=hxyh.out;omega,rfl,hP,hK,hreg,hOh⟩,?_⟩
          rw [hzs.out,zsum_eq hp3h.out]
          have:=hxyh.out
          omega
        · have dt1:(told==1)=false:=by rw [beq_eq_false_iff_ne];exact ht1
          rw [if_neg ht1] at hO;have hOh:=Hd hO
          obtain⟨re,im,hsum,hp2⟩:=padd hpt.out hptsh.out.2.1 (by have:=hxyh.out;exact⟨by simp only;omega,by simp only;omega,by simp only;omega,by simp only;omega⟩)
          rw [hr1,hr0] at hsum
          have hadd:=fun W=>run_complex_sum (P:=Tryz.prog) W .add (.inl rfl) 138 .f64 za zb r0 r1 re im hsum
          have hp3:ptOf re im=some (((x:Nat):Int),((y+1:Nat):Int)):=by rw [hp2];simp
          have hp3h:=Hd hp3
          clear hO ht1 hpt hsum hp2 hp3;go_wp2_with fail
          refine⟨⟨f,x,y+1,re,im,S3,rfl,hp3h,by have:=hxyh.out;omega,rfl,hP,hK,hreg,hOh⟩,?_⟩
          rw [hzs.out,zsum_eq hp3h.out]
          have:=hxyh.out
          omega
 · have dx:(x != 0)=true:=by simpa using hx
   rw [if_pos (by simpa using hx)] at hO
   have hf:=hO.done hP hK
   clear hO hx;go_wp2_with fail
   first | exact hf | (go_ret;exact hf)
theorem levels_p (n:Int)(hn:n<=9223372036854775807)(w:World) :
  Calls Tryz.prog 123 #[V Z n] w fun e w'=>e=.returned (V Z (levels n))/\w=w':=by
 by_cases h1:n<=1
 · have H:=Hd (levels_small n h1)
   go_enter Tryz.func123,Tryz.ntmps123
   go_wp2
   go_ret
   exact⟨ret_int (by rw [H.out];rfl),rfl⟩
 · have H:=Hd (levels_bitLen n (by omega))
   rw [show (n-1).toNat=n.toNat-1 from by omega] at H
   go_enter Tryz.func123,Tryz.ntmps123
   go_wp2_with (go_at_call 219;refine (Tryz.bits_Len64 _ _ (by omega) (by omega)).mono ?_;rintro e w' ⟨rfl,rfl⟩)
   go_ret
   exact⟨ret_int (by rw [H.out]),rfl⟩
theorem info_strip:(Tryz.prog.info? 176).map (fun i=>(i.zero,i.size,i.bytes))=some (some (.agg #[V Z 0,V Z 0,V Z 0]),3,24):=by kernel_rfl
theorem append_recs {ops:Array Oper}{rest:List Oper}{o:Oper}{a:Act}{Q:Exit->Act->World->Prop}{w0 w:World}{e t:TypeId}{z:Value}{size bytes:Nat}
  (hinfo:(Tryz.prog.info? e).map (fun i=>(i.zero,i.size,i.bytes))=some (some z,size,bytes))(hund:Tryz.prog.underlying t=some (.slice e))(hzs:z.cells.size=size)(hsz:0<size)(hby:bytes<=100)
  (hgd:o.guard=none)(s x:Operand)(ho:o.op=.call { callee:=.builtin .append,args:=#[s,x],argTypes:=#[t,t] })
  (v:Value)(n:Nat)(xs news:List Value)(ad:Addr)(m c:Nat)(hX:Ext w0 w)(hown:w.ownsRow w0.heap.size e size v n xs)(hs:a.eval s=v)(hx:a.eval x=.slice (some ad) m c)
  (hnl:news.length=m*size)(hnews:∀ j u,news[j]?=some u->w.cell? (ad.add j)=some u)(h1:∀ u∈news,u.oneCell'=true)(hlen:n<1000000000)(hm:m<1000000000)
  (h:∀ v' w',w'.ownsRow w0.heap.size e size v' (n+m) (xs++news)->Ext w0 w'->wpList Tryz.prog ops Q rest (a.put o.dst v') w') :
  wpList Tryz.prog ops Q (o :: rest) a w:=by
 obtain⟨i0,hi,hz0,hz1,hz2⟩:=info_parts hinfo
 refine wpList_append_own_at _ hgd s x t ho w0.heap.size e i0 z size bytes hund hi hz0 hz1 hz2 hzs hsz v n xs hs hown ad m c news hx hnl hnews h1 (by unfold maxLen;omega) ?_ hX.size fun v' w' h2 h3 _ _=>?_
 · have:(n+m)*bytes<=(n+m)*100:=Nat.mul_le_mul_left _ hby
   omega
 · refine h v' w' h2 (Below.grown hX h3 hX.size fun k hk=>?_)
   rcases hown.2 with⟨rfl,_⟩ | ⟨g,cap,cur,rfl,hgb,_⟩
   · simp [Value.ownBlock] at hk
   · simp [Value.ownBlock] at hk
     omega
theorem row_new (w:World)(xs:List Value)(e size n:Nat)(h:xs.length=n*size)(hn:n<=1000000):(w.alloc (.cells xs.toArray e)).ownsRow w.heap.size e size (.slice (some ⟨w.heap.size,0,none⟩) n n) n xs :=
 ⟨h,.inr ⟨w.heap.size,n,xs.toArray,rfl,Nat.le_refl _,heap_alloc_new _ _,Nat.le_refl _,by unfold maxLen;omega,by simpa using h,by simp [<- h]⟩⟩
@[go_sem] theorem build_strip (a b c:Int) (w:World):(Instr.build 176 #[(0,V Z a),(1,V Z b),(2,V Z c)]).run Tryz.prog w=.ok (.agg #[V Z a,V Z b,V Z c]) w:=run_build w 176 _ _ (by kernel_rfl)
theorem trstrips_p (w:World):Calls Tryz.prog 314 #[] w fun e w'=>e=.returned (.slice (some ⟨w.heap.size,0,none⟩) 1 1)/\w.alloc (.cells #[V Z 3,V Z 1,V Z 1] 176)=w':=by
 go_enter Tryz.func314,Tryz.ntmps314
 go_wp2_with fail
 go_ret
 exact⟨rfl,rfl⟩
def sixVals:List Value:=[V Z 4,V Z 1,V Z 1099511627776,V Z 12,V Z 1,V Z 1]
def pairVals (m:Nat):List Value:=(List.replicate m ()).flatMap fun _=>sixVals
theorem pairVals_succ (m:Nat):pairVals (m+1)=pairVals m++sixVals:=by unfold pairVals;rw [List.replicate_succ',List.flatMap_append];rfl
theorem pairVals_add (m k:Nat):pairVals (m+k)=pairVals m++pairVals k:=by unfold pairVals;rw [<- List.flatMap_append,List.replicate_append_replicate]
theorem pairVals_len (m:Nat):(pairVals m).length=6*m:=by unfold pairVals;rw [flat_len _ 6 (fun _=>rfl),List.length_replicate]
theorem pairVals_one (m:Nat):∀ u∈pairVals m,u.oneCell'=true:=by
 intro u hu;unfold pairVals at hu
 simp only [List.mem_flatMap,sixVals,List.mem_cons,List.not_mem_nil,or_false] at hu
 obtain⟨_,_,h⟩:=hu
 rcases h with rfl | rfl | rfl | rfl | rfl | rfl <;> rfl
theorem pair_at (m i:Nat)(h:i<2*m):(pairVals m)[i*3]?=some (V Z (if i % 2=0 then 4 else 12))/\(∃ x,(pairVals m)[i*3+1]?=some (V Z x))/\∃ x,(pairVals m)[i*3+2]?=some (V Z x):=by
 have f:=fun j hj=>flat_at (fun _:Unit=>sixVals) 6 (fun _=>rfl) (List.replicate m ()) (i / 2) j () (by rw [List.getElem?_replicate,if_pos (by omega)]) hj
 rcases Nat.mod_two_eq_zero_or_one i with e | e
 · rw [if_pos e]
   have e0:i*3=6*(i / 2)+0:=by omega
   rw [e0]
   exact⟨f 0 (by omega),⟨_,f 1 (by omega)⟩,⟨_,f 2 (by omega)⟩⟩
 · rw [if_neg (by omega)]
   have e0:i*3=6*(i / 2)+3:=by omega
   rw [e0]
   exact⟨f 3 (by omega),⟨_,f 4 (by omega)⟩,⟨_,f 5 (by omega)⟩⟩
set_option maxRecDepth 100000 in
theorem sstrips_p (w:World):Calls Tryz.prog 315 #[] w fun e w'=>∃ v,e=.returned v/\w'.ownsRow w.heap.size 176 3 v 2 sixVals/\Ext w w':=by
 have hr:=row_new w [V Z 4,V Z 1,V Z 1099511627776] 176 3 1 rfl (by omega)
 have hX:=(Ext.refl w).alloc (.cells [V Z 4,V Z 1,V Z 1099511627776].toArray 176)
 go_enter Tryz.func315,Tryz.ntmps315
 go_wp2_with fail
 generalize w.alloc _=W at *
 refine (trstrips_p _).mono ?_
 rintro e w' ⟨rfl,rfl⟩
 have g1:=Blk.new W (.cells #[V Z 3,V Z 1,V Z 1] 176)
 have x1:=(Ext.refl W).alloc (.cells #[V Z 3,V Z 1,V Z 1] 176)
 replace hr:=row_ext hr x1;replace hX:=hX.trans x1
 generalize W.alloc _=W1 at *
 go_wp2_with fail
 go_loopw [1,8] (fun v i wr=>∃ j:Nat,i=V Z j/\j<=1/\(j=0->Blk wr W.heap.size (.cells #[V Z 3,V Z 1,V Z 1] 176))/\Ext w wr/\wr.ownsRow w.heap.size 176 3 v (1+j) (sixVals.take (3+3*j))) (fun _ i _=>1-(intOf i).toNat)
 case atStart=>exact⟨0,rfl,by omega,fun _=>g1,hX,hr⟩
 case round =>
  obtain⟨j,rfl,hj,hx,hX2,hown⟩:=hrel
  clear hr hX
  by_cases hl:j<1
  · obtain rfl:j=0:=by omega
    have g2:=hx rfl
    clear hx;have c_g:=g2.cells
    have g3:=Blk.new wr (.cells #[V Z 3,V Z 1,V Z 1] 176)
    have h12:Ext w ((wr.alloc (.cells #[V Z 12,V Z 1,V Z 1] 176))):=hX2.alloc _
    have ho12:((wr.alloc (.cells #[V Z 12,V Z 1,V Z 1] 176))).ownsRow w.heap.size 176 3 u1 1 [V Z 4,V Z 1,V Z 1099511627776]:=World.ownsRow.alloc hown _
    clear hown
    go_wp2_with (at_builtin;refine append_rec info_strip Tryz.underlying120 rfl (by decide) (by decide) rfl _ _ rfl _ 1 _ [V Z 12,V Z 1,V Z 1] h12 ho12 rfl (by simp [Act.eval,World.size_alloc]) rfl (by simp [Value.oneCell']) (by omega) ?_)
    intro v' w' ho hx' _
    have hoh:=Hd ho
    clear ho ho12 h12 c_g g2 g3;go_wp2_with fail
    refine⟨⟨1,by go_num,by omega,fun h=>by omega,hx',hoh.out⟩,?_⟩
    simp [intOf]
  · obtain rfl:j=1:=by omega
    have hownh:=Hd hown
    clear hown;go_wp2_with fail
    go_ret
    exact⟨_,rfl,hownh.out,hX2⟩
set_option maxRecDepth 100000 in
theorem tstrips_p (n:Int)(w:World)(h1:1<=n)(h2:n<=8):Calls Tryz.prog 316 #[V Z n] w fun e w'=>∃ v,e=.returned v/\w'.ownsRow w.heap.size 176 3 v (2*((n-1).toNat*(n-1).toNat)) (pairVals ((n-1).toNat*(n-1).toNat))/\Ext w w':=by
 obtain⟨k,rfl⟩:∃ k:Nat,n=(k:Int)+1:=⟨(n-1).toNat,by omega⟩
 have hk:k*k<=49:=Nat.mul_le_mul (show k<=7 by omega) (show k<=7 by omega)
 have hkk:(k:Int)*(k:Int)=((k*k:Nat):Int):=by simp
 rw [show ((k:Int)+1-1).toNat=k by omega]
 generalize hm:k*k=m at *
 clear hm
 go_enter Tryz.func316,Tryz.ntmps316
 go_wp2_with fail
 refine (threads_p ((k:Int)+1) _ h1 h2).mono ?_
 rintro e w' ⟨rfl,rfl⟩;go_wp2_with fail
 go_loopw [4,11] (fun v i wr=>∃ j:Nat,i=V Z j/\j<=m/\wr.ownsRow w.heap.size 176 3 v (2*j) (pairVals j)/\Ext w wr) (fun _ i _=>m-(intOf i).toNat)
 case atStart=>exact⟨0,rfl,by omega,World.ownsRow_nil _ _ _ _,Ext.refl _⟩
 case round =>
  obtain⟨j,rfl,hj,hown,hX⟩:=hrel
  by_cases hl:j<m
  · go_wp2_with fail
    refine (sstrips_p _).mono ?_
    rintro e w2 ⟨v2,rfl,hr2,hx2⟩
    obtain⟨A,c,rfl,r1,r2,hV⟩:=Recs.of_row hr2
    obtain⟨b,rfl,hb,hc⟩:=hV (by simp [sixVals])
    replace hown:=row_ext hown hx2;replace hX:=hX.trans hx2;clear hr2 hV hx2
    go_wp2_with (at_builtin;refine append_recs info_strip Tryz.underlying120 rfl (by decide) (by decide) rfl _ _ rfl _ (2*j) _ sixVals ⟨b,0,none⟩ 2 c hX hown rfl rfl rfl (fun i u hu=>by rw [Addr.add_lit,Nat.zero_add];exact hc i u hu) (fun u hu=>pairVals_one 1 u (by simpa [pairVals] using hu)) (by omega) (by omega) ?_)
    intro v' w' ho hx'
    have hoh:=Hd ho
    clear hown ho hc;go_wp2_with fail
    refine⟨⟨j+1,by go_num,by omega,by rw [pairVals_succ];exact hoh.out,hx'⟩,?_⟩
    simp [intOf];omega
  · obtain rfl:j=m:=by omega
    have hownh:=Hd hown
    clear hown;go_wp2_with fail
    go_ret
    exact⟨_,rfl,hownh.out,hX⟩
set_option maxRecDepth 100000 in
theorem mstrips_p (n:Int)(w:World)(h1:2<=n)(h2:n<=8)(ht:Calls Tryz.prog 320 #[V Z n] w fun e w'=>e=.returned (V Z n)/\w=w'):Calls Tryz.prog 317 #[V Z n] w fun e w'=>∃ v,e=.returned v/\w'.ownsRow w.heap.size 176 3 v (2*(n.toNat*((n-1).toNat*(n-1).toNat))) (pairVals (n.toNat*((n-1).toNat*(n-1).toNat)))/\Ext w w':=by
 have hT:=fun w=>tstrips_p n w (by omega) h2
 have hm1:1<=(n-1).toNat*(n-1).toNat:=Nat.mul_pos (by omega) (by omega)
 have hk:(n-1).toNat*(n-1).toNat<=49:=Nat.mul_le_mul (show (n-1).toNat<=7 by omega) (show (n-1).toNat<=7 by omega)
 generalize (n-1).toNat*(n-1).toNat=m at *
 obtain⟨k,rfl⟩:∃ k:Nat,n=(k:Int):=⟨n.toNat,by omega⟩
 rw [Int.toNat_natCast]
 go_enter Tryz.func317,Tryz.ntmps317
 go_wp2_with fail
 refine ht.mono ?_
 rintro e w' ⟨rfl,rfl⟩;go_wp2_with fail
 go_loopw [3,6] (fun v i wr=>∃ j:Nat,i=V Z j/\j<=k/\wr.ownsRow w.heap.size 176 3 v (2*(j*m)) (pairVals (j*m))/\Ext w wr) (fun _ i _=>k-(intOf i).toNat)
 case atStart=>exact⟨0,rfl,by omega,by rw [Nat.zero_mul];exact World.ownsRow_nil _ _ _ _,Ext.refl _⟩
 case round =>
  obtain⟨j,rfl,hj,hown,hX⟩:=hrel
  by_cases hl:j<k
  · have hjm:j*m<=8*49:=Nat.mul_le_mul (by omega) hk
    go_wp2_with fail
    refine (hT _).mono ?_
    rintro e w2 ⟨v2,rfl,hr2,hx2⟩
    obtain⟨A,c,rfl,r1,r2,hV⟩:=Recs.of_row hr2
    replace hown:=row_ext hown hx2;replace hX:=hX.trans hx2
    have hjs:(j+1)*m=j*m+m:=Nat.succ_mul j m
    obtain⟨b,rfl,hb,hc⟩:=hV (fun e=>by have:=pairVals_len m;rw [e] at this;simp at this;omega)
    clear hr2 hV hx2
    go_wp2_with (at_builtin;refine append_recs info_strip Tryz.underlying120 rfl (by decide) (by decide) rfl _ _ rfl _ (2*(j*m)) _ (pairVals m) ⟨b,0,none⟩ (2*m) c hX hown rfl rfl (by rw [pairVals_len];omega) (fun i u hu=>by rw [Addr.add_lit,Nat.zero_add];exact hc i u hu) (pairVals_one m) (by omega) (by omega) ?_)
    intro v' w' ho hx'
    have hoh:=Hd ho
    clear hown ho hc;go_wp2_with fail
    refine⟨⟨j+1,by go_num,by omega,?_,hx'⟩,?_⟩
    · rw [hjs,pairVals_add,Nat.mul_add];exact hoh.out
    · simp [intOf];omega
  · obtain rfl:j=k:=by omega
    have hownh:=Hd hown
    clear hown;go_wp2_with fail
    go_ret
    exact⟨_,rfl,hownh.out,hX⟩
def StripsAre (w w':World) (v:Value) (n:Nat) (f:Nat->Int):Prop :=
 ∃ A c vals,v=.slice A n c/\n<=c/\c<=9223372036854775807/\Ext w w'/\∀ i,i<n->∃ b x y,A=some ⟨b,0,none⟩/\b<w'.heap.size/\vals=b/\w'.cell? ⟨b,i*3,none⟩=some (V Z (f i))/\w'.cell? ⟨b,i*3+1,none⟩=some (V Z x)/\w'.cell? ⟨b,i*3+2,none⟩=some (V Z y)
def pairF (i:Nat):Int:=if i % 2=0 then 4 else 12
theorem strips_pairs {w w':World}{B:Nat}{v:Value}{m:Nat}(h:w'.ownsRow B 176 3 v (2*m) (pairVals m))(hx:Ext w w'):StripsAre w w' v (2*m) pairF:=by
 obtain⟨A,c,rfl,r1,r2,hV⟩:=Recs.of_row h
 by_cases hm:m=0
 · subst hm
   exact⟨A,c,0,rfl,r1,r2,hx,fun i hi=>by omega⟩
 · obtain⟨b,rfl,hb,hc⟩:=hV (fun e=>by have:=pairVals_len m;rw [e] at this;simp at this;omega)
   refine⟨_,c,b,rfl,r1,r2,hx,fun i hi=>?_⟩
   obtain⟨p0,⟨x,p1⟩,⟨y,p2⟩⟩:=pair_at m i hi
   exact⟨b,x,y,rfl,hb,rfl,hc _ _ p0,hc _ _ p1,hc _ _ p2⟩
def manyF (r:Reg):Nat:=if r.kind=1 then 1 else if r.kind=6 then 2*((r.n-1).toNat*(r.n-1).toNat) else 2*(r.n.toNat*((r.n-1).toNat*(r.n-1).toNat))
def stripF (r:Reg) (i:Nat):Int:=if r.kind=1 then 1 else pairF i
set_option maxRecDepth 100000 in
theorem rstrips_p (r:Reg)(w:World)(hk:r.kind=1∨r.kind=6∨(r.kind=7/\2<=r.n))(hn:1<=r.n/\r.n<=8)(ht:∀ w,Calls Tryz.prog 320 #[V Z r.n] w fun e w'=>e=.returned (V Z r.n)/\w=w') :
  Calls Tryz.prog 274 #[encR r] w fun e w'=>∃ v,e=.returned v/\StripsAre w w' v (manyF r) (stripF r):=by
 obtain⟨kind,base,loc,n,wr,rd,top⟩:=r
 simp only at hk hn ht
 unfold encR
 simp only
 have hX:=Ext.refl w
 have b1:=Blk.new w (.cells #[V Z kind,V Z base,V Z loc,V Z n,V Z wr,V Z rd,V Z top] 67)
 replace hX:=hX.alloc (.cells #[V Z kind,V Z base,V Z loc,V Z n,V Z wr,V Z rd,V Z top] 67)
 have c_b1:=b1.cells
 rcases hk with rfl | rfl | ⟨rfl,h2⟩
 · go_enter Tryz.func274,Tryz.ntmps274
   go_wp2_with fail
   refine (clamp_p _ _ _).mono ?_
   rintro e w' ⟨rfl,rfl⟩
   have g1:=Blk.new (w.alloc (.cells #[V Z 1,V Z base,V Z loc,V Z n,V Z wr,V Z rd,V Z top] 67)) (.cells #[V Z 1,V Z 3,V Z (clamp top 1099511627776)] 176)
   have hX2:=Hd (hX.alloc (.cells #[V Z 1,V Z 3,V Z (clamp top 1099511627776)] 176))
   simp only [World.size_alloc] at g1
   have g1h:=Hd g1
   clear g1;go_wp2_with fail
   go_ret
   refine⟨_,rfl,some ⟨w.heap.size+1,0,none⟩,1,w.heap.size+1,rfl,by simp [manyF],by omega,hX2.out,fun i hi=>?_⟩
   have hi0:i=0:=by simp [manyF] at hi;exact hi
   subst hi0
   exact⟨_,_,_,rfl,g1h.out.lt,rfl,g1h.out.cells 0,g1h.out.cells 1,g1h.out.cells 2⟩
 · go_enter Tryz.func274,Tryz.ntmps274
   go_wp2_with fail
   refine (tstrips_p n _ hn.1 hn.2).mono ?_
   rintro e w2 ⟨v,rfl,hr,hx⟩
   have hS:=Hd (strips_pairs hr (hX.trans hx))
   clear hr hx;go_wp2_with fail
   go_ret
   exact⟨_,rfl,hS.out⟩
 · go_enter Tryz.func274,Tryz.ntmps274
   go_wp2_with fail
   refine (mstrips_p n _ h2 hn.2 (ht _)).mono ?_
   rintro e w2 ⟨v,rfl,hr,hx⟩
   have hS:=Hd (strips_pairs hr (hX.trans hx))
   clear hr hx;go_wp2_with fail
   go_ret
   exact⟨_,rfl,hS.out⟩
def sumF (f:Nat->Int):Nat->Int
 | 0=>0
 | n+1=>sumF f n+f n
theorem sum_pair:∀ m:Nat,sumF pairF (2*m)=16*(m:Int)
 | 0=>rfl
 | m+1=>by
   have h1:pairF (2*m)=4:=by unfold pairF;rw [if_pos (by omega)]
   have h2:pairF (2*m+1)=12:=by unfold pairF;rw [if_neg (by omega)]
   show sumF pairF (2*m)+pairF (2*m)+pairF (2*m+1)=_
   rw [sum_pair m,h1,h2]
   omega
theorem sumF_bd (r:Reg):∀ n:Nat,0<=sumF (stripF r) n/\sumF (stripF r) n<=12*n
 | 0=>by simp [sumF]
 | n+1=>by
   have h:=sumF_bd r n
   have h2:0<=stripF r n/\stripF r n<=12:=by unfold stripF pairF;split <;> (try split) <;> omega
   show 0<=sumF (stripF r) n+stripF r n/\sumF (stripF r) n+stripF r n<=_
   omega
theorem sum_cells (r:Reg)(hk:r.kind=1∨r.kind=6∨r.kind=7)(hn:1<=r.n/\r.n<=8):sumF (stripF r) (manyF r)=cellsM r:=by
 obtain⟨k,hk0⟩:∃ k:Nat,r.n=(k:Int)+1:=⟨(r.n-1).toNat,by omega⟩
 rcases hk with h | h | h
 · unfold manyF cellsM
   rw [if_pos h,if_pos h]
   show sumF (stripF r) 0+stripF r 0=1
   unfold stripF
   rw [if_pos h]
   rfl
 · have e:stripF r=pairF:=by funext i;unfold stripF;rw [if_neg (by omega)]
   have n1:r.kind≠1:=by omega
   unfold manyF cellsM
   rw [if_neg n1,if_neg n1,if_pos h,if_pos h,e,sum_pair,hk0,show ((k:Int)+1-1)=(k:Int) by omega,Int.toNat_natCast,Int.natCast_mul,<- Int.mul_assoc]
 · have e:stripF r=pairF:=by funext i;unfold stripF;rw [if_neg (by omega)]
   have n1:r.kind≠1:=by omega
   have n6:r.kind≠6:=by omega
   unfold manyF cellsM
   rw [if_neg n1,if_neg n1,if_neg n6,if_neg n6,e,sum_pair,hk0,show ((k:Int)+1-1)=(k:Int) by omega,show ((k:Int)+1).toNat=k+1 by omega,Int.toNat_natCast,Int.natCast_mul,Int.natCast_mul,Int.mul_comm ((k+1:Nat):Int),<- Int.mul_assoc,<- Int.mul_assoc]
   rfl
theorem manyF_bd (r:Reg)(hn:1<=r.n/\r.n<=8):manyF r<=784:=by
 have h1:(r.n-1).toNat*(r.n-1).toNat<=49:=Nat.mul_le_mul (show (r.n-1).toNat<=7 by omega) (show (r.n-1).toNat<=7 by omega)
 have h2:r.n.toNat*((r.n-1).toNat*(r.n-1).toNat)<=8*49:=Nat.mul_le_mul (by omega) h1
 unfold manyF
 split
 · omega
 · split <;> omega
set_option maxRecDepth 100000 in
theorem cells_p (r:Reg)(w:World)(hk:r.kind=1∨r.kind=6∨(r.kind=7/\2<=r.n))(hn:1<=r.n/\r.n<=8)(ht:∀ w,Calls Tryz.prog 320 #[V Z r.n] w fun e w'=>e=.returned (V Z r.n)/\w=w') :
  Calls Tryz.prog 225 #[encR r] w fun e w'=>e=.returned (V Z (cellsM r))/\Ext w w':=by
 have hS:=fun w=>rstrips_p r w hk hn ht
 have hsum:=sum_cells r (by omega) hn
 have hbd:=sumF_bd r
 have hmn:=manyF_bd r hn
 generalize stripF r=f at *
 generalize manyF r=M at *
 rw [<- hsum]
 clear hsum hk hn ht
 obtain⟨kind,base,loc,n,wr,rd,top⟩:=r
 unfold encR at hS ⊢
 simp only at hS ⊢
 have hX:=Ext.refl w
 have b1:=Blk.new w (.cells #[V Z kind,V Z base,V Z loc,V Z n,V Z wr,V Z rd,V Z top] 67)
 replace hX:=hX.alloc (.cells #[V Z kind,V Z base,V Z loc,V Z n,V Z wr,V Z rd,V Z top] 67)
 have c_b1:=b1.cells
 go_enter Tryz.func225,Tryz.ntmps225
 go_wp2_with fail
 refine (hS _).mono ?_
 rintro e w2 ⟨v,rfl,A,c,bb,rfl,r1,r2,hx,hat⟩
 replace hX:=hX.trans hx;clear hx hS c_b1 b1;go_wp2_with fail
 go_loopw [3,9] (fun s i wr=>∃ j:Nat,i=V Z j/\j<=M/\s=V Z (sumF f j)/\Ext w2 wr) (fun _ i _=>M-(intOf i).toNat)
 case atStart=>exact⟨0,rfl,by omega,rfl,Ext.refl _⟩
 case round =>
  obtain⟨j,rfl,hj,rfl,hx⟩:=hrel
  by_cases hl:j<M
  · obtain⟨b,x,y,rfl,hb,rfl,e1,e2,e3⟩:=hat j hl
    have e1:=(hx.cell (p:=⟨bb,j*3,none⟩) hb).trans e1
    have e2:=(hx.cell (p:=⟨bb,j*3+1,none⟩) hb).trans e2
    have e3:=(hx.cell (p:=⟨bb,j*3+2,none⟩) hb).trans e3
    have hb1:=hbd j
    have hb2:=hbd (j+1)
    have hs:sumF f (j+1)=sumF f j+f j:=rfl
    rw [hs] at hb2
    have hxa:=Hd (hx.alloc (.cells #[V Z (f j),V Z x,V Z y] 176))
    have hsh:=Hd hs
    clear hat hbd hs
    generalize sumF f j=s at *
    generalize f j=F at *
    go_wp2_with fail
    refine⟨⟨j+1,by go_num,by omega,by rw [hsh.out],hxa.out⟩,?_⟩
    simp [intOf];omega
  · obtain rfl:j=M:=by omega
    clear hat hbd
    have hf:=Hd (hX.trans hx)
    go_wp2_with fail
    go_ret
    exact⟨rfl,hf.out⟩
end Go.Proofs.YtbaajjkopdjbgaaGreat
namespace Kv
def kesFree (s t y:Int):Bool:=if s=1 then decide (bitM y=t) else decide (bitM y≠t)
def kesT (s x:Int):Int:=if s=1 then 1-bitM x else bitM x
def kesSpin (qo ro:Reg) (s t me:Int):Nat->Prog Unit
 | 0=>.ret ()
 | n+1=>(regR qo me).bind fun x=>if x=0 then .ret () else (regR ro me).bind fun y=>if kesFree s t y then .ret () else kesSpin qo ro s t me n
def kesEnter (n:Nat) (qs qo rs ro:Reg) (s me:Int):Prog Unit :=
 (regW qs me 1).bind fun _=>(regR ro me).bind fun x=>(regW rs me (kesT s x)).bind fun _=>kesSpin qo ro s (kesT s x) me n
end Kv
namespace Go.Proofs.YtbaajjkopdjbgaaGreat
open Go.RowKit Kv
theorem kbit_p (x:Int)(w:World):Calls Tryz.prog 294 #[V Z x] w fun e w'=>e=.returned (V Z (bitM x))/\w=w':=by
 unfold bitM
 by_cases h:x=0
 · rw [if_pos h]
   go_enter Tryz.func294,Tryz.ntmps294
   go_wp2_with fail
   go_ret
   exact⟨rfl,rfl⟩
 · rw [if_neg h]
   have hb:(x != 0)=true:=by rw [bne_iff_ne];exact h
   go_enter Tryz.func294,Tryz.ntmps294
   go_wp2_with fail
   go_ret
   exact⟨rfl,rfl⟩
theorem kfree0_p (x t:Int)(b:Nat)(w:World)(h:w.cell? ⟨b,0,none⟩=some (V Z t)):Calls Tryz.prog 295 #[V Z x,.pointer (some ⟨b,0,none⟩)] w fun e w'=>e=.returned (.bool (x != t))/\w=w':=by
 go_enter Tryz.func295,Tryz.ntmps295
 go_wp2_with fail
 go_ret
 exact⟨rfl,rfl⟩
theorem kfree1_p (x t:Int)(b:Nat)(w:World)(h:w.cell? ⟨b,0,none⟩=some (V Z t)):Calls Tryz.prog 296 #[V Z x,.pointer (some ⟨b,0,none⟩)] w fun e w'=>e=.returned (.bool (x==t))/\w=w':=by
 go_enter Tryz.func296,Tryz.ntmps296
 go_wp2_with fail
 go_ret
 exact⟨rfl,rfl⟩
theorem cells_pm (r:Reg)(me:Int)(w:World)(ho:r.ok)(ht:r.told me)(hm:0<=me/\me<r.n):Calls Tryz.prog 225 #[encR r] w fun e w'=>∃ c:Int,e=.returned (V Z c)/\(c==0)=false/\Ext w w':=by
 refine (cells_p r w (by rcases ht with h | ⟨h,_⟩ | ⟨h,h2⟩;exact .inl h;exact .inr (.inl h);exact .inr (.inr ⟨h,h2⟩)) ho.n (fun w=>mthreads_p r.n w ho.n.1 ho.n.2)).mono fun e w' h=>⟨_,h.1,?_,h.2⟩
 rw [beq_eq_false_iff_ne]
 have hn:=ho.n
 have h2:r.kind≠1->2<=r.n:=fun h1=>by
  rcases ht with h | ⟨h,h3⟩ | ⟨h,h3⟩
  · exact absurd h h1
  · have:=ho.wr h;omega
  · exact h3
 unfold cellsM
 split
 · decide
 · rename_i h1
   have h3:=h2 h1
   have p1:0<16*(r.n-1)*(r.n-1):=Int.mul_pos (by omega) (by omega)
   split
   · omega
   · have p2:0<16*(r.n-1)*(r.n-1)*r.n:=Int.mul_pos p1 (by omega)
     omega
theorem kbit_p' (x:Int)(w:World):Calls Tryz.prog 294 #[V Z x] w fun e w'=>e=.returned (V Z (bitM x))/\w=w':=by
 unfold bitM
 by_cases h:x=0
 · rw [if_pos h]
   go_enter Tryz.func294,Tryz.ntmps294
   go_wp2_with fail
   go_ret
   exact⟨rfl,rfl⟩
 · rw [if_neg h]
   have hb:(x != 0)=true:=by rw [bne_iff_ne];exact h
   go_enter Tryz.func294,Tryz.ntmps294
   go_wp2_with fail
   go_ret
   exact⟨rfl,rfl⟩
end Go.Proofs.YtbaajjkopdjbgaaGreat
namespace Kv
def kesM (n:Nat) (q0 q1 r0 r1:Reg) (side me:Int):Prog Unit:=if bitM side=1 then kesEnter n q1 q0 r1 r0 1 me else kesEnter n q0 q1 r0 r1 0 me
def kesL (q0 q1:Reg) (side me:Int):Prog Unit:=regW (if bitM side=1 then q1 else q0) me 0
theorem bitM_or (x:Int):bitM x=0∨bitM x=1:=by unfold bitM;split <;> simp
end Kv
namespace Go.Proofs.YtbaajjkopdjbgaaGreat
open Go.RowKit Kv
theorem cells_bd (n:Int)(h1:1<=n)(h2:n<=8):(0<=16*(n-1)/\16*(n-1)<=112)/\(0<=16*(n-1)*(n-1)/\16*(n-1)*(n-1)<=784)/\(0<=16*(n-1)*(n-1)*n/\16*(n-1)*(n-1)*n<=6272):=by
 have a1:0<=16*(n-1)*(n-1):=Int.mul_nonneg (by omega) (by omega)
 have a2:16*(n-1)*(n-1)<=112*7:=Int.mul_le_mul (by omega) (by omega) (by omega) (by omega)
 have a3:0<=16*(n-1)*(n-1)*n:=Int.mul_nonneg a1 (by omega)
 have a4:16*(n-1)*(n-1)*n<=784*8:=Int.mul_le_mul (by omega) (by omega) (by omega) (by omega)
 omega
theorem locals_bd (n:Int)(h1:1<=n)(h2:n<=8):(0<=18*(n-1)/\18*(n-1)<=126)/\(0<=18*(n-1)*(n-1)/\18*(n-1)*(n-1)<=882)/\(0<=n*(2+18*(n-1)*(n-1))/\n*(2+18*(n-1)*(n-1))<=7072):=by
 have a1:0<=18*(n-1)*(n-1):=Int.mul_nonneg (by omega) (by omega)
 have a2:18*(n-1)*(n-1)<=126*7:=Int.mul_le_mul (by omega) (by omega) (by omega) (by omega)
 have a3:0<=n*(2+18*(n-1)*(n-1)):=Int.mul_nonneg (by omega) (by omega)
 have a4:n*(2+18*(n-1)*(n-1))<=8*884:=Int.mul_le_mul (by omega) (by omega) (by omega) (by omega)
 omega
theorem cells_r (r:Reg)(w:World)(hk:r.kind=1∨r.kind=6∨r.kind=7)(hn:1<=r.n/\r.n<=8):Calls Tryz.prog 239 #[encR r] w fun e w'=>e=.returned (V Z (cellsM r))/\Ext w w':=by
 obtain⟨kind,base,loc,n,wr,rd,top⟩:=r
 simp only at hk hn
 have hb:=cells_bd n hn.1 hn.2
 unfold encR cellsM
 simp only
 have hX:=Ext.refl w
 have b1:=Blk.new w (.cells #[V Z kind,V Z base,V Z loc,V Z n,V Z wr,V Z rd,V Z top] 67)
 replace hX:=hX.alloc (.cells #[V Z kind,V Z base,V Z loc,V Z n,V Z wr,V Z rd,V Z top] 67)
 have c_b1:=b1.cells
 go_enter Tryz.func239,Tryz.ntmps239
 go_wp2_with fail
 refine (rn_r ⟨kind,base,loc,n,wr,rd,top⟩ _ hn.1 hn.2).mono ?_
 rintro e w2 ⟨rfl,hx⟩
 clear c_b1;replace b1:=b1.ext hx;have c_b1:=b1.cells;replace hX:=hX.trans hx;clear hx
 rcases hk with rfl | rfl | rfl
 · go_wp2_with fail
   go_ret
   exact⟨rfl,hX⟩
 · go_wp2_with fail
   go_ret
   exact⟨rfl,hX⟩
 · go_wp2_with fail
   go_ret
   exact⟨rfl,hX⟩
theorem locals_r (r:Reg)(w:World)(hk:r.kind=1∨r.kind=6∨r.kind=7)(hn:1<=r.n/\r.n<=8):Calls Tryz.prog 240 #[encR r] w fun e w'=>e=.returned (V Z (localsM r))/\Ext w w':=by
 obtain⟨kind,base,loc,n,wr,rd,top⟩:=r
 simp only at hk hn
 have hb:=locals_bd n hn.1 hn.2
 unfold encR localsM
 simp only
 have hX:=Ext.refl w
 have b1:=Blk.new w (.cells #[V Z kind,V Z base,V Z loc,V Z n,V Z wr,V Z rd,V Z top] 67)
 replace hX:=hX.alloc (.cells #[V Z kind,V Z base,V Z loc,V Z n,V Z wr,V Z rd,V Z top] 67)
 have c_b1:=b1.cells
 go_enter Tryz.func240,Tryz.ntmps240
 go_wp2_with fail
 refine (rn_r ⟨kind,base,loc,n,wr,rd,top⟩ _ hn.1 hn.2).mono ?_
 rintro e w2 ⟨rfl,hx⟩
 clear c_b1;replace b1:=b1.ext hx;have c_b1:=b1.cells;replace hX:=hX.trans hx;clear hx
 rcases hk with rfl | rfl | rfl
 · go_wp2_with fail
   go_ret
   exact⟨rfl,hX⟩
 · go_wp2_with fail
   go_ret
   exact⟨rfl,hX⟩
 · go_wp2_with fail
   go_ret
   exact⟨rfl,hX⟩
theorem thread_in (n t:Int)(must:Bool)(w:World)(h:0<=t/\t<n):Calls Tryz.prog 298 #[V Z n,V Z t,.bool must] w fun e w'=>e=.returned (.bool true)/\w=w':=by
 obtain⟨h1,h2⟩:=h
 go_enter Tryz.func298,Tryz.ntmps298
 go_wp2_with fail
 go_ret
 exact⟨rfl,rfl⟩
theorem thread_none (n:Int)(w:World):Calls Tryz.prog 298 #[V Z n,V Z (-1),.bool false] w fun e w'=>e=.returned (.bool true)/\w=w':=by
 go_enter Tryz.func298,Tryz.ntmps298
 go_wp2_with fail
 go_ret
 exact⟨rfl,rfl⟩
theorem thread_any (n t:Int)(must:Bool)(w:World)(h:(0<=t/\t<n)∨(t=-1/\must=false)):Calls Tryz.prog 298 #[V Z n,V Z t,.bool must] w fun e w'=>e=.returned (.bool true)/\w=w':=by
 rcases h with h | ⟨rfl,rfl⟩
 · exact thread_in n t must w h
 · exact thread_none n w
structure Drawn (r:Reg):Prop where
 kind:r.kind=1∨r.kind=6∨r.kind=7
 base:0<=r.base
 loc:0<=r.loc
 n:1<=r.n/\r.n<=8
 wr:-1<=r.wr/\r.wr<r.n
 wr6:r.kind=6->0<=r.wr
 rd:r.rd=-1
 top:1<=r.top/\r.top<=255
set_option maxRecDepth 100000 in
set_option maxHeartbeats 2000000 in
theorem fine1_r (base loc n wr top C D:Int)(w:World)(hb:0<=base)(hl:0<=loc)(hn:1<=n/\n<=8)(hw:-1<=wr/\wr<n)(ht:1<=top/\top<=255)(hz:0<=C/\C<=6272/\0<=D/\D<=7072)
  (hC:∀ w,Calls Tryz.prog 239 #[.agg #[V Z 1,V Z base,V Z loc,V Z n,V Z wr,V Z (-1),V Z top]] w fun e w'=>e=.returned (V Z C)/\Ext w w')
  (hL:∀ w,Calls Tryz.prog 240 #[.agg #[V Z 1,V Z base,V Z loc,V Z n,V Z wr,V Z (-1),V Z top]] w fun e w'=>e=.returned (V Z D)/\Ext w w') :
  Calls Tryz.prog 238 #[.agg #[V Z 1,V Z base,V Z loc,V Z n,V Z wr,V Z (-1),V Z top]] w fun e w'=>e=.returned (.bool (decide (base<=32768)&&decide (loc<=32768)&&decide (base+C<=32768)&&decide (loc+D<=32768)))/\Ext w w':=by
 have d1:decide (base<0)=false:=by simpa using hb
 have d2:decide (loc<0)=false:=by simpa using hl
 have d3:decide (n<1)=false:=by simpa using hn.1
 have d4:decide (8<n)=false:=by simpa using hn.2
 have d7:decide (1<=top)=true:=by simpa using ht.1
 have hX:=Ext.refl w
 have b1:=Blk.new w (.cells #[V Z 1,V Z base,V Z loc,V Z n,V Z wr,V Z (-1),V Z top] 67)
 replace hX:=hX.alloc (.cells #[V Z 1,V Z base,V Z loc,V Z n,V Z wr,V Z (-1),V Z top] 67)
 have c_b1:=b1.cells
 by_cases e1:base<=32768
 · have d5:decide (32768<base)=false:=by simpa using e1
   by_cases e2:loc<=32768
   · have d6:decide (32768<loc)=false:=by simpa using e2
     have e1':decide (base<=32768)=true:=by simpa using e1
     have e2':decide (loc<=32768)=true:=by simpa using e2
     rw [e1',e2',Bool.true_and,Bool.true_and]
     clear e1' e2'
     have h1w:=IntWalk.i64_in (base+C) (by omega)
     have h2w:=IntWalk.i64_in (loc+D) (by omega)
     go_enter Tryz.func238,Tryz.ntmps238
     go_wp2_with fail
     refine (thread_any n wr false _ (by rcases Int.lt_or_le wr 0 with e | e;exact .inr ⟨by omega,rfl⟩;exact .inl ⟨e,hw.2⟩)).mono ?_
     rintro e w' ⟨rfl,rfl⟩;go_wp2_with fail
     refine (thread_none n _).mono ?_
     rintro e w' ⟨rfl,rfl⟩;go_wp2_with fail
     have k1:=b1.alloc (.cells #[V Z 0,V Z 1099511627776,V Z 1,V Z 255,V Z 1,V Z 1099511627776,V Z 1048576,V Z 255] 3)
     have k2:=Blk.new (w.alloc (.cells #[V Z 1,V Z base,V Z loc,V Z n,V Z wr,V Z (-1),V Z top] 67)) (.cells #[V Z 0,V Z 1099511627776,V Z 1,V Z 255,V Z 1,V Z 1099511627776,V Z 1048576,V Z 255] 3)
     have hXW:=hX.alloc (.cells #[V Z 0,V Z 1099511627776,V Z 1,V Z 255,V Z 1,V Z 1099511627776,V Z 1048576,V Z 255] 3)
     simp only [World.size_alloc] at k2
     clear b1 c_b1 hX
     generalize World.alloc (World.alloc _ _) _=W at *
     have hX:=(Ext.refl W).drew
     have hS:∀ w',Ext W w'->(∀ i,w'.cell? ⟨w.heap.size,i,none⟩=(#[V Z 1,V Z base,V Z loc,V Z n,V Z wr,V Z (-1),V Z top]:Array Value)[i]?)/\(∀ i,w'.cell? ⟨w.heap.size+1,i,none⟩=(#[V Z 0,V Z 1099511627776,V Z 1,V Z 255,V Z 1,V Z 1099511627776,V Z 1048576,V Z 255]:Array Value)[i]?):=fun w' hx=>⟨(k1.ext hx).cells,(k2.ext hx).cells⟩
     have d8:decide (top<=1099511627776)=true:=by rw [decide_eq_true_eq];omega
     by_cases hc:base+C<=32768
     · have d9:decide (base+C<=32768)=true:=by simpa using hc
       go_region_held2 (fun w'=>(∀ i,w'.cell? ⟨w.heap.size,i,none⟩=(#[V Z 1,V Z base,V Z loc,V Z n,V Z wr,V Z (-1),V Z top]:Array Value)[i]?)/\(∀ i,w'.cell? ⟨w.heap.size+1,i,none⟩=(#[V Z 0,V Z 1099511627776,V Z 1,V Z 255,V Z 1,V Z 1099511627776,V Z 1048576,V Z 255]:Array Value)[i]?)) (exact hS _ hX)
       (first
          | (go_at_call 239
             refine (hC _).mono ?_
             rintro e w2 ⟨rfl,hx⟩
             replace hX:=hX.trans hx
             clear hx)
          | (go_at_call 240
             refine (hL _).mono ?_
             rintro e w2 ⟨rfl,hx⟩
             replace hX:=hX.trans hx
             clear hx))
       go_wp2_with fail
       go_ret
       exact⟨ret_bool (by rw [d9,Bool.true_and]),hXW.trans hX⟩
     · have d9:decide (base+C<=32768)=false:=by simpa using hc
       refine wp_region_held_drew (S:=fun w'=>(∀ i,w'.cell? ⟨w.heap.size,i,none⟩=(#[V Z 1,V Z base,V Z loc,V Z n,V Z wr,V Z (-1),V Z top]:Array Value)[i]?)/\(∀ i,w'.cell? ⟨w.heap.size+1,i,none⟩=(#[V Z 0,V Z 1099511627776,V Z 1,V Z 255,V Z 1,V Z 1099511627776,V Z 1048576,V Z 255]:Array Value)[i]?)) rfl (hS _ hX) (fun hHeld=>?_)
       refine tkb 0 ?_
       iterate 17
        refine tkn (v:=?_) rfl (by kernel_rfl) (fun _ _ _ h=>h) (by assumption) ?_ ?_
        rotate_left
        · (intro w hSw;(try dsimp only at hSw);go_simp;try with_reducible rfl)
        try simp only [put_pack]
       refine tke ?_
       refine wpAnyH_ready (rs:=[17]) (by kernel_rfl) (by simp) ?_
       refine AllReadyH.cons rfl (fun K hKK=>?_) (AllReadyH.nil)
       go_simp
       refine (hC _).mono ?_
       rintro e w2 ⟨rfl,hx⟩
       replace hX:=hX.trans hx;clear hx
       refine hKK.out _ _ (hS _ hX) (fun hHeld=>?_)
       clear hKK K
       try dsimp only
       refine tkb 18 ?_
       iterate 4
        refine tkn (v:=?_) rfl (by kernel_rfl) (fun _ _ _ h=>h) (by assumption) ?_ ?_
        rotate_left
        · (intro w hSw;(try dsimp only at hSw);go_simp;try with_reducible rfl)
        try simp only [put_pack]
       refine tke ?_
       refine sk 22 rfl (by kernel_rfl) (fun _ _ _ h=>h) (by assumption) ?_
       try simp only [put_pack]
       refine sk 23 rfl (by kernel_rfl) (fun _ _ _ h=>h) (by assumption) ?_
       try simp only [put_pack]
       refine sk 24 rfl (by kernel_rfl) (fun _ _ _ h=>h) (by assumption) ?_
       try simp only [put_pack]
       refine sk 25 rfl (by kernel_rfl) (fun _ _ _ h=>h) (by assumption) ?_
       try simp only [put_pack]
       refine sk 26 rfl (by kernel_rfl) (fun _ _ _ h=>h) (by assumption) ?_
       try simp only [put_pack]
       refine sk 27 rfl (by kernel_rfl) (fun _ _ _ h=>h) (by assumption) ?_
       try simp only [put_pack]
       refine tk 28 (v:=?_) rfl (by kernel_rfl) (fun _ _ _ h=>h) (by assumption) ?_ ?_
       rotate_left
       · (intro w hSw;(try dsimp only at hSw);go_simp;try with_reducible rfl)
       try simp only [put_pack]
       refine tk 29 (v:=?_) rfl (by kernel_rfl) (fun _ _ _ h=>h) (by assumption) ?_ ?_
       rotate_left
       · (intro w hSw;(try dsimp only at hSw);go_simp;try with_reducible rfl)
       try simp only [put_pack]
       refine wpAnyH_done (by kernel_rfl) ?_ _
       go_wp2_with fail
       go_ret
       exact⟨ret_bool (by simp),hXW.trans hX⟩
   · have d6:decide (32768<loc)=true:=by rw [decide_eq_true_eq];omega
     have e2':decide (loc<=32768)=false:=by simpa using e2
     rw [e2',Bool.and_false,Bool.false_and,Bool.false_and]
     go_enter Tryz.func238,Tryz.ntmps238
     go_wp2_with fail
     go_ret
     exact⟨rfl,hX⟩
 · have d5:decide (32768<base)=true:=by rw [decide_eq_true_eq];omega
   have e2':decide (base<=32768)=false:=by simpa using e1
   rw [e2',Bool.false_and,Bool.false_and,Bool.false_and]
   go_enter Tryz.func238,Tryz.ntmps238
   go_wp2_with fail
   go_ret
   exact⟨rfl,hX⟩
set_option maxRecDepth 100000 in
set_option maxHeartbeats 2000000 in
theorem fine6_r (base loc n wr top C D:Int)(w:World)(hb:0<=base)(hl:0<=loc)(hn:1<=n/\n<=8)(hw:0<=wr/\wr<n)(ht:1<=top/\top<=255)(hz:0<=C/\C<=6272/\0<=D/\D<=7072)
  (hC:∀ w,Calls Tryz.prog 239 #[.agg #[V Z 6,V Z base,V Z loc,V Z n,V Z wr,V Z (-1),V Z top]] w fun e w'=>e=.returned (V Z C)/\Ext w w')
  (hL:∀ w,Calls Tryz.prog 240 #[.agg #[V Z 6,V Z base,V Z loc,V Z n,V Z wr,V Z (-1),V Z top]] w fun e w'=>e=.returned (V Z D)/\Ext w w') :
  Calls Tryz.prog 238 #[.agg #[V Z 6,V Z base,V Z loc,V Z n,V Z wr,V Z (-1),V Z top]] w fun e w'=>e=.returned (.bool (decide (base<=32768)&&decide (loc<=32768)&&decide (base+C<=32768)&&decide (loc+D<=32768)))/\Ext w w':=by
 have d1:decide (base<0)=false:=by simpa using hb
 have d2:decide (loc<0)=false:=by simpa using hl
 have d3:decide (n<1)=false:=by simpa using hn.1
 have d4:decide (8<n)=false:=by simpa using hn.2
 have d7:decide (1<=top)=true:=by simpa using ht.1
 have hX:=Ext.refl w
 have b1:=Blk.new w (.cells #[V Z 6,V Z base,V Z loc,V Z n,V Z wr,V Z (-1),V Z top] 67)
 replace hX:=hX.alloc (.cells #[V Z 6,V Z base,V Z loc,V Z n,V Z wr,V Z (-1),V Z top] 67)
 have c_b1:=b1.cells
 by_cases e1:base<=32768
 · have d5:decide (32768<base)=false:=by simpa using e1
   by_cases e2:loc<=32768
   · have d6:decide (32768<loc)=false:=by simpa using e2
     have e1':decide (base<=32768)=true:=by simpa using e1
     have e2':decide (loc<=32768)=true:=by simpa using e2
     rw [e1',e2',Bool.true_and,Bool.true_and]
     clear e1' e2'
     have h1w:=IntWalk.i64_in (base+C) (by omega)
     have h2w:=IntWalk.i64_in (loc+D) (by omega)
     go_enter Tryz.func238,Tryz.ntmps238
     go_wp2_with fail
     refine (thread_any n wr true _ (by omega)).mono ?_
     rintro e w' ⟨rfl,rfl⟩;go_wp2_with fail
     refine (thread_none n _).mono ?_
     rintro e w' ⟨rfl,rfl⟩;go_wp2_with fail
     have k1:=b1.alloc (.cells #[V Z 0,V Z 1099511627776,V Z 1,V Z 255,V Z 1,V Z 1099511627776,V Z 1048576,V Z 255] 3)
     have k2:=Blk.new (w.alloc (.cells #[V Z 6,V Z base,V Z loc,V Z n,V Z wr,V Z (-1),V Z top] 67)) (.cells #[V Z 0,V Z 1099511627776,V Z 1,V Z 255,V Z 1,V Z 1099511627776,V Z 1048576,V Z 255] 3)
     have hXW:=hX.alloc (.cells #[V Z 0,V Z 1099511627776,V Z 1,V Z 255,V Z 1,V Z 1099511627776,V Z 1048576,V Z 255] 3)
     simp only [World.size_alloc] at k2
     clear b1 c_b1 hX
     generalize World.alloc (World.alloc _ _) _=W at *
     have hX:=(Ext.refl W).drew
     have hS:∀ w',Ext W w'->(∀ i,w'.cell? ⟨w.heap.size,i,none⟩=(#[V Z 6,V Z base,V Z loc,V Z n,V Z wr,V Z (-1),V Z top]:Array Value)[i]?)/\(∀ i,w'.cell? ⟨w.heap.size+1,i,none⟩=(#[V Z 0,V Z 1099511627776,V Z 1,V Z 255,V Z 1,V Z 1099511627776,V Z 1048576,V Z 255]:Array Value)[i]?):=fun w' hx=>⟨(k1.ext hx).cells,(k2.ext hx).cells⟩
     have d8:decide (top<=1048576)=true:=by rw [decide_eq_true_eq];omega
     by_cases hc:base+C<=32768
     · have d9:decide (base+C<=32768)=true:=by simpa using hc
       go_region_held2 (fun w'=>(∀ i,w'.cell? ⟨w.heap.size,i,none⟩=(#[V Z 6,V Z base,V Z loc,V Z n,V Z wr,V Z (-1),V Z top]:Array Value)[i]?)/\(∀ i,w'.cell? ⟨w.heap.size+1,i,none⟩=(#[V Z 0,V Z 1099511627776,V Z 1,V Z 255,V Z 1,V Z 1099511627776,V Z 1048576,V Z 255]:Array Value)[i]?)) (exact hS _ hX)
       (first
          | (go_at_call 239
             refine (hC _).mono ?_
             rintro e w2 ⟨rfl,hx⟩
             replace hX:=hX.trans hx
             clear hx)
          | (go_at_call 240
             refine (hL _).mono ?_
             rintro e w2 ⟨rfl,hx⟩
             replace hX:=hX.trans hx
             clear hx))
       go_wp2_with fail
       go_ret
       exact⟨ret_bool (by rw [d9,Bool.true_and]),hXW.trans hX⟩
     · have d9:decide (base+C<=32768)=false:=by simpa using hc
       refine wp_region_held_drew (S:=fun w'=>(∀ i,w'.cell? ⟨w.heap.size,i,none⟩=(#[V Z 6,V Z base,V Z loc,V Z n,V Z wr,V Z (-1),V Z top]:Array Value)[i]?)/\(∀ i,w'.cell? ⟨w.heap.size+1,i,none⟩=(#[V Z 0,V Z 1099511627776,V Z 1,V Z 255,V Z 1,V Z 1099511627776,V Z 1048576,V Z 255]:Array Value)[i]?)) rfl (hS _ hX) (fun hHeld=>?_)
       refine tkb 0 ?_
       iterate 17
        refine tkn (v:=?_) rfl (by kernel_rfl) (fun _ _ _ h=>h) (by assumption) ?_ ?_
        rotate_left
        · (intro w hSw;(try dsimp only at hSw);go_simp;try with_reducible rfl)
        try simp only [put_pack]
       refine tke ?_
       refine wpAnyH_ready (rs:=[17]) (by kernel_rfl) (by simp) ?_
       refine AllReadyH.cons rfl (fun K hKK=>?_) (AllReadyH.nil)
       go_simp
       refine (hC _).mono ?_
       rintro e w2 ⟨rfl,hx⟩
       replace hX:=hX.trans hx;clear hx
       refine hKK.out _ _ (hS _ hX) (fun hHeld=>?_)
       clear hKK K
       try dsimp only
       refine tkb 18 ?_
       iterate 4
        refine tkn (v:=?_) rfl (by kernel_rfl) (fun _ _ _ h=>h) (by assumption) ?_ ?_
        rotate_left
        · (intro w hSw;(try dsimp only at hSw);go_simp;try with_reducible rfl)
        try simp only [put_pack]
       refine tke ?_
       refine sk 22 rfl (by kernel_rfl) (fun _ _ _ h=>h) (by assumption) ?_
       try simp only [put_pack]
       refine sk 23 rfl (by kernel_rfl) (fun _ _ _ h=>h) (by assumption) ?_
       try simp only [put_pack]
       refine sk 24 rfl (by kernel_rfl) (fun _ _ _ h=>h) (by assumption) ?_
       try simp only [put_pack]
       refine sk 25 rfl (by kernel_rfl) (fun _ _ _ h=>h) (by assumption) ?_
       try simp only [put_pack]
       refine sk 26 rfl (by kernel_rfl) (fun _ _ _ h=>h) (by assumption) ?_
       try simp only [put_pack]
       refine sk 27 rfl (by kernel_rfl) (fun _ _ _ h=>h) (by assumption) ?_
       try simp only [put_pack]
       refine tk 28 (v:=?_) rfl (by kernel_rfl) (fun _ _ _ h=>h) (by assumption) ?_ ?_
       rotate_left
       · (intro w hSw;(try dsimp only at hSw);go_simp;try with_reducible rfl)
       try simp only [put_pack]
       refine tk 29 (v:=?_) rfl (by kernel_rfl) (fun _ _ _ h=>h) (by assumption) ?_ ?_
       rotate_left
       · (intro w hSw;(try dsimp only at hSw);go_simp;try with_reducible rfl)
       try simp only [put_pack]
       refine wpAnyH_done (by kernel_rfl) ?_ _
       go_wp2_with fail
       go_ret
       exact⟨ret_bool (by simp),hXW.trans hX⟩
   · have d6:decide (32768<loc)=true:=by rw [decide_eq_true_eq];omega
     have e2':decide (loc<=32768)=false:=by simpa using e2
     rw [e2',Bool.and_false,Bool.false_and,Bool.false_and]
     go_enter Tryz.func238,Tryz.ntmps238
     go_wp2_with fail
     go_ret
     exact⟨rfl,hX⟩
 · have d5:decide (32768<base)=true:=by rw [decide_eq_true_eq];omega
   have e2':decide (base<=32768)=false:=by simpa using e1
   rw [e2',Bool.false_and,Bool.false_and,Bool.false_and]
   go_enter Tryz.func238,Tryz.ntmps238
   go_wp2_with fail
   go_ret
   exact⟨rfl,hX⟩
set_option maxRecDepth 100000 in
set_option maxHeartbeats 2000000 in
theorem fine7_r (base loc n wr top C D:Int)(w:World)(hb:0<=base)(hl:0<=loc)(hn:1<=n/\n<=8)(hw:-1<=wr/\wr<n)(ht:1<=top/\top<=255)(hz:0<=C/\C<=6272/\0<=D/\D<=7072)
  (hC:∀ w,Calls Tryz.prog 239 #[.agg #[V Z 7,V Z base,V Z loc,V Z n,V Z wr,V Z (-1),V Z top]] w fun e w'=>e=.returned (V Z C)/\Ext w w')
  (hL:∀ w,Calls Tryz.prog 240 #[.agg #[V Z 7,V Z base,V Z loc,V Z n,V Z wr,V Z (-1),V Z top]] w fun e w'=>e=.returned (V Z D)/\Ext w w') :
  Calls Tryz.prog 238 #[.agg #[V Z 7,V Z base,V Z loc,V Z n,V Z wr,V Z (-1),V Z top]] w fun e w'=>e=.returned (.bool (decide (base<=32768)&&decide (loc<=32768)&&decide (base+C<=32768)&&decide (loc+D<=32768)))/\Ext w w':=by
 have d1:decide (base<0)=false:=by simpa using hb
 have d2:decide (loc<0)=false:=by simpa using hl
 have d3:decide (n<1)=false:=by simpa using hn.1
 have d4:decide (8<n)=false:=by simpa using hn.2
 have d7:decide (1<=top)=true:=by simpa using ht.1
 have hX:=Ext.refl w
 have b1:=Blk.new w (.cells #[V Z 7,V Z base,V Z loc,V Z n,V Z wr,V Z (-1),V Z top] 67)
 replace hX:=hX.alloc (.cells #[V Z 7,V Z base,V Z loc,V Z n,V Z wr,V Z (-1),V Z top] 67)
 have c_b1:=b1.cells
 by_cases e1:base<=32768
 · have d5:decide (32768<base)=false:=by simpa using e1
   by_cases e2:loc<=32768
   · have d6:decide (32768<loc)=false:=by simpa using e2
     have e1':decide (base<=32768)=true:=by simpa using e1
     have e2':decide (loc<=32768)=true:=by simpa using e2
     rw [e1',e2',Bool.true_and,Bool.true_and]
     clear e1' e2'
     have h1w:=IntWalk.i64_in (base+C) (by omega)
     have h2w:=IntWalk.i64_in (loc+D) (by omega)
     go_enter Tryz.func238,Tryz.ntmps238
     go_wp2_with fail
     refine (thread_any n wr false _ (by rcases Int.lt_or_le wr 0 with e | e;exact .inr ⟨by omega,rfl⟩;exact .inl ⟨e,hw.2⟩)).mono ?_
     rintro e w' ⟨rfl,rfl⟩;go_wp2_with fail
     refine (thread_none n _).mono ?_
     rintro e w' ⟨rfl,rfl⟩;go_wp2_with fail
     have k1:=b1.alloc (.cells #[V Z 0,V Z 1099511627776,V Z 1,V Z 255,V Z 1,V Z 1099511627776,V Z 1048576,V Z 255] 3)
     have k2:=Blk.new (w.alloc (.cells #[V Z 7,V Z base,V Z loc,V Z n,V Z wr,V Z (-1),V Z top] 67)) (.cells #[V Z 0,V Z 1099511627776,V Z 1,V Z 255,V Z 1,V Z 1099511627776,V Z 1048576,V Z 255] 3)
     have hXW:=hX.alloc (.cells #[V Z 0,V Z 1099511627776,V Z 1,V Z 255,V Z 1,V Z 1099511627776,V Z 1048576,V Z 255] 3)
     simp only [World.size_alloc] at k2
     clear b1 c_b1 hX
     generalize World.alloc (World.alloc _ _) _=W at *
     have hX:=(Ext.refl W).drew
     have hS:∀ w',Ext W w'->(∀ i,w'.cell? ⟨w.heap.size,i,none⟩=(#[V Z 7,V Z base,V Z loc,V Z n,V Z wr,V Z (-1),V Z top]:Array Value)[i]?)/\(∀ i,w'.cell? ⟨w.heap.size+1,i,none⟩=(#[V Z 0,V Z 1099511627776,V Z 1,V Z 255,V Z 1,V Z 1099511627776,V Z 1048576,V Z 255]:Array Value)[i]?):=fun w' hx=>⟨(k1.ext hx).cells,(k2.ext hx).cells⟩
     have d8:decide (top<=255)=true:=by rw [decide_eq_true_eq];omega
     by_cases hc:base+C<=32768
     · have d9:decide (base+C<=32768)=true:=by simpa using hc
       go_region_held2 (fun w'=>(∀ i,w'.cell? ⟨w.heap.size,i,none⟩=(#[V Z 7,V Z base,V Z loc,V Z n,V Z wr,V Z (-1),V Z top]:Array Value)[i]?)/\(∀ i,w'.cell? ⟨w.heap.size+1,i,none⟩=(#[V Z 0,V Z 1099511627776,V Z 1,V Z 255,V Z 1,V Z 1099511627776,V Z 1048576,V Z 255]:Array Value)[i]?)) (exact hS _ hX)
       (first
          | (go_at_call 239
             refine (hC _).mono ?_
             rintro e w2 ⟨rfl,hx⟩
             replace hX:=hX.trans hx
             clear hx)
          | (go_at_call 240
             refine (hL _).mono ?_
             rintro e w2 ⟨rfl,hx⟩
             replace hX:=hX.trans hx
             clear hx))
       go_wp2_with fail
       go_ret
       exact⟨ret_bool (by rw [d9,Bool.true_and]),hXW.trans hX⟩
     · have d9:decide (base+C<=32768)=false:=by simpa using hc
       refine wp_region_held_drew (S:=fun w'=>(∀ i,w'.cell? ⟨w.heap.size,i,none⟩=(#[V Z 7,V Z base,V Z loc,V Z n,V Z wr,V Z (-1),V Z top]:Array Value)[i]?)/\(∀ i,w'.cell? ⟨w.heap.size+1,i,none⟩=(#[V Z 0,V Z 1099511627776,V Z 1,V Z 255,V Z 1,V Z 1099511627776,V Z 1048576,V Z 255]:Array Value)[i]?)) rfl (hS _ hX) (fun hHeld=>?_)
       refine tkb 0 ?_
       iterate 17
        refine tkn (v:=?_) rfl (by kernel_rfl) (fun _ _ _ h=>h) (by assumption) ?_ ?_
        rotate_left
        · (intro w hSw;(try dsimp only at hSw);go_simp;try with_reducible rfl)
        try simp only [put_pack]
       refine tke ?_
       refine wpAnyH_ready (rs:=[17]) (by kernel_rfl) (by simp) ?_
       refine AllReadyH.cons rfl (fun K hKK=>?_) (AllReadyH.nil)
       go_simp
       refine (hC _).mono ?_
       rintro e w2 ⟨rfl,hx⟩
       replace hX:=hX.trans hx;clear hx
       refine hKK.out _ _ (hS _ hX) (fun hHeld=>?_)
       clear hKK K
       try dsimp only
       refine tkb 18 ?_
       iterate 4
        refine tkn (v:=?_) rfl (by kernel_rfl) (fun _ _ _ h=>h) (by assumption) ?_ ?_
        rotate_left
        · (intro w hSw;(try dsimp only at hSw);go_simp;try with_reducible rfl)
        try simp only [put_pack]
       refine tke ?_
       refine sk 22 rfl (by kernel_rfl) (fun _ _ _ h=>h) (by assumption) ?_
       try simp only [put_pack]
       refine sk 23 rfl (by kernel_rfl) (fun _ _ _ h=>h) (by assumption) ?_
       try simp only [put_pack]
       refine sk 24 rfl (by kernel_rfl) (fun _ _ _ h=>h) (by assumption) ?_
       try simp only [put_pack]
       refine sk 25 rfl (by kernel_rfl) (fun _ _ _ h=>h) (by assumption) ?_
       try simp only [put_pack]
       refine sk 26 rfl (by kernel_rfl) (fun _ _ _ h=>h) (by assumption) ?_
       try simp only [put_pack]
       refine sk 27 rfl (by kernel_rfl) (fun _ _ _ h=>h) (by assumption) ?_
       try simp only [put_pack]
       refine tk 28 (v:=?_) rfl (by kernel_rfl) (fun _ _ _ h=>h) (by assumption) ?_ ?_
       rotate_left
       · (intro w hSw;(try dsimp only at hSw);go_simp;try with_reducible rfl)
       try simp only [put_pack]
       refine tk 29 (v:=?_) rfl (by kernel_rfl) (fun _ _ _ h=>h) (by assumption) ?_ ?_
       rotate_left
       · (intro w hSw;(try dsimp only at hSw);go_simp;try with_reducible rfl)
       try simp only [put_pack]
       refine wpAnyH_done (by kernel_rfl) ?_ _
       go_wp2_with fail
       go_ret
       exact⟨ret_bool (by simp),hXW.trans hX⟩
   · have d6:decide (32768<loc)=true:=by rw [decide_eq_true_eq];omega
     have e2':decide (loc<=32768)=false:=by simpa using e2
     rw [e2',Bool.and_false,Bool.false_and,Bool.false_and]
     go_enter Tryz.func238,Tryz.ntmps238
     go_wp2_with fail
     go_ret
     exact⟨rfl,hX⟩
 · have d5:decide (32768<base)=true:=by rw [decide_eq_true_eq];omega
   have e2':decide (base<=32768)=false:=by simpa using e1
   rw [e2',Bool.false_and,Bool.false_and,Bool.false_and]
   go_enter Tryz.func238,Tryz.ntmps238
   go_wp2_with fail
   go_ret
   exact⟨rfl,hX⟩
theorem fine_r (r:Reg)(w:World)(h:Drawn r):Calls Tryz.prog 238 #[encR r] w fun e w'=>e=.returned (.bool (fineM r))/\Ext w w':=by
 obtain⟨hk,hb,hl,hn,hw,hw6,hrd,ht⟩:=h
 have hC:=fun w=>cells_r r w hk hn
 have hL:=fun w=>locals_r r w hk hn
 have hz:=cells_nat r hn
 obtain⟨kind,base,loc,n,wr,rd,top⟩:=r
 simp only at hk hb hl hn hw hw6 hrd ht
 subst hrd
 unfold fineM
 rcases hk with rfl | rfl | rfl
 · exact fine1_r base loc n wr top _ _ w hb hl hn hw ht hz hC hL
 · exact fine6_r base loc n wr top _ _ w hb hl hn ⟨hw6 rfl,hw.2⟩ ht hz hC hL
 · exact fine7_r base loc n wr top _ _ w hb hl hn hw ht hz hC hL
@[go_sem] theorem build_reg (a b c d e f g:Int) (w:World):(Instr.build 67 #[(0,V Z a),(1,V Z b),(2,V Z c),(3,V Z d),(4,V Z e),(5,V Z f),(6,V Z g)]).run Tryz.prog w=.ok (.agg #[V Z a,V Z b,V Z c,V Z d,V Z e,V Z f,V Z g]) w:=run_build w 67 _ _ (by kernel_rfl)
def LayPost (B:Nat) (w:World) (o:Option (List Reg)) (e:Ending) (w':World):Prop :=
 Ext w w'/\match o with
  | some rs=>∃ v,e=.returned (.tuple #[v,V Z 0])/\w'.ownsRow B 67 7 v rs.length (rs.flatMap regVals)
  | none=>∃ x:Int,x≠0/\e=.returned (.tuple #[.slice none 0 0,V Z x])
theorem layFrom_cons (n mode:Int)(q:Want)(l:List Want)(b c:Int):layFrom n mode (q :: l) b c=if fineM (regOf n mode b c q) then (layFrom n mode l (b+cellsM (regOf n mode b c q)) (c+localsM (regOf n mode b c q))).map (regOf n mode b c q :: ·) else none:=rfl
theorem argsM_false {l:List Want}{n mode b c:Int}(h:¬ (1<=mode/\mode<=2/\1<=n/\n<=8/\0<=b/\0<=c)):layM l n mode b c=none:=by
 unfold layM argsM
 rw [show decide (1<=mode/\mode<=2/\1<=n/\n<=8/\0<=b/\0<=c)=false from by simpa using h]
 rfl
theorem argsM_bad {l:List Want}{n mode b c:Int}{i:Nat}{q:Want}(hq:l[i]?=some q)(h:¬ (-1<=q.wr/\q.wr<n)):layM l n mode b c=none:=by
 unfold layM argsM
 have:(l.all fun q=>decide (-1<=q.wr/\q.wr<n))=false:=by
  rw [List.all_eq_false]
  exact⟨q,List.mem_of_getElem? hq,by simpa using h⟩
 rw [this,Bool.and_false]
 rfl
theorem argsM_good {l:List Want}{n mode b c:Int}(h:1<=mode/\mode<=2/\1<=n/\n<=8/\0<=b/\0<=c)(hq:∀ (k:Nat) q,l[k]?=some q->-1<=q.wr/\q.wr<n):layM l n mode b c=layFrom n mode l b c:=by
 unfold layM argsM
 rw [show decide (1<=mode/\mode<=2/\1<=n/\n<=8/\0<=b/\0<=c)=true from by simpa using h]
 have:(l.all fun q=>decide (-1<=q.wr/\q.wr<n))=true:=by
  rw [List.all_eq_true]
  intro q hm
  obtain⟨k,hk⟩:=List.getElem?_of_mem hm
  simpa using hq k q hk
 rw [this]
 rfl
set_option maxRecDepth 100000 in
set_option maxHeartbeats 2000000 in
theorem lay_r (va:Value)(l:List Want)(n mode base loc:Int)(w:World)(h:WantsAt w va l)(hlen:l.length<=1000) :
  Calls Tryz.prog 176 #[va,V Z n,V Z mode,V Z base,V Z loc] w (LayPost w.heap.size w (layM l n mode base loc)):=by
 obtain⟨A,c,rfl,q1,q2,hv⟩:=h
 by_cases h0:1<=mode/\mode<=2/\1<=n/\n<=8/\0<=base/\0<=loc
 · have hmd:mode=1∨mode=2:=by omega
   rcases hmd with rfl | rfl
   · have hgood:=Hd (fun hq=>argsM_good (l:=l) h0 hq)
     have hbad:=Hd (fun (i:Nat) q hq hx=>argsM_bad (l:=l) (n:=n) (mode:=1) (b:=base) (c:=loc) (i:=i) (q:=q) hq hx)
     obtain⟨-,-,n1,n2,b1,l1⟩:=h0
     go_enter Tryz.func176,Tryz.ntmps176
     have d3:decide (n<1)=false:=by rw [decide_eq_false_iff_not];omega
     have d4:decide (8<n)=false:=by rw [decide_eq_false_iff_not];omega
     have d5:decide (base<0)=false:=by rw [decide_eq_false_iff_not];omega
     have d6:decide (loc<0)=false:=by rw [decide_eq_false_iff_not];omega
     go_wp2_with fail
     go_loopw [12] (fun i wr=>∃ j:Nat,i=V Z j/\j<=l.length/\Hid (∀ (k:Nat) q,k<j->l[k]?=some q->-1<=q.wr/\q.wr<n)/\w=wr) (fun i _=>l.length-(intOf i).toNat)
     case atStart=>exact⟨0,rfl,by omega,fun k q hk=>by omega,rfl⟩
     case round =>
      obtain⟨j,rfl,hj,hs,rfl⟩:=hrel
      by_cases hl:j<l.length
      · obtain⟨q,hq⟩:∃ q,l[j]?=some q:=⟨_,List.getElem?_eq_getElem hl⟩
        obtain⟨b,rfl,hb,e1,e2⟩:=want_at hv hq
        by_cases f1:q.wr < -1
        · have d7:decide (q.wr < -1)=true:=by simpa using f1
          have hf:=Hd (hbad.out j q hq (by omega))
          clear hq hgood hbad hs;go_wp2_with fail
          rw [hf.out]
          refine bodyPost_ret (v:=.tuple #[.slice none 0 0,V Z 1]) (by simp [results,Tryz.results176,go_sem]) rfl ?_
          exact⟨Ext.refl _,1,by decide,rfl⟩
        · have d7:decide (q.wr < -1)=false:=by rw [decide_eq_false_iff_not];omega
          by_cases f2:n<=q.wr
          · have d8:decide (n<=q.wr)=true:=by simpa using f2
            have hf:=Hd (hbad.out j q hq (by omega))
            clear hq hgood hbad hs;go_wp2_with fail
            rw [hf.out]
            refine bodyPost_ret (v:=.tuple #[.slice none 0 0,V Z 1]) (by simp [results,Tryz.results176,go_sem]) rfl ?_
            exact⟨Ext.refl _,1,by decide,rfl⟩
          · have d8:decide (n<=q.wr)=false:=by rw [decide_eq_false_iff_not];omega
            have hs2:Hid (∀ (k:Nat) q,k<j+1->l[k]?=some q->-1<=q.wr/\q.wr<n):=Hd fun k q' hk hq'=>by
             by_cases e:k=j
             · subst e
               rw [hq] at hq'
               obtain rfl:q=q':=by simpa using hq'
               omega
             · exact hs.out k q' (by omega) hq'
            clear hq hs hgood hbad;go_wp2_with fail
            refine⟨⟨j+1,by go_num,by omega,hs2,by trivial⟩,?_⟩
            simp [intOf];omega
      · have hlay:=Hd (hgood.out fun k q hq=>hs.out k q (by have:=(List.getElem?_eq_some_iff.1 hq).1;omega) hq)
        have hwr:=Hd (fun (k:Nat) (q:Want) (hq:l[k]?=some q)=>hs.out k q (by have:=(List.getElem?_eq_some_iff.1 hq).1;omega) hq)
        clear hgood hbad hs;go_wp2_with fail
        go_loopw [3,4,13,14] (fun b' c' v i wr=>∃ (j:Nat) (bi ci:Int) (pre:List Reg),b'=V Z bi/\c'=V Z ci/\i=V Z j/\j<=l.length/\pre.length=j/\0<=bi/\0<=ci/\Hid (layFrom n 1 l base loc=(layFrom n 1 (l.drop j) bi ci).map (pre++·))/\wr.ownsRow w.heap.size 67 7 v j (pre.flatMap regVals)/\Ext w wr) (fun _ _ _ i _=>l.length-(intOf i).toNat)
        case atStart=>exact⟨0,base,loc,[],rfl,rfl,rfl,by omega,rfl,b1,l1,by unfold Hid;simp,World.ownsRow_nil _ _ _ _,Ext.refl _⟩
        case round =>
         obtain⟨j,bi,ci,pre,rfl,rfl,rfl,hj,hpl,hbi,hci,hM,hown,hE⟩:=hrel
         by_cases hl:j<l.length
         · obtain⟨q,hq⟩:∃ q,l[j]?=some q:=⟨_,List.getElem?_eq_getElem hl⟩
           obtain⟨b,rfl,hb,e1,e2⟩:=want_at (hv.ext hE) hq
           obtain⟨w1,w2⟩:=hwr.out j q hq
           have hdr:l.drop j=q :: l.drop (j+1):=by
            rw [List.drop_eq_getElem_cons hl]
            congr 1
            rw [List.getElem?_eq_getElem hl] at hq
            simpa using hq
           have hMh:=Hd hM
           have hownh:=Hd hown
           have hdrh:=Hd hdr
           clear hM hown hdr hq
           have hS:∀ w',Ext wr w'->w'.cell? ⟨b,j*2,none⟩=some (V Z q.wr)/\w'.cell? ⟨b,j*2+1,none⟩=some (V Z q.top):=fun w' hx=>⟨(hx.cell (p:=⟨b,j*2,none⟩) hb).trans e1,(hx.cell (p:=⟨b,j*2+1,none⟩) hb).trans e2⟩
           go_upto_region 12 with fail
           go_cut [15] (fun r wx=>r=.pointer (some ⟨wr.heap.size,0,none⟩)/\wx=(wr.alloc (.cells #[V Z 1,V Z bi,V Z ci,V Z n,V Z q.wr,V Z (-1),V Z (clamp q.top 255)] 67)).drew)
           case first =>
            go_region_held2 (fun w'=>w'.cell? ⟨b,j*2,none⟩=some (V Z q.wr)/\w'.cell? ⟨b,j*2+1,none⟩=some (V Z q.top)) (first | exact hS _ ((Ext.refl _).drew) | (refine hS _ ?_;repeat first | with_reducible exact Ext.refl _ | with_reducible refine Ext.drew ?_ | with_reducible refine Ext.setCell ?_ (Nat.le_refl _) _ | with_reducible refine Ext.alloc ?_ _))
             (first
               | (go_at_call 148
                  refine (clamp_r _ _ _).mono ?_
                  rintro e w' ⟨rfl,rfl⟩))
            all_goals
             go_wp2_with fail
             go_meet
             exact⟨rfl,rfl⟩
           case rest =>
            obtain⟨rfl,rfl⟩:=hcut
            have g1:=Blk.new wr (.cells #[V Z 1,V Z bi,V Z ci,V Z n,V Z q.wr,V Z (-1),V Z (clamp q.top 255)] 67)
            have x1:Ext wr (wr.alloc (.cells #[V Z 1,V Z bi,V Z ci,V Z n,V Z q.wr,V Z (-1),V Z (clamp q.top 255)] 67)).drew:=((Ext.refl wr).alloc _).drew
            replace g1:=g1.drew
            generalize World.drew _=W1 at *
            have c_1:=g1.cells
            have fz:=frozen_of_heap g1
            go_upto_if 82 with fail
            go_cut [15] (fun r wx=>r=.pointer (some ⟨wr.heap.size,0,none⟩)/\Blk wx wr.heap.size (.cells #[V Z 1,V Z bi,V Z ci,V Z n,V Z q.wr,V Z (-1),V Z (topM q.top)] 67)/\Ext wr wx)
            case first =>
             by_cases hz:clamp q.top 255=0
             · have hz2:(clamp q.top 255==0)=true:=by simpa using hz
               go_wp2_with fail
               go_meet
               refine⟨rfl,?_,x1.setCell (Nat.le_refl _) _⟩
               have:=heap_setCell (i:=6) g1 (V Z 1)
               rw [show topM q.top=1 from by unfold topM;rw [if_pos hz]]
               exact this
             · have hz2:(clamp q.top 255==0)=false:=by simpa using hz
               go_wp2_with fail
               go_meet
               refine⟨rfl,?_,x1⟩
               rw [show topM q.top=clamp q.top 255 from by unfold topM;rw [if_neg hz]]
               exact g1
            case rest =>
             obtain⟨rfl,g2,x2⟩:=hcut
             clear g1 x1 c_1 fz W1
             obtain⟨e3,e4⟩:=hS wc x2
             have c_2:=g2.cells
             have fz:=frozen_of_heap g2
             have hk:kindM 1 q.wr=1:=by unfold kindM;rw [if_neg (by omega)]
             have hrg:regOf n 1 bi ci q=⟨1,bi,ci,n,q.wr,-1,topM q.top⟩:=by unfold regOf;rw [hk]
             have htm:=topM_bd q.top
             have hdn:Drawn ⟨1,bi,ci,n,q.wr,-1,topM q.top⟩:=⟨by simp,hbi,hci,⟨n1,n2⟩,⟨w1,w2⟩,(fun h=>by cases h),rfl,htm⟩
             have hlf:=Hd (show layFrom n 1 (l.drop j) bi ci=if fineM ⟨1,bi,ci,n,q.wr,-1,topM q.top⟩ then (layFrom n 1 (l.drop (j+1)) (bi+cellsM ⟨1,bi,ci,n,q.wr,-1,topM q.top⟩) (ci+localsM ⟨1,bi,ci,n,q.wr,-1,topM q.top⟩)).map (⟨1,bi,ci,n,q.wr,-1,topM q.top⟩ :: ·) else none from by rw [hdrh.out,layFrom_cons,hrg])
             have hFF:=fun W=>fine_r ⟨1,bi,ci,n,q.wr,-1,topM q.top⟩ W hdn
             have hCC:=fun W=>cells_r ⟨1,bi,ci,n,q.wr,-1,topM q.top⟩ W (by simp) ⟨n1,n2⟩
             have hLL:=fun W=>locals_r ⟨1,bi,ci,n,q.wr,-1,topM q.top⟩ W (by simp) ⟨n1,n2⟩
             have hcn:=cells_nat ⟨1,bi,ci,n,q.wr,-1,topM q.top⟩ ⟨n1,n2⟩
             have hfb:fineM ⟨1,bi,ci,n,q.wr,-1,topM q.top⟩=true->bi<=32768/\ci<=32768:=by
              unfold fineM
              simp only [Bool.and_eq_true,decide_eq_true_eq]
              omega
             clear hdn hk hrg htm hdrh
             unfold encR at hFF hCC hLL
             generalize topM q.top=tp at *
             generalize cellsM _=C at *
             generalize localsM _=D at *
             generalize hfm:fineM _=F at *
             clear hfm;go_wp2_with fail
             have g3:=g2;have x3:=x2
             generalize wc=W at *
             clear g2 x2 c_2 fz e3 e4
             refine (hFF _).mono ?_
             rintro e w3 ⟨rfl,hx⟩
             clear hFF;replace g3:=g3.ext hx;replace x3:=x3.trans hx;clear hx;have c_3:=g3.cells
             cases F with
             | false =>
               have hres:=Hd (show layM l n 1 base loc=none from by rw [hlay.out,hMh.out,hlf.out];rfl)
               go_wp2_with fail
               rw [hres.out]
               exact bodyPost_ret (v:=.tuple #[.slice none 0 0,V Z 6]) (by simp [results,Tryz.results176,go_sem]) rfl ⟨hE.trans x3,6,by decide,rfl⟩
             | true =>
               obtain⟨hb1,hb2⟩:=hfb rfl
               have s1:=IntWalk.i64_in (bi+C) (by omega)
               have s2:=IntWalk.i64_in (ci+D) (by omega)
               have hown3:=row_ext hownh.out x3
               have hRn:Hid (u13.ownBlock≠some wr.heap.size):=Hd fun e=>by have:=(hownh.out.lt _ e).2;omega
               have hE3:=hE.trans x3
               have hM2:=Hd (show layFrom n 1 l base loc=(layFrom n 1 (l.drop (j+1)) (bi+C) (ci+D)).map ((pre++[⟨1,bi,ci,n,q.wr,-1,tp⟩])++·) from by
                rw [hMh.out,hlf.out]
                simp only [if_true,Option.map_map]
                congr 1
                funext x
                simp)
               clear hfb hlf hMh hownh hb1 hb2
               go_wp2_with (at_builtin;refine append_rec info_reg Tryz.underlying94 rfl (by decide) (by decide) rfl _ _ rfl _ j (pre.flatMap regVals) [V Z 1,V Z bi,V Z ci,V Z n,V Z q.wr,V Z (-1),V Z tp] hE3 hown3 rfl rfl rfl (by simp [Value.oneCell']) (by omega) ?_)
               intro v' w4 ho4 hx4 hbk
               have g4:Blk w4 wr.heap.size _:=(hbk _ g3.lt hRn.out).trans g3
               have c_4:=g4.cells;clear hbk hown3 hE3 c_3 hRn g3 x3;go_wp2_with fail
               refine (hCC _).mono ?_
               rintro e w5 ⟨rfl,hx⟩
               replace g4:=g4.ext hx;replace ho4:=row_ext ho4 hx;replace hx4:=hx4.trans hx;clear c_4 hx hCC;have c_4:=g4.cells;go_wp2_with fail
               refine (hLL _).mono ?_
               rintro e w6 ⟨rfl,hx⟩
               replace ho4:=row_ext ho4 hx;replace hx4:=hx4.trans hx;clear c_4 g4 hx hLL
               have ho5:=Hd ho4
               clear ho4;go_wp2_with fail
               refine⟨⟨j+1,bi+C,ci+D,pre++[⟨1,bi,ci,n,q.wr,-1,tp⟩],rfl,rfl,by go_num,by omega,by simp [hpl],by omega,by omega,hM2,by rw [List.flatMap_append];exact ho5.out,hx4⟩,?_⟩
               simp [intOf];omega
         · have hf:layFrom n 1 l base loc=some pre:=by
            rw [hM.out,List.drop_eq_nil_of_le (by omega)]
            simp [layFrom]
           have hres:=Hd (hlay.out.trans hf)
           clear hM hf hlay hwr
           have hownh:=Hd hown
           clear hown;go_wp2_with fail
           rw [hres.out]
           refine bodyPost_ret (v:=.tuple #[u13,V Z 0]) (by simp [results,Tryz.results176,go_sem]) rfl ?_
           exact⟨hE,u13,rfl,by rw [hpl];exact hownh.out⟩
   · have hgood:=Hd (fun hq=>argsM_good (l:=l) h0 hq)
     have hbad:=Hd (fun (i:Nat) q hq hx=>argsM_bad (l:=l) (n:=n) (mode:=2) (b:=base) (c:=loc) (i:=i) (q:=q) hq hx)
     obtain⟨-,-,n1,n2,b1,l1⟩:=h0
     go_enter Tryz.func176,Tryz.ntmps176
     have d3:decide (n<1)=false:=by rw [decide_eq_false_iff_not];omega
     have d4:decide (8<n)=false:=by rw [decide_eq_false_iff_not];omega
     have d5:decide (base<0)=false:=by rw [decide_eq_false_iff_not];omega
     have d6:decide (loc<0)=false:=by rw [decide_eq_false_iff_not];omega
     go_wp2_with fail
     go_loopw [12] (fun i wr=>∃ j:Nat,i=V Z j/\j<=l.length/\Hid (∀ (k:Nat) q,k<j->l[k]?=some q->-1<=q.wr/\q.wr<n)/\w=wr) (fun i _=>l.length-(intOf i).toNat)
     case atStart=>exact⟨0,rfl,by omega,fun k q hk=>by omega,rfl⟩
     case round =>
      obtain⟨j,rfl,hj,hs,rfl⟩:=hrel
      by_cases hl:j<l.length
      · obtain⟨q,hq⟩:∃ q,l[j]?=some q:=⟨_,List.getElem?_eq_getElem hl⟩
        obtain⟨b,rfl,hb,e1,e2⟩:=want_at hv hq
        by_cases f1:q.wr < -1
        · have d7:decide (q.wr < -1)=true:=by simpa using f1
          have hf:=Hd (hbad.out j q hq (by omega))
          clear hq hgood hbad hs;go_wp2_with fail
          rw [hf.out]
          refine bodyPost_ret (v:=.tuple #[.slice none 0 0,V Z 1]) (by simp [results,Tryz.results176,go_sem]) rfl ?_
          exact⟨Ext.refl _,1,by decide,rfl⟩
        · have d7:decide (q.wr < -1)=false:=by rw [decide_eq_false_iff_not];omega
          by_cases f2:n<=q.wr
          · have d8:decide (n<=q.wr)=true:=by simpa using f2
            have hf:=Hd (hbad.out j q hq (by omega))
            clear hq hgood hbad hs;go_wp2_with fail
            rw [hf.out]
            refine bodyPost_ret (v:=.tuple #[.slice none 0 0,V Z 1]) (by simp [results,Tryz.results176,go_sem]) rfl ?_
            exact⟨Ext.refl _,1,by decide,rfl⟩
          · have d8:decide (n<=q.wr)=false:=by rw [decide_eq_false_iff_not];omega
            have hs2:Hid (∀ (k:Nat) q,k<j+1->l[k]?=some q->-1<=q.wr/\q.wr<n):=Hd fun k q' hk hq'=>by
             by_cases e:k=j
             · subst e
               rw [hq] at hq'
               obtain rfl:q=q':=by simpa using hq'
               omega
             · exact hs.out k q' (by omega) hq'
            clear hq hs hgood hbad;go_wp2_with fail
            refine⟨⟨j+1,by go_num,by omega,hs2,by trivial⟩,?_⟩
            simp [intOf];omega
      · have hlay:=Hd (hgood.out fun k q hq=>hs.out k q (by have:=(List.getElem?_eq_some_iff.1 hq).1;omega) hq)
        have hwr:=Hd (fun (k:Nat) (q:Want) (hq:l[k]?=some q)=>hs.out k q (by have:=(List.getElem?_eq_some_iff.1 hq).1;omega) hq)
        clear hgood hbad hs;go_wp2_with fail
        go_loopw [3,4,13,14] (fun b' c' v i wr=>∃ (j:Nat) (bi ci:Int) (pre:List Reg),b'=V Z bi/\c'=V Z ci/\i=V Z j/\j<=l.length/\pre.length=j/\0<=bi/\0<=ci/\Hid (layFrom n 2 l base loc=(layFrom n 2 (l.drop j) bi ci).map (pre++·))/\wr.ownsRow w.heap.size 67 7 v j (pre.flatMap regVals)/\Ext w wr) (fun _ _ _ i _=>l.length-(intOf i).toNat)
        case atStart=>exact⟨0,base,loc,[],rfl,rfl,rfl,by omega,rfl,b1,l1,by unfold Hid;simp,World.ownsRow_nil _ _ _ _,Ext.refl _⟩
        case round =>
         obtain⟨j,bi,ci,pre,rfl,rfl,rfl,hj,hpl,hbi,hci,hM,hown,hE⟩:=hrel
         by_cases hl:j<l.length
         · obtain⟨q,hq⟩:∃ q,l[j]?=some q:=⟨_,List.getElem?_eq_getElem hl⟩
           obtain⟨b,rfl,hb,e1,e2⟩:=want_at (hv.ext hE) hq
           obtain⟨w1,w2⟩:=hwr.out j q hq
           have hdr:l.drop j=q :: l.drop (j+1):=by
            rw [List.drop_eq_getElem_cons hl]
            congr 1
            rw [List.getElem?_eq_getElem hl] at hq
            simpa using hq
           have hMh:=Hd hM
           have hownh:=Hd hown
           have hdrh:=Hd hdr
           clear hM hown hdr hq
           have hS:∀ w',Ext wr w'->w'.cell? ⟨b,j*2,none⟩=some (V Z q.wr)/\w'.cell? ⟨b,j*2+1,none⟩=some (V Z q.top):=fun w' hx=>⟨(hx.cell (p:=⟨b,j*2,none⟩) hb).trans e1,(hx.cell (p:=⟨b,j*2+1,none⟩) hb).trans e2⟩
           go_upto_region 12 with fail
           go_cut [15] (fun r wx=>r=.pointer (some ⟨wr.heap.size,0,none⟩)/\wx=(wr.alloc (.cells #[V Z 1,V Z bi,V Z ci,V Z n,V Z q.wr,V Z (-1),V Z (clamp q.top 255)] 67)).drew)
           case first =>
            go_region_held2 (fun w'=>w'.cell? ⟨b,j*2,none⟩=some (V Z q.wr)/\w'.cell? ⟨b,j*2+1,none⟩=some (V Z q.top)) (first | exact hS _ ((Ext.refl _).drew) | (refine hS _ ?_;repeat first | with_reducible exact Ext.refl _ | with_reducible refine Ext.drew ?_ | with_reducible refine Ext.setCell ?_ (Nat.le_refl _) _ | with_reducible refine Ext.alloc ?_ _))
             (first
               | (go_at_call 148
                  refine (clamp_r _ _ _).mono ?_
                  rintro e w' ⟨rfl,rfl⟩))
            all_goals
             go_wp2_with fail
             go_meet
             exact⟨rfl,rfl⟩
           case rest =>
            obtain⟨rfl,rfl⟩:=hcut
            have g1:=Blk.new wr (.cells #[V Z 1,V Z bi,V Z ci,V Z n,V Z q.wr,V Z (-1),V Z (clamp q.top 255)] 67)
            have x1:Ext wr (wr.alloc (.cells #[V Z 1,V Z bi,V Z ci,V Z n,V Z q.wr,V Z (-1),V Z (clamp q.top 255)] 67)).drew:=((Ext.refl wr).alloc _).drew
            replace g1:=g1.drew
            generalize World.drew _=W1 at *
            have c_1:=g1.cells
            have fz:=frozen_of_heap g1
            go_upto_if 82 with fail
            go_cut [15] (fun r wx=>r=.pointer (some ⟨wr.heap.size,0,none⟩)/\Blk wx wr.heap.size (.cells #[V Z 1,V Z bi,V Z ci,V Z n,V Z q.wr,V Z (-1),V Z (topM q.top)] 67)/\Ext wr wx)
            case first =>
             by_cases hz:clamp q.top 255=0
             · have hz2:(clamp q.top 255==0)=true:=by simpa using hz
               go_wp2_with fail
               go_meet
               refine⟨rfl,?_,x1.setCell (Nat.le_refl _) _⟩
               have:=heap_setCell (i:=6) g1 (V Z 1)
               rw [show topM q.top=1 from by unfold topM;rw [if_pos hz]]
               exact this
             · have hz2:(clamp q.top 255==0)=false:=by simpa using hz
               go_wp2_with fail
               go_meet
               refine⟨rfl,?_,x1⟩
               rw [show topM q.top=clamp q.top 255 from by unfold topM;rw [if_neg hz]]
               exact g1
            case rest =>
             obtain⟨rfl,g2,x2⟩:=hcut
             clear g1 x1 c_1 fz W1
             obtain⟨e3,e4⟩:=hS wc x2
             have c_2:=g2.cells
             have fz:=frozen_of_heap g2
             by_cases hw0:0<=q.wr
             · have dw:decide (0<=q.wr)=true:=by simpa using hw0
               have dv:decide (q.wr<0)=false:=by rw [decide_eq_false_iff_not];omega
               have hk:kindM 2 q.wr=6:=by unfold kindM;rw [if_pos rfl,if_pos hw0]
               have hrg:regOf n 2 bi ci q=⟨6,bi,ci,n,q.wr,-1,topM q.top⟩:=by unfold regOf;rw [hk]
               have htm:=topM_bd q.top
               have hdn:Drawn ⟨6,bi,ci,n,q.wr,-1,topM q.top⟩:=⟨by simp,hbi,hci,⟨n1,n2⟩,⟨w1,w2⟩,fun _=>hw0,rfl,htm⟩
               have hlf:=Hd (show layFrom n 2 (l.drop j) bi ci=if fineM ⟨6,bi,ci,n,q.wr,-1,topM q.top⟩ then (layFrom n 2 (l.drop (j+1)) (bi+cellsM ⟨6,bi,ci,n,q.wr,-1,topM q.top⟩) (ci+localsM ⟨6,bi,ci,n,q.wr,-1,topM q.top⟩)).map (⟨6,bi,ci,n,q.wr,-1,topM q.top⟩ :: ·) else none from by rw [hdrh.out,layFrom_cons,hrg])
               have hFF:=fun W=>fine_r ⟨6,bi,ci,n,q.wr,-1,topM q.top⟩ W hdn
               have hCC:=fun W=>cells_r ⟨6,bi,ci,n,q.wr,-1,topM q.top⟩ W (by simp) ⟨n1,n2⟩
               have hLL:=fun W=>locals_r ⟨6,bi,ci,n,q.wr,-1,topM q.top⟩ W (by simp) ⟨n1,n2⟩
               have hcn:=cells_nat ⟨6,bi,ci,n,q.wr,-1,topM q.top⟩ ⟨n1,n2⟩
               have hfb:fineM ⟨6,bi,ci,n,q.wr,-1,topM q.top⟩=true->bi<=32768/\ci<=32768:=by
                unfold fineM
                simp only [Bool.and_eq_true,decide_eq_true_eq]
                omega
               clear hdn hk hrg htm hdrh
               unfold encR at hFF hCC hLL
               generalize topM q.top=tp at *
               generalize cellsM _=C at *
               generalize localsM _=D at *
               generalize hfm:fineM _=F at *
               clear hfm;go_wp2_with fail
               have g3:=heap_setCell (i:=0) g2 (V Z 6)
               have x3:=x2.setCell (p:=⟨wr.heap.size,0,none⟩) (Nat.le_refl _) (V Z 6)
               replace g3:Blk (wc.setCell ⟨wr.heap.size,0,none⟩ (V Z 6)) wr.heap.size (.cells #[V Z 6,V Z bi,V Z ci,V Z n,V Z q.wr,V Z (-1),V Z tp] 67):=g3
               generalize wc.setCell _ _=W at *
               clear g2 x2 c_2 fz e3 e4
               refine (hFF _).mono ?_
               rintro e w3 ⟨rfl,hx⟩
               clear hFF;replace g3:=g3.ext hx;replace x3:=x3.trans hx;clear hx;have c_3:=g3.cells
               cases F with
               | false =>
                 have hres:=Hd (show layM l n 2 base loc=none from by rw [hlay.out,hMh.out,hlf.out];rfl)
                 go_wp2_with fail
                 rw [hres.out]
                 exact bodyPost_ret (v:=.tuple #[.slice none 0 0,V Z 6]) (by simp [results,Tryz.results176,go_sem]) rfl ⟨hE.trans x3,6,by decide,rfl⟩
               | true =>
                 obtain⟨hb1,hb2⟩:=hfb rfl
                 have s1:=IntWalk.i64_in (bi+C) (by omega)
                 have s2:=IntWalk.i64_in (ci+D) (by omega)
                 have hown3:=row_ext hownh.out x3
                 have hRn:Hid (u13.ownBlock≠some wr.heap.size):=Hd fun e=>by have:=(hownh.out.lt _ e).2;omega
                 have hE3:=hE.trans x3
                 have hM2:=Hd (show layFrom n 2 l base loc=(layFrom n 2 (l.drop (j+1)) (bi+C) (ci+D)).map ((pre++[⟨6,bi,ci,n,q.wr,-1,tp⟩])++·) from by
                  rw [hMh.out,hlf.out]
                  simp only [if_true,Option.map_map]
                  congr 1
                  funext x
                  simp)
                 clear hfb hlf hMh hownh hb1 hb2
                 go_wp2_with (at_builtin;refine append_rec info_reg Tryz.underlying94 rfl (by decide) (by decide) rfl _ _ rfl _ j (pre.flatMap regVals) [V Z 6,V Z bi,V Z ci,V Z n,V Z q.wr,V Z (-1),V Z tp] hE3 hown3 rfl rfl rfl (by simp [Value.oneCell']) (by omega) ?_)
                 intro v' w4 ho4 hx4 hbk
                 have g4:Blk w4 wr.heap.size _:=(hbk _ g3.lt hRn.out).trans g3
                 have c_4:=g4.cells;clear hbk hown3 hE3 c_3 hRn g3 x3;go_wp2_with fail
                 refine (hCC _).mono ?_
                 rintro e w5 ⟨rfl,hx⟩
                 replace g4:=g4.ext hx;replace ho4:=row_ext ho4 hx;replace hx4:=hx4.trans hx;clear c_4 hx hCC;have c_4:=g4.cells;go_wp2_with fail
                 refine (hLL _).mono ?_
                 rintro e w6 ⟨rfl,hx⟩
                 replace ho4:=row_ext ho4 hx;replace hx4:=hx4.trans hx;clear c_4 g4 hx hLL
                 have ho5:=Hd ho4
                 clear ho4;go_wp2_with fail
                 refine⟨⟨j+1,bi+C,ci+D,pre++[⟨6,bi,ci,n,q.wr,-1,tp⟩],rfl,rfl,by go_num,by omega,by simp [hpl],by omega,by omega,hM2,by rw [List.flatMap_append];exact ho5.out,hx4⟩,?_⟩
                 simp [intOf];omega
             · have dw:decide (0<=q.wr)=false:=by simpa using hw0
               have dv:decide (q.wr<0)=true:=by rw [decide_eq_true_eq];omega
               have hk:kindM 2 q.wr=7:=by unfold kindM;rw [if_pos rfl,if_neg hw0]
               have hrg:regOf n 2 bi ci q=⟨7,bi,ci,n,q.wr,-1,topM q.top⟩:=by unfold regOf;rw [hk]
               have htm:=topM_bd q.top
               have hdn:Drawn ⟨7,bi,ci,n,q.wr,-1,topM q.top⟩:=⟨by simp,hbi,hci,⟨n1,n2⟩,⟨w1,w2⟩,(fun h=>by cases h),rfl,htm⟩
               have hlf:=Hd (show layFrom n 2 (l.drop j) bi ci=if fineM ⟨7,bi,ci,n,q.wr,-1,topM q.top⟩ then (layFrom n 2 (l.drop (j+1)) (bi+cellsM ⟨7,bi,ci,n,q.wr,-1,topM q.top⟩) (ci+localsM ⟨7,bi,ci,n,q.wr,-1,topM q.top⟩)).map (⟨7,bi,ci,n,q.wr,-1,topM q.top⟩ :: ·) else none from by rw [hdrh.out,layFrom_cons,hrg])
               have hFF:=fun W=>fine_r ⟨7,bi,ci,n,q.wr,-1,topM q.top⟩ W hdn
               have hCC:=fun W=>cells_r ⟨7,bi,ci,n,q.wr,-1,topM q.top⟩ W (by simp) ⟨n1,n2⟩
               have hLL:=fun W=>locals_r ⟨7,bi,ci,n,q.wr,-1,topM q.top⟩ W (by simp) ⟨n1,n2⟩
               have hcn:=cells_nat ⟨7,bi,ci,n,q.wr,-1,topM q.top⟩ ⟨n1,n2⟩
               have hfb:fineM ⟨7,bi,ci,n,q.wr,-1,topM q.top⟩=true->bi<=32768/\ci<=32768:=by
                unfold fineM
                simp only [Bool.and_eq_true,decide_eq_true_eq]
                omega
               clear hdn hk hrg htm hdrh
               unfold encR at hFF hCC hLL
               generalize topM q.top=tp at *
               generalize cellsM _=C at *
               generalize localsM _=D at *
               generalize hfm:fineM _=F at *
               clear hfm;go_wp2_with fail
               have g3:=heap_setCell (i:=0) g2 (V Z 7)
               have x3:=x2.setCell (p:=⟨wr.heap.size,0,none⟩) (Nat.le_refl _) (V Z 7)
               replace g3:Blk (wc.setCell ⟨wr.heap.size,0,none⟩ (V Z 7)) wr.heap.size (.cells #[V Z 7,V Z bi,V Z ci,V Z n,V Z q.wr,V Z (-1),V Z tp] 67):=g3
               generalize wc.setCell _ _=W at *
               clear g2 x2 c_2 fz e3 e4
               refine (hFF _).mono ?_
               rintro e w3 ⟨rfl,hx⟩
               clear hFF;replace g3:=g3.ext hx;replace x3:=x3.trans hx;clear hx;have c_3:=g3.cells
               cases F with
               | false =>
                 have hres:=Hd (show layM l n 2 base loc=none from by rw [hlay.out,hMh.out,hlf.out];rfl)
                 go_wp2_with fail
                 rw [hres.out]
                 exact bodyPost_ret (v:=.tuple #[.slice none 0 0,V Z 6]) (by simp [results,Tryz.results176,go_sem]) rfl ⟨hE.trans x3,6,by decide,rfl⟩
               | true =>
                 obtain⟨hb1,hb2⟩:=hfb rfl
                 have s1:=IntWalk.i64_in (bi+C) (by omega)
                 have s2:=IntWalk.i64_in (ci+D) (by omega)
                 have hown3:=row_ext hownh.out x3
                 have hRn:Hid (u13.ownBlock≠some wr.heap.size):=Hd fun e=>by have:=(hownh.out.lt _ e).2;omega
                 have hE3:=hE.trans x3
                 have hM2:=Hd (show layFrom n 2 l base loc=(layFrom n 2 (l.drop (j+1)) (bi+C) (ci+D)).map ((pre++[⟨7,bi,ci,n,q.wr,-1,tp⟩])++·) from by
                  rw [hMh.out,hlf.out]
                  simp only [if_true,Option.map_map]
                  congr 1
                  funext x
                  simp)
                 clear hfb hlf hMh hownh hb1 hb2
                 go_wp2_with (at_builtin;refine append_rec info_reg Tryz.underlying94 rfl (by decide) (by decide) rfl _ _ rfl _ j (pre.flatMap regVals) [V Z 7,V Z bi,V Z ci,V Z n,V Z q.wr,V Z (-1),V Z tp] hE3 hown3 rfl rfl rfl (by simp [Value.oneCell']) (by omega) ?_)
                 intro v' w4 ho4 hx4 hbk
                 have g4:Blk w4 wr.heap.size _:=(hbk _ g3.lt hRn.out).trans g3
                 have c_4:=g4.cells;clear hbk hown3 hE3 c_3 hRn g3 x3;go_wp2_with fail
                 refine (hCC _).mono ?_
                 rintro e w5 ⟨rfl,hx⟩
                 replace g4:=g4.ext hx;replace ho4:=row_ext ho4 hx;replace hx4:=hx4.trans hx;clear c_4 hx hCC;have c_4:=g4.cells;go_wp2_with fail
                 refine (hLL _).mono ?_
                 rintro e w6 ⟨rfl,hx⟩
                 replace ho4:=row_ext ho4 hx;replace hx4:=hx4.trans hx;clear c_4 g4 hx hLL
                 have ho5:=Hd ho4
                 clear ho4;go_wp2_with fail
                 refine⟨⟨j+1,bi+C,ci+D,pre++[⟨7,bi,ci,n,q.wr,-1,tp⟩],rfl,rfl,by go_num,by omega,by simp [hpl],by omega,by omega,hM2,by rw [List.flatMap_append];exact ho5.out,hx4⟩,?_⟩
                 simp [intOf];omega
         · have hf:layFrom n 2 l base loc=some pre:=by
            rw [hM.out,List.drop_eq_nil_of_le (by omega)]
            simp [layFrom]
           have hres:=Hd (hlay.out.trans hf)
           clear hM hf hlay hwr
           have hownh:=Hd hown
           clear hown;go_wp2_with fail
           rw [hres.out]
           refine bodyPost_ret (v:=.tuple #[u13,V Z 0]) (by simp [results,Tryz.results176,go_sem]) rfl ?_
           exact⟨hE,u13,rfl,by rw [hpl];exact hownh.out⟩
 · rw [argsM_false h0]
   go_enter Tryz.func176,Tryz.ntmps176
   have hfin:LayPost w.heap.size w none (.returned (.tuple #[.slice none 0 0,V Z 1])) w:=⟨Ext.refl _,1,by decide,rfl⟩
   by_cases m1:mode<1
   · have d1:decide (mode<1)=true:=by simpa using m1
     go_wp2_with fail
     exact bodyPost_ret (v:=.tuple #[.slice none 0 0,V Z 1]) (by simp [results,Tryz.results176,go_sem]) rfl hfin
   · have d1:decide (mode<1)=false:=by simpa using m1
     by_cases m2:2<mode
     · have d2:decide (2<mode)=true:=by simpa using m2
       go_wp2_with fail
       exact bodyPost_ret (v:=.tuple #[.slice none 0 0,V Z 1]) (by simp [results,Tryz.results176,go_sem]) rfl hfin
     · have d2:decide (2<mode)=false:=by simpa using m2
       by_cases m3:n<1
       · have d3:decide (n<1)=true:=by simpa using m3
         go_wp2_with fail
         exact bodyPost_ret (v:=.tuple #[.slice none 0 0,V Z 1]) (by simp [results,Tryz.results176,go_sem]) rfl hfin
       · have d3:decide (n<1)=false:=by simpa using m3
         by_cases m4:8<n
         · have d4:decide (8<n)=true:=by simpa using m4
           go_wp2_with fail
           exact bodyPost_ret (v:=.tuple #[.slice none 0 0,V Z 1]) (by simp [results,Tryz.results176,go_sem]) rfl hfin
         · have d4:decide (8<n)=false:=by simpa using m4
           by_cases m5:base<0
           · have d5:decide (base<0)=true:=by simpa using m5
             go_wp2_with fail
             exact bodyPost_ret (v:=.tuple #[.slice none 0 0,V Z 1]) (by simp [results,Tryz.results176,go_sem]) rfl hfin
           · have d5:decide (base<0)=false:=by simpa using m5
             have d6:decide (loc<0)=true:=by rw [decide_eq_true_eq];omega
             go_wp2_with fail
             exact bodyPost_ret (v:=.tuple #[.slice none 0 0,V Z 1]) (by simp [results,Tryz.results176,go_sem]) rfl hfin
end Go.Proofs.YtbaajjkopdjbgaaGreat
namespace Kv
def nM (n:Int):Int:=min (max n 1) 8
theorem nM_id {n:Int}(h:1<=n)(h':n<=8):nM n=n:=by unfold nM;omega
theorem nM_clamp (n:Int):nM n=if clamp n 8<1 then 1 else clamp n 8:=by
 unfold nM clamp within
 split <;> omega
end Kv
namespace Go.Proofs.YtbaajjkopdjbgaaGreat
open Go.RowKit Kv
theorem wants_new (w:World)(l:List Want)(hl:l.length<=1000000):WantsAt (w.alloc (.cells (l.flatMap wantVals).toArray 179)) (.slice (some ⟨w.heap.size,0,none⟩) l.length l.length) l:=by
 refine⟨_,_,rfl,Nat.le_refl _,by omega,fun _=>⟨w.heap.size,rfl,by simp,fun i u hu=>?_⟩⟩
 exact (cell_of_heap (heap_alloc_new w (.cells (l.flatMap wantVals).toArray 179)) i).trans (by simpa using hu)
theorem rn_any (r:Reg)(w:World):Calls Tryz.prog 184 #[encR r] w fun e w'=>e=.returned (V Z (nM r.n))/\Ext w w':=by
 obtain⟨kind,base,loc,n,wr,rd,top⟩:=r
 have hx:=Hd ((Ext.refl w).alloc (.cells #[V Z kind,V Z base,V Z loc,V Z n,V Z wr,V Z rd,V Z top] 67))
 have hc:=nM_clamp n
 unfold encR
 try simp only
 by_cases h:clamp n 8<1
 · rw [if_pos h] at hc
   rw [hc]
   go_enter Tryz.func184,Tryz.ntmps184
   go_wp2_with fail
   refine (clamp_r _ _ _).mono ?_
   rintro e w' ⟨rfl,rfl⟩;go_wp2_with fail
   go_ret
   exact⟨rfl,hx.out⟩
 · rw [if_neg h] at hc
   rw [hc]
   go_enter Tryz.func184,Tryz.ntmps184
   go_wp2_with fail
   refine (clamp_r _ _ _).mono ?_
   rintro e w' ⟨rfl,rfl⟩;go_wp2_with fail
   go_ret
   exact⟨rfl,hx.out⟩
@[go_sem] theorem build_want (a b:Int) (w:World):(Instr.build 179 #[(0,V Z a),(1,V Z b)]).run Tryz.prog w=.ok (.agg #[V Z a,V Z b]) w:=run_build w 179 _ _ (by kernel_rfl)
@[go_sem] theorem build_regn (a:Int) (w:World):(Instr.build 67 #[(3,V Z a)]).run Tryz.prog w=.ok (.agg #[V Z 0,V Z 0,V Z 0,V Z a,V Z 0,V Z 0,V Z 0]) w:=run_build w 67 _ _ (by kernel_rfl)
theorem swants_p (n:Int)(w:World):Calls Tryz.prog 227 #[V Z n] w fun e w'=>∃ v,e=.returned v/\WantsAt w' v [⟨-1,nM n⟩,⟨-1,1⟩]/\Ext w w':=by
 have hw:=Hd (wants_new w [⟨-1,nM n⟩,⟨-1,1⟩] (by simp))
 have he:Hid (min (max n 1) 8=nM n):=rfl
 go_enter Tryz.func227,Tryz.ntmps227
 go_wp2_with fail
 go_ret
 exact⟨_,rfl,hw.out,(Ext.refl w).alloc _⟩
theorem rwants31_r (n:Int)(w:World):Calls Tryz.prog 268 #[V Z n] w fun e w'=>∃ v,e=.returned v/\WantsAt w' v [⟨-1,nM n⟩,⟨-1,1⟩]/\Ext w w':=by
 go_enter Tryz.func268,Tryz.ntmps268
 go_wp2_with fail
 refine (rn_any ⟨0,0,0,n,0,0,0⟩ _).mono ?_
 rintro e w2 ⟨rfl,hx⟩
 have hw:=Hd (wants_new w2 [⟨-1,nM n⟩,⟨-1,1⟩] (by simp))
 try simp only
 go_wp2_with fail
 go_ret
 exact⟨_,rfl,hw.out,hx.alloc _⟩
theorem wants28_r (n:Nat)(w:World)(hn:n<=1000):Calls Tryz.prog 241 #[V Z n] w fun e w'=>∃ v,e=.returned v/\WantsAt w' v (List.replicate n ⟨-1,1⟩)/\Ext w w':=by
 go_enter Tryz.func241,Tryz.ntmps241
 go_wp2_with fail
 go_loopw [3,4] (fun v i wr=>∃ j:Nat,i=V Z j/\j<=n/\wr.ownsRow w.heap.size 179 2 v j ((List.replicate j (⟨-1,1⟩:Want)).flatMap wantVals)/\Ext w wr) (fun _ i _=>n-(intOf i).toNat)
 case atStart=>exact⟨0,rfl,by omega,World.ownsRow_nil _ _ _ _,Ext.refl _⟩
 case round =>
  obtain⟨j,rfl,hj,hown,hE⟩:=hrel
  by_cases hl:j<n
  · go_wp2_with (at_builtin;refine append_rec info_want Tryz.underlying102 rfl (by decide) (by decide) rfl _ _ rfl _ j _ [V Z (-1),V Z 1] hE hown rfl rfl rfl (by simp [Value.oneCell']) (by omega) ?_)
    intro v' w' ho hx _
    have hoh:=Hd ho
    clear hown ho;go_wp2_with fail
    refine⟨⟨j+1,by go_num,by omega,?_,hx⟩,?_⟩
    · rw [List.replicate_succ',List.flatMap_append];exact hoh.out
    · simp [intOf];omega
  · obtain rfl:j=n:=by omega
    go_wp2_with fail
    go_ret
    refine⟨_,rfl,?_,hE⟩
    unfold WantsAt
    rw [List.length_replicate]
    exact Recs.of_row hown
end Go.Proofs.YtbaajjkopdjbgaaGreat
namespace Kv
def arbSpin (qo rt:Reg) (s me:Int):Nat->Prog Unit
 | 0=>.ret ()
 | n+1=>(regR qo me).bind fun x=>if x=0 then .ret () else (regR rt me).bind fun y=>if y=s then arbSpin qo rt s me n else .ret ()
def arbEnter (n:Nat) (qs qo rt:Reg) (s me:Int):Prog Unit:=(regW qs me 1).bind fun _=>(regW rt me s).bind fun _=>arbSpin qo rt s me n
def arbM (n:Nat) (q0 q1 rt:Reg) (side me:Int):Prog Unit:=if bitM side=1 then arbEnter n q1 q0 rt 1 me else arbEnter n q0 q1 rt 0 me
theorem arbSpin_succ (qo rt:Reg)(s me:Int)(n:Nat):arbSpin qo rt s me (n+1)=(regR qo me).bind fun x=>if x=0 then .ret () else (regR rt me).bind fun y=>if y=s then arbSpin qo rt s me n else .ret ():=rfl
end Kv
namespace Go.Proofs.YtbaajjkopdjbgaaGreat
open Go.RowKit Kv
theorem abit_p (x:Int)(w:World):Calls Tryz.prog 297 #[V Z x] w fun e w'=>e=.returned (V Z (bitM x))/\w=w':=by
 unfold bitM
 by_cases h:x=0
 · rw [if_pos h]
   go_enter Tryz.func297,Tryz.ntmps297
   go_wp2_with fail
   go_ret
   exact⟨rfl,rfl⟩
 · rw [if_neg h]
   have hb:(x != 0)=true:=by rw [bne_iff_ne];exact h
   go_enter Tryz.func297,Tryz.ntmps297
   go_wp2_with fail
   go_ret
   exact⟨rfl,rfl⟩
theorem two_held {B p b:Nat}{w:World}{S:TS}{rs:List Reg}(h:Plays B w p S)(hl:RegsAt [2,3,4] w p b rs)(o1 o2:Obj) :
  HeldP ((w.alloc o1).alloc o2).drew p w.heap.size o1/\HeldP ((w.alloc o1).alloc o2).drew p (w.heap.size+1) o2/\Plays B ((w.alloc o1).alloc o2).drew p S/\KeepP B p w ((w.alloc o1).alloc o2).drew/\RegsAt [2,3,4] ((w.alloc o1).alloc o2).drew p b rs:=by
 have h2:=(h.alloc o1).held o2
 rw [World.size_alloc] at h2
 exact⟨((h.held o1).alloc o2 (h.alloc o1).lt).drew,h2.drew,((h.alloc o1).alloc o2).drew,((Keep.alloc o1 h.lt h.le).trans (Keep.alloc o2 (h.alloc o1).lt (h.alloc o1).le)).drew,hl.extL ((((Ext.refl w).alloc o1).alloc o2).drew) h.lt⟩
theorem awants_p (w:World):Calls Tryz.prog 235 #[] w fun e w'=>∃ v,e=.returned v/\WantsAt w' v (List.replicate 3 ⟨-1,1⟩)/\Ext w w':=by
 go_enter Tryz.func235,Tryz.ntmps235
 go_wp2_with fail
 go_loopw [1,2] (fun v i wr=>∃ j:Nat,i=V Z j/\j<=3/\wr.ownsRow w.heap.size 179 2 v j ((List.replicate j (⟨-1,1⟩:Want)).flatMap wantVals)/\Ext w wr) (fun _ i _=>3-(intOf i).toNat)
 case atStart=>exact⟨0,rfl,by omega,World.ownsRow_nil _ _ _ _,Ext.refl _⟩
 case round =>
  obtain⟨j,rfl,hj,hown,hE⟩:=hrel
  by_cases hl:j<3
  · go_wp2_with (at_builtin;refine append_rec info_want Tryz.underlying102 rfl (by decide) (by decide) rfl _ _ rfl _ j _ [V Z (-1),V Z 1] hE hown rfl rfl rfl (by simp [Value.oneCell']) (by omega) ?_)
    intro v' w' ho hx _
    have hoh:=Hd ho
    clear hown ho;go_wp2_with fail
    refine⟨⟨j+1,by go_num,by omega,?_,hx⟩,?_⟩
    · rw [List.replicate_succ',List.flatMap_append];exact hoh.out
    · simp [intOf];omega
  · obtain rfl:j=3:=by omega
    have hownh:=Hd hown
    clear hown;go_wp2_with fail
    go_ret
    exact⟨_,rfl,Recs.of_row hownh.out,hE⟩
end Go.Proofs.YtbaajjkopdjbgaaGreat
