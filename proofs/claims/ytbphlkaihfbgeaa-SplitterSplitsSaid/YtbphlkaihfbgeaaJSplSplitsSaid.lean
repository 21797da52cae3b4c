/-
  SplitterSplits holds: of all that pass a splitter, each once, at any paces, on atomic cells, at most one is told to stop, and not all that came to its end are told Right, nor Down, without conditions.
-/
import Derived.Test.YtbphlkaihfbgeaaJSplSplitsSaid2
import Derived.Deep.DeepCutAuto
import Derived.Deep.RegionLaw
import Derived.Deep.AppendLies
import Derived.Deep.RegionHeld2
namespace Go.Proofs.Ytbphlkaihfbgeaa
open Go.RowKit Kv
theorem regsP {w0 w1:World}{B p b:Nat}{S:TS}{rs:List Reg}(hb:b<w0.heap.size)(hc:∀ (i:Nat) u,(rs.flatMap regVals)[i]?=some u->w0.cell? ⟨b,i,none⟩=some u)(hx:Ext w0 w1)(hP:Plays B w1 p S)(hB:w0.heap.size<=B):RegsAt [2,3,4] w1 p b rs:=by
 refine⟨Nat.lt_of_lt_of_le hb hx.size,fun ho=>?_,fun j u hu=>(hx.cell (p:=⟨b,j,none⟩) hb).trans (hc j u hu)⟩
 obtain⟨_,_,_,_,_,_,h⟩:=hP
 have:=(h.own ho).1
 omega
theorem alive31a (B p:Nat)(S:TS)(x y:Reg)(b c bl:Nat)(w:World)(h:Plays B w p S)(hl:RegsAt [2,3,4] w p b [x,y])(hx:x.ok)(hy:y.ok)(hmx:2<x.n)(hmy:2<y.n)
  (c1:w.cell? ⟨bl,0,none⟩=some (.slice (some ⟨b,0,none⟩) 2 c)) :
  Calls Try.prog 72 #[.pointer (some ⟨p,0,none⟩),.pointer (some ⟨bl,0,none⟩)] w (Post encI B p w ((passM x y 2).run S)):=by
 generalize hR:Post encI B p w ((passM x y 2).run S)=R
 have hO:Owes R encI B p w ((passM x y 2).run S):=hR▸owes _ _ _ _ _
 clear hR
 have hK:=Keep.refl [2,3,4] B p w
 go_enter Try.func72,Try.ntmps72
 go_wp2_with fail
 clear c1
 refine tlast hO hK (pass_p B p S x y 2 b c w h hl hx hy (by omega) hmx hmy) (fun _ h=>⟨rfl,h⟩) ?_
 intro v S1 w1 hr hP1 hk1 hK1 hO1
 have hf:=hO1.done hP1 hK1
 clear hO1 hP1 hK1 hr hk1 hO h hl hK
 go_wp2_with fail
 exact hf
theorem alive31b (B p:Nat)(S:TS)(x y:Reg)(b c bl:Nat)(w:World)(h:Plays B w p S)(hl:RegsAt [2,3,4] w p b [x,y])(hx:x.ok)(hy:y.ok)(hmx:0<x.n)(hmy:0<y.n)
  (c1:w.cell? ⟨bl,0,none⟩=some (.slice (some ⟨b,0,none⟩) 2 c)) :
  Calls Try.prog 73 #[.pointer (some ⟨p,0,none⟩),.pointer (some ⟨bl,0,none⟩)] w (Post encI B p w ((passM x y 0).run S)):=by
 generalize hR:Post encI B p w ((passM x y 0).run S)=R
 have hO:Owes R encI B p w ((passM x y 0).run S):=hR▸owes _ _ _ _ _
 clear hR
 have hK:=Keep.refl [2,3,4] B p w
 go_enter Try.func73,Try.ntmps73
 go_wp2_with fail
 clear c1
 refine tlast hO hK (pass_p B p S x y 0 b c w h hl hx hy (by omega) hmx hmy) (fun _ h=>⟨rfl,h⟩) ?_
 intro v S1 w1 hr hP1 hk1 hK1 hO1
 have hf:=hO1.done hP1 hK1
 clear hO1 hP1 hK1 hr hk1 hO h hl hK
 go_wp2_with fail
 exact hf
theorem ints_new (w:World)(l:List Int)(h:l.length<=9223372036854775807):Ints (w.alloc (.cells (l.map (Value.int .i64)).toArray 3)) (.slice (some ⟨w.heap.size,0,none⟩) l.length l.length) l:=by
 refine⟨_,_,rfl,Nat.le_refl _,h,fun _=>⟨w.heap.size,0,rfl,by simp,fun i x hi=>?_⟩⟩
 have hh:=World.alloc_heap_new w (.cells (l.map (Value.int .i64)).toArray 3)
 simp only [World.cell?,hh,Nat.zero_add]
 simp [hi]
theorem Outs.parts {w:World}{v:Value}{d:Bool}{S:TS}(h:Outs w v d S):∃ A c A' c' As k n,v=.agg #[.bool d,.slice A S.acc.length c,.slice A' S.nts.length c',.slice As n k]:=by
 obtain⟨A,c,A',c',vs,L,rfl,hO⟩:=h
 obtain⟨As,k,rfl,_,_⟩:=hO.locs.slice
 exact⟨A,c,A',c',As,k,_,rfl⟩
def ra:Reg:=⟨1,3,2,3,-1,-1,3⟩
def rb:Reg:=⟨1,4,2,3,-1,-1,1⟩
set_option maxRecDepth 100000 in
theorem alive31 (w:World):Calls Try.prog 20 #[] w fun e w'=>e=.returned (.bool true)/\Ext w w':=by
 have hlay:layM [⟨-1,nM 3⟩,⟨-1,1⟩] 3 1 3 2=some [ra,rb]:=by rfl
 have hra:ra.ok:=⟨.inl rfl,by decide,by decide,by decide,fun h=>by cases h⟩
 have hrb:rb.ok:=⟨.inl rfl,by decide,by decide,by decide,fun h=>by cases h⟩
 have hmf:∀ (fn:Fn) (first cap:Array Value) (w:World),(Instr.makeFunc fn first cap).run Try.prog w=.ok (.func fn first cap) w:=fun _ _ _ _=>rfl
 go_enter Try.func20,Try.ntmps20
 go_wp2_with fail
 refine (swants_p 3 w).mono ?_
 rintro e w1 ⟨v1,rfl,hW,hX⟩
 have hSm:=some_r v1 _ 3 1 w1 hW (by simp)
 rw [hlay] at hSm
 obtain⟨Aw,cw,rfl,_,_,_⟩:=hW
 clear hlay
 go_wp2_with fail
 refine hSm.mono ?_
 rintro e w2 ⟨v2,rfl,hx2,hrow⟩
 replace hX:=hX.trans hx2
 obtain⟨Ar,cr,rfl,r1,r2,hV⟩:=Recs.of_row hrow
 clear hSm hrow hx2
 obtain⟨b,rfl,hb,hc⟩:=hV (by simp [regVals])
 simp only [Option.getD_some,List.length_cons,List.length_nil] at *
 go_wp2_with fail
 have g1:=Blk.new w2 (.cells #[.slice (some ⟨b,0,none⟩) 2 cr] 44)
 have x1:=(Ext.refl w2).alloc (.cells #[.slice (some ⟨b,0,none⟩) 2 cr] 44)
 have hA:=ints_new (w2.alloc (.cells #[.slice (some ⟨b,0,none⟩) 2 cr] 44)) [0,0,0,3] (by simp)
 replace g1:=g1.alloc (.cells (([0,0,0,3]:List Int).map (Value.int .i64)).toArray 3)
 replace x1:=x1.alloc (.cells (([0,0,0,3]:List Int).map (Value.int .i64)).toArray 3)
 simp only [World.size_alloc,List.map_cons,List.map_nil,List.length_cons,List.length_nil] at hA g1 x1
 have hsz:w2.heap.size+1<(World.alloc (World.alloc w2 (.cells #[.slice (some ⟨b,0,none⟩) 2 cr] 44)) (.cells #[.int .i64 0,.int .i64 0,.int .i64 0,.int .i64 3] 3)).heap.size:=by simp
 generalize World.alloc (World.alloc w2 _) _=W0 at *
 refine (play_int 72 #[.pointer (some ⟨w2.heap.size,0,none⟩)] (passM ra rb 2) none 0 [] (some ⟨w2.heap.size+1,0,none⟩) 4 [0,0,0,3] W0 (Ints.nil _) (by simp) hA (by decide) (fun k hk=>by simp only [Value.ownBlock,Option.some.injEq] at hk;omega) (fun _ _=>rfl) (fun W p hxW hP=>?_)).mono ?_
 · exact alive31a _ p _ ra rb b cr w2.heap.size W hP (regsP hb hc (x1.trans hxW) hP (x1.trans (Ext.refl _)).size) hra hrb (by decide) (by decide) ((g1.ext hxW).cells 0)
 rintro e w3 ⟨v3,rfl,hO,hx3⟩
 have e1:((passM ra rb 2).run (TS0 [] [0,0,0,3])).1=some 0:=by rfl
 have e2:((passM ra rb 2).run (TS0 [] [0,0,0,3])).2.acc.length=4:=by rfl
 rw [e1] at hO ⊢
 generalize ((passM ra rb 2).run (TS0 [] [0,0,0,3])).2=S1 at *
 obtain⟨A1,c1,A1',c1',As1,k1,n1,rfl⟩:=hO.parts
 rw [e2] at *
 simp only [Option.getD_some,Option.isSome_some]
 replace g1:=g1.ext hx3
 replace x1:=x1.trans hx3
 clear e1 e2 hO hA hsz hx3 hmf
 have hmf:∀ (fn:Fn) (first cap:Array Value) (w:World),(Instr.makeFunc fn first cap).run Try.prog w=.ok (.func fn first cap) w:=fun _ _ _ _=>rfl
 go_wp2_with fail
 have g2:=Blk.new w3 (.cells #[.bool true,.slice A1 4 c1,.slice A1' S1.nts.length c1',.slice As1 n1 k1] 30)
 have hA:=ints_new (w3.alloc (.cells #[.bool true,.slice A1 4 c1,.slice A1' S1.nts.length c1',.slice As1 n1 k1] 30)) [0,1] (by simp)
 replace g1:=(g1.alloc (.cells #[.bool true,.slice A1 4 c1,.slice A1' S1.nts.length c1',.slice As1 n1 k1] 30)).alloc (.cells (([0,1]:List Int).map (Value.int .i64)).toArray 3)
 replace g2:=g2.alloc (.cells (([0,1]:List Int).map (Value.int .i64)).toArray 3)
 replace x1:=(x1.alloc (.cells #[.bool true,.slice A1 4 c1,.slice A1' S1.nts.length c1',.slice As1 n1 k1] 30)).alloc (.cells (([0,1]:List Int).map (Value.int .i64)).toArray 3)
 simp only [World.size_alloc,List.map_cons,List.map_nil,List.length_cons,List.length_nil] at hA g1 g2 x1
 have hsz:w3.heap.size+1<(World.alloc (World.alloc w3 (.cells #[.bool true,.slice A1 4 c1,.slice A1' S1.nts.length c1',.slice As1 n1 k1] 30)) (.cells #[.int .i64 0,.int .i64 1] 3)).heap.size:=by simp
 generalize World.alloc (World.alloc w3 _) _=W0 at *
 refine (play_int 73 #[.pointer (some ⟨w2.heap.size,0,none⟩)] (passM ra rb 0) none 0 [] (some ⟨w3.heap.size+1,0,none⟩) 2 [0,1] W0 (Ints.nil _) (by simp) hA (by decide) (fun k hk=>by simp only [Value.ownBlock,Option.some.injEq] at hk;omega) (fun _ _=>rfl) (fun W p hxW hP=>?_)).mono ?_
 · exact alive31b _ p _ ra rb b cr w2.heap.size W hP (regsP hb hc (x1.trans hxW) hP x1.size) hra hrb (by decide) (by decide) ((g1.ext hxW).cells 0)
 rintro e w4 ⟨v4,rfl,hO,hx4⟩
 have e1:((passM ra rb 0).run (TS0 [] [0,1])).1=some 1:=by rfl
 have e2:((passM ra rb 0).run (TS0 [] [0,1])).2.acc.length=2:=by rfl
 rw [e1] at hO ⊢
 generalize ((passM ra rb 0).run (TS0 [] [0,1])).2=S2 at *
 obtain⟨A2,c2,A2',c2',As2,k2,n2,rfl⟩:=hO.parts
 rw [e2] at *
 simp only [Option.getD_some,Option.isSome_some]
 replace g2:=g2.ext hx4
 replace x1:=x1.trans hx4
 clear e1 e2 hO hA hsz hx4 hmf g1
 have c_g2:=g2.cells
 have hfin:=Lib.hid (hX.trans (x1.alloc (.cells #[.bool true,.slice A2 2 c2,.slice A2' S2.nts.length c2',.slice As2 n2 k2] 30)))
 have c_g3:=(g2.alloc (.cells #[.bool true,.slice A2 2 c2,.slice A2' S2.nts.length c2',.slice As2 n2 k2] 30)).cells
 go_wp2_with fail
 go_ret
 exact⟨rfl,hfin.out⟩
end Go.Proofs.Ytbphlkaihfbgeaa
namespace Kv
def TS.told (S:TS) (v:Int) (a:Acc):TS:={ S with ans:=S.ans++[v],acc:=S.acc++[a] }
inductive Sol {α:Type}:Prog α->TS->List Int->Nat->Prog α->TS->List Int->Prop
 | refl (T:Prog α) (S:TS) (M:List Int):Sol T S M 0 T S M
 | read (c:Nat) {k:Int->Prog α} {S:TS} {M:List Int} {v:Int} {n:Nat} {T':Prog α} {S':TS} {M':List Int} (h:M[c]?=some v) (t:Sol (k v) (S.told v ⟨1,c,0⟩) M n T' S' M'):Sol (.read c k) S M (n+1) T' S' M'
 | write (c:Nat) (v:Int) {k:Unit->Prog α} {S:TS} {M:List Int} {n:Nat} {T':Prog α} {S':TS} {M':List Int} (h:c<M.length) (t:Sol (k ()) (S.told v ⟨2,c,v⟩) (M.set c v) n T' S' M'):Sol (.write c v k) S M (n+1) T' S' M'
 | get (i:Int) {k:Int->Prog α} {S:TS} {M:List Int} {n:Nat} {T':Prog α} {S':TS} {M':List Int} (t:Sol (k (S.got i)) S M n T' S' M'):Sol (.get i k) S M n T' S' M'
 | set (i v:Int) {k:Unit->Prog α} {S:TS} {M:List Int} {n:Nat} {T':Prog α} {S':TS} {M':List Int} (t:Sol (k ()) (S.upd i v) M n T' S' M'):Sol (.set i v k) S M n T' S' M'
 | note (m:Int) {k:Unit->Prog α} {S:TS} {M:List Int} {n:Nat} {T':Prog α} {S':TS} {M':List Int} (t:Sol (k ()) (S.noted m) M n T' S' M'):Sol (.note m k) S M n T' S' M'
namespace Sol
theorem trans {α:Type}{T T1 T2:Prog α}{S S1 S2:TS}{M M1 M2:List Int}{n m:Nat}(h:Sol T S M n T1 S1 M1)(g:Sol T1 S1 M1 m T2 S2 M2):Sol T S M (n+m) T2 S2 M2:=by
 induction h with
 | refl T S M=>rw [Nat.zero_add];exact g
 | read c h _ ih=>rw [Nat.add_right_comm];exact .read c h (ih g)
 | write c v h _ ih=>rw [Nat.add_right_comm];exact .write c v h (ih g)
 | get i _ ih=>exact .get i (ih g)
 | set i v _ ih=>exact .set i v (ih g)
 | note m _ ih=>exact .note m (ih g)
theorem bindl {α β:Type}{T T1:Prog α}{S S1:TS}{M M1:List Int}{n:Nat}(h:Sol T S M n T1 S1 M1)(f:α->Prog β):Sol (T.bind f) S M n (T1.bind f) S1 M1:=by
 induction h with
 | refl T S M=>exact .refl _ _ _
 | read c h _ ih=>exact .read c h ih
 | write c v h _ ih=>exact .write c v h ih
 | get i _ ih=>exact .get i ih
 | set i v _ ih=>exact .set i v ih
 | note m _ ih=>exact .note m ih
theorem bind {α β:Type}{T:Prog α}{a:α}{f:α->Prog β}{T2:Prog β}{S S1 S2:TS}{M M1 M2:List Int}{n m:Nat}(h:Sol T S M n (.ret a) S1 M1)(g:Sol (f a) S1 M1 m T2 S2 M2):Sol (T.bind f) S M (n+m) T2 S2 M2:=(h.bindl f).trans g
theorem len {α:Type}{T T1:Prog α}{S S1:TS}{M M1:List Int}{n:Nat}(h:Sol T S M n T1 S1 M1):S1.acc.length=S.acc.length+n/\S1.ans.length=S.ans.length+n:=by
 induction h with
 | refl T S M=>exact⟨rfl,rfl⟩
 | read c h _ ih=>simp only [TS.told,List.length_append,List.length_cons,List.length_nil] at ih;omega
 | write c v h _ ih=>simp only [TS.told,List.length_append,List.length_cons,List.length_nil] at ih;omega
 | get i _ ih=>exact ih
 | set i v _ ih=>rw [TS.upd_acc,TS.upd_ans] at ih;exact ih
 | note m _ ih=>exact ih
end Sol
theorem Sol.pre {α:Type}{T T1:Prog α}{S S1:TS}{M M1:List Int}{n:Nat}(h:Sol T S M n T1 S1 M1):∃ x,S1.ans=S.ans++x:=by
 induction h with
 | refl T S M=>exact⟨[],by simp⟩
 | read c h _ ih=>obtain⟨x,e⟩:=ih;exact⟨_ :: x,by rw [e];simp [TS.told];rfl⟩
 | write c v h _ ih=>obtain⟨x,e⟩:=ih;exact⟨_ :: x,by rw [e];simp [TS.told];rfl⟩
 | get i _ ih=>exact ih
 | set i v _ ih=>rw [TS.upd_ans] at ih;exact ih
 | note m _ ih=>exact ih
def Res {α:Type} (T:Prog α) (S:TS) (T':Prog α) (S':TS):Prop:=∀ x,T.run { S with ans:=S'.ans++x }=T'.run { S' with ans:=S'.ans++x }
theorem upd_with (S:TS)(l:List Int)(i v:Int):({ S with ans:=l }:TS).upd i v={ S.upd i v with ans:=l }:=by
 unfold TS.upd
 split <;> rfl
theorem Sol.stop {α:Type}{T T':Prog α}{S S':TS}{M M':List Int}{a:α}{n:Nat}(h:Sol T S M n T' S' M')(hn:n=0)(ha:T'=.ret a):T.run S=(some a,S')/\M'=M:=by
 induction h with
 | refl T S M=>subst ha;exact⟨rfl,rfl⟩
 | read c h _ ih=>omega
 | write c v h _ ih=>omega
 | get i _ ih=>exact ih hn ha
 | set i v _ ih=>exact ih hn ha
 | note m _ ih=>exact ih hn ha
theorem Sol.next {α:Type}{T T':Prog α}{S S':TS}{M M':List Int}{n:Nat}(h:Sol T S M n T' S' M'):∀ m,n=m+1->S.ans.length=S.acc.length->∃ (c:Nat) (a:Acc) (v:Int) (T1:Prog α) (S1 S2:TS) (M1:List Int),a.cell=c/\c<M.length /\
  (a.kind=1/\M1=M∨a.kind=2/\M1=M.set c a.val)/\M1[c]?=some v/\T.run S=(none,S1)/\S1.acc=S.acc++[a]/\S2.ans=S.ans++[v]/\S2.acc=S.acc++[a]/\Sol T1 S2 M1 m T' S' M'/\Res T S T1 S2:=by
 induction h with
 | refl T S M=>intro m h;omega
 | @read c k S M v n T' S' M' h t ih =>
   intro m hm hl
   have hnx:S.next=none:=by unfold TS.next;rw [List.getElem?_eq_none (by omega)]
   refine⟨c,⟨1,c,0⟩,v,k v,S.put ⟨1,c,0⟩,S.told v ⟨1,c,0⟩,M,rfl,(List.getElem?_eq_some_iff.1 h).1,.inl ⟨rfl,rfl⟩,h,?_,rfl,rfl,rfl,?_,?_⟩
   · simp only [Prog.run,hnx]
   · obtain rfl:n=m:=by omega
     exact t
   · intro x
     have hnx:({ S with ans:=(S.told v ⟨1,c,0⟩).ans++x }:TS).next=some v:=by
      unfold TS.next
      simp only [TS.told,List.append_assoc]
      rw [List.getElem?_append_right (by omega),<- hl,Nat.sub_self]
      rfl
     simp only [Prog.run,hnx]
     rfl
 | @write c v k S M n T' S' M' h t ih =>
   intro m hm hl
   have hnx:S.next=none:=by unfold TS.next;rw [List.getElem?_eq_none (by omega)]
   refine⟨c,⟨2,c,v⟩,v,k (),S.put ⟨2,c,v⟩,S.told v ⟨2,c,v⟩,M.set c v,rfl,h,.inr ⟨rfl,rfl⟩,by simp [h],?_,rfl,rfl,rfl,?_,?_⟩
   · simp only [Prog.run,hnx]
   · obtain rfl:n=m:=by omega
     exact t
   · intro x
     have hnx:({ S with ans:=(S.told v ⟨2,c,v⟩).ans++x }:TS).next=some v:=by
      unfold TS.next
      simp only [TS.told,List.append_assoc]
      rw [List.getElem?_append_right (by omega),<- hl,Nat.sub_self]
      rfl
     simp only [Prog.run,hnx]
     rfl
 | get i t ih=>intro m hm hl;exact ih m hm hl
 | @set i v k S M n T' S' M' t ih =>
   intro m hm hl
   obtain⟨c,a,u,T1,S1,S2,M1,h1,h2,h3,h4,h5,h6,h7,h8,h9,h10⟩:=ih m hm (by rw [TS.upd_acc,TS.upd_ans];exact hl)
   rw [TS.upd_acc] at h6 h8
   rw [TS.upd_ans] at h7
   refine⟨c,a,u,T1,S1,S2,M1,h1,h2,h3,h4,h5,h6,h7,h8,h9,fun x=>?_⟩
   have:=h10 x
   rw [<- upd_with] at this
   exact this
 | note q t ih=>intro m hm hl;exact ih m hm hl
theorem Res.refl {α:Type}(T:Prog α)(S:TS):Res T S T S:=fun _=>rfl
theorem Res.trans {α:Type}{T T1 T2:Prog α}{S S1 S2:TS}{v:Int}(h:Res T S T1 S1)(g:Res T1 S1 T2 S2)(hv:S2.ans=S1.ans++[v]):Res T S T2 S2:=fun x=>by
 have:=h (v :: x)
 rw [<- g x,hv,List.append_assoc]
 exact this
theorem Res.now {α:Type}{T T':Prog α}{S S':TS}(h:Res T S T' S'):T.run { S with ans:=S'.ans }=T'.run S':=by
 have:=h []
 rw [List.append_nil] at this
 exact this
def cnt (p:Nat->Bool):Nat->Nat
 | 0=>0
 | n+1=>cnt p n+(if p n=true then 1 else 0)
theorem cnt_le (p:Nat->Bool):∀ n,cnt p n<=n
 | 0=>Nat.le_refl _
 | n+1=>by
   have:=cnt_le p n
   unfold cnt
   split <;> omega
theorem cnt_same {p q:Nat->Bool}:∀ n,(∀ t,t<n->p t=q t)->cnt p n=cnt q n
 | 0,_=>rfl
 | n+1,h=>by
   unfold cnt
   rw [cnt_same n fun t ht=>h t (by omega),h n (by omega)]
theorem cnt_more {p q:Nat->Bool}{s:Nat}:∀ n,s<n->p s=false->q s=true->(∀ t,t<n->t≠s->p t=q t)->cnt q n=cnt p n+1
 | 0,h,_,_,_=>absurd h (by omega)
 | n+1,hs,hp,hq,h=>by
   unfold cnt
   by_cases e:s=n
   · subst e
     rw [cnt_same s fun t ht=>(h t (by omega) (by omega)).symm,hp,hq]
     simp
   · rw [cnt_more n (by omega) hp hq fun t ht=>h t (by omega),h n (by omega) (by omega)]
     omega
theorem cnt_all {p:Nat->Bool}:∀ n,cnt p n=n->∀ t,t<n->p t=true
 | 0,_,_,h=>absurd h (by omega)
 | n+1,h,t,ht=>by
   have h1:=cnt_le p n
   unfold cnt at h
   have h2:p n=true:=by
    cases hp:p n
    · rw [hp] at h
      simp at h
      omega
    · rfl
   rw [h2] at h
   simp at h
   by_cases e:t=n
   · exact e▸h2
   · exact cnt_all n h t (by omega)
theorem cnt_full {p:Nat->Bool}:∀ n,(∀ t,t<n->p t=true)->cnt p n=n
 | 0,_=>rfl
 | n+1,h=>by
   unfold cnt
   rw [cnt_full n fun t ht=>h t (by omega),h n (by omega)]
   simp
theorem cnt_none {p:Nat->Bool}:∀ n,(∀ t,t<n->p t=false)->cnt p n=0
 | 0,_=>rfl
 | n+1,h=>by
   unfold cnt
   rw [cnt_none n fun t ht=>h t (by omega),h n (by omega)]
   simp
theorem cnt_one {p:Nat->Bool}:∀ n,(∀ t s,t<n->s<n->p t=true->p s=true->t=s)->cnt p n<=1
 | 0,_=>by simp [cnt]
 | n+1,h=>by
   unfold cnt
   cases hp:p n with
   | true =>
     rw [cnt_none n fun t ht=>by
      cases ht2:p t with
      | true=>exact absurd (h t n (by omega) (by omega) ht2 hp) (by omega)
      | false=>rfl]
     simp
   | false =>
     have:=cnt_one n fun t s ht hs=>h t s (by omega) (by omega)
     simpa using this
end Kv
namespace Go.Proofs.Ytbphlkaihfbgeaa
open Go.RowKit Kv
def Pos {α:Type} (T:Prog α) (L:List Int) (ans:List Int) (T':Prog α) (loc:Nat->Int):Prop :=
 ∃ S',Res T (TS0 L []) T' S'/\S'.ans=ans/\S'.acc.length=ans.length/\S'.loc=loc
section
variable {α:Type} {T:Prog α} {L ans:List Int} {loc:Nat->Int}
theorem Pos.start (T:Prog α)(L:List Int):Pos T L [] T (TS0 L []).loc:=⟨TS0 L [],Res.refl _ _,rfl,rfl,rfl⟩
theorem Pos.run {T':Prog α}{S':TS}(h:Res T (TS0 L []) T' S')(ha:S'.ans=ans):T.run (TS0 L ans)=T'.run S':=by
 have:=h.now
 rw [ha] at this
 exact this
theorem told_next {S':TS}(h:S'.acc.length=S'.ans.length)(v:Int)(x:List Int)(a:Acc):({ S' with ans:=(S'.told v a).ans++x }:TS).next=some v:=by
 unfold TS.next
 simp only [TS.told,List.append_assoc]
 rw [List.getElem?_append_right (by omega),h,Nat.sub_self]
 rfl
theorem Pos.read {c:Int}{k:Int->Prog α}(h:Pos T L ans (.read c k) loc):(∃ S1 l,T.run (TS0 L ans)=(none,S1)/\S1.acc=l++[⟨1,c,0⟩]/\l.length=ans.length)/\∀ v,Pos T L (ans++[v]) (k v) loc:=by
 obtain⟨S',h1,h2,h3,h4⟩:=h
 have hn:S'.next=none:=by unfold TS.next;rw [List.getElem?_eq_none (by rw [h2];omega)]
 refine⟨⟨S'.put ⟨1,c,0⟩,S'.acc,?_,rfl,h3⟩,fun v=>⟨S'.told v ⟨1,c,0⟩,?_,by rw [<- h2];rfl,by simp [TS.told,h3],h4⟩⟩
 · rw [Pos.run h1 h2]
   simp only [Prog.run,hn]
 · refine Res.trans h1 (fun x=>?_) (v:=v) rfl
   simp only [Prog.run,told_next (h3.trans (congrArg _ h2.symm)) v x ⟨1,c,0⟩]
   rfl
theorem Pos.write {c u:Int}{k:Unit->Prog α}(h:Pos T L ans (.write c u k) loc):(∃ S1 l,T.run (TS0 L ans)=(none,S1)/\S1.acc=l++[⟨2,c,u⟩]/\l.length=ans.length)/\∀ v,Pos T L (ans++[v]) (k ()) loc:=by
 obtain⟨S',h1,h2,h3,h4⟩:=h
 have hn:S'.next=none:=by unfold TS.next;rw [List.getElem?_eq_none (by rw [h2];omega)]
 refine⟨⟨S'.put ⟨2,c,u⟩,S'.acc,?_,rfl,h3⟩,fun v=>⟨S'.told v ⟨2,c,u⟩,?_,by rw [<- h2];rfl,by simp [TS.told,h3],h4⟩⟩
 · rw [Pos.run h1 h2]
   simp only [Prog.run,hn]
 · refine Res.trans h1 (fun x=>?_) (v:=v) rfl
   simp only [Prog.run,told_next (h3.trans (congrArg _ h2.symm)) v x ⟨2,c,u⟩]
   rfl
theorem Pos.done {a:α}(h:Pos T L ans (.ret a) loc):∃ S1,T.run (TS0 L ans)=(some a,S1)/\S1.acc.length=ans.length/\S1.loc=loc:=by
 obtain⟨S',h1,h2,h3,h4⟩:=h
 exact⟨S',by rw [Pos.run h1 h2];rfl,h3,h4⟩
theorem Pos.get {i:Int}{k:Int->Prog α}(h:Pos T L ans (.get i k) loc):Pos T L ans (k (if i<0 then 0 else loc i.toNat)) loc:=by
 obtain⟨S',h1,h2,h3,h4⟩:=h
 refine⟨S',fun x=>?_,h2,h3,h4⟩
 rw [h1 x]
 show (k (TS.got _ i)).run _=_
 unfold TS.got
 simp only [h4]
theorem Pos.set {i v:Int}{k:Unit->Prog α}(h:Pos T L ans (.set i v k) loc):Pos T L ans (k ()) (if 0<=i/\i<32768 then fun j=>if j=i.toNat then v else loc j else loc):=by
 obtain⟨S',h1,h2,h3,h4⟩:=h
 refine⟨S'.upd i v,fun x=>?_,by rw [TS.upd_ans];exact h2,by rw [TS.upd_acc];exact h3,?_⟩
 · rw [TS.upd_ans]
   refine (h1 x).trans ?_
   show (k ()).run (TS.upd _ i v)=_
   rw [upd_with]
 · unfold TS.upd
   split <;> simp [h4]
theorem Pos.note {m:Int}{k:Unit->Prog α}(h:Pos T L ans (.note m k) loc):Pos T L ans (k ()) loc:=by
 obtain⟨S',h1,h2,h3,h4⟩:=h
 exact⟨S'.noted m,fun x=>(h1 x).trans rfl,h2,h3,h4⟩
end
end Go.Proofs.Ytbphlkaihfbgeaa
namespace Kv
inductive SPc
 | a | b | c | d | e (v:Int)
deriving DecidableEq
def SPc.tree (x y me:Int):SPc->Prog Int
 | .a=>.write x (me+1) fun _=>.read y fun v=>if v≠0 then .ret 1 else .write y 1 fun _=>.read x fun v=>if v=me+1 then .ret 0 else .ret 2
 | .b=>.read y fun v=>if v≠0 then .ret 1 else .write y 1 fun _=>.read x fun v=>if v=me+1 then .ret 0 else .ret 2
 | .c=>.write y 1 fun _=>.read x fun v=>if v=me+1 then .ret 0 else .ret 2
 | .d=>.read x fun v=>if v=me+1 then .ret 0 else .ret 2
 | .e v=>.ret v
theorem passM_tree {x y:Reg}(hx:x.kind=1)(hy:y.kind=1)(me:Int):passM x y me=SPc.tree x.base y.base me .a:=by
 unfold passM regW regR
 rw [if_pos hx,if_pos hx,if_pos hy,if_pos hy]
 rfl
def SPc.step (me X Y:Int):SPc->Int × Int × SPc
 | .a=>(me+1,Y,.b)
 | .b=>(X,Y,if Y≠0 then .e 1 else .c)
 | .c=>(X,1,.d)
 | .d=>(X,Y,if X=me+1 then .e 0 else .e 2)
 | .e v=>(X,Y,.e v)
structure SplOk (many:Nat) (pc:Nat->SPc) (X Y:Int):Prop where
 i1:∀ t,t<many->pc t=.d∨pc t=.e 0∨pc t=.e 2->Y=1
 i2:∀ t,t<many->pc t=.e 0->∀ s,s<many->s≠t->(pc s=.c∨pc s=.d->X≠s+1)/\pc s≠.e 0
 i3:Y≠0->∃ t,t<many/\(pc t=.d∨pc t=.e 0∨pc t=.e 2)
 i4:∀ t,t<many->pc t=.e 2->X≠t+1
 i5:(∃ t,t<many/\pc t≠.a)->∃ s,s<many/\X=(s:Int)+1/\pc s≠.a
 i6:∀ t v,t<many->pc t=.e v->v=0∨v=1∨v=2
 i7:∀ t,t<many->pc t=.e 1->Y≠0
 i8:Y=0∨Y=1
theorem SplOk.start (many:Nat):SplOk many (fun _=>.a) 0 0 :=
 ⟨fun _ _ h=>(by rcases h with h | h | h <;> cases h),fun _ _ h=>(by cases h),fun h=>absurd rfl h,fun _ _ h=>(by cases h),fun ⟨_,_,h⟩=>absurd rfl h,fun _ _ _ h=>(by cases h),fun _ _ h=>(by cases h),.inl rfl⟩
def putP (pc:Nat->SPc) (t:Nat) (q:SPc):Nat->SPc:=fun s=>if s=t then q else pc s
theorem putP_self (pc:Nat->SPc)(t:Nat)(q:SPc):putP pc t q t=q:=if_pos rfl
theorem putP_ne {pc:Nat->SPc}{t s:Nat}{q:SPc}(h:s≠t):putP pc t q s=pc s:=if_neg h
theorem SplOk.step {many:Nat}{pc:Nat->SPc}{X Y:Int}(h:SplOk many pc X Y){t:Nat}(ht:t<many)(hnv:∀ v,pc t≠.e v) :
  SplOk many (putP pc t ((pc t).step t X Y).2.2) ((pc t).step t X Y).1 ((pc t).step t X Y).2.1:=by
 obtain⟨i1,i2,i3,i4,i5,i6,i7,i8⟩:=h
 have P:∀ (q:SPc) (s:Nat),putP pc t q s=if s=t then q else pc s:=fun _ _=>rfl
 cases hp:pc t with
 | e v=>exact absurd hp (hnv v)
 | a =>
   simp only [SPc.step]
   refine⟨fun s hs hq=>?_,fun s hs hq u hu hne=>?_,fun hy=>?_,fun s hs hq=>?_,fun _=>⟨t,ht,rfl,by rw [putP_self];simp⟩,fun s v hs hq=>?_,fun s hs hq=>?_,i8⟩
   · by_cases e:s=t
     · subst e;rw [putP_self] at hq;rcases hq with hq | hq | hq <;> cases hq
     · rw [putP_ne e] at hq;exact i1 s hs hq
   · have es:s≠t:=fun e=>by subst e;rw [putP_self] at hq;cases hq
     rw [putP_ne es] at hq
     by_cases eu:u=t
     · subst eu;rw [putP_self];exact⟨fun h=>(by rcases h with h | h <;> cases h),by simp⟩
     · rw [putP_ne eu];exact⟨fun _=>by omega,(i2 s hs hq u hu hne).2⟩
   · obtain⟨s,hs,hq⟩:=i3 hy
     have es:s≠t:=fun e=>by subst e;rw [hp] at hq;rcases hq with hq | hq | hq <;> cases hq
     exact⟨s,hs,by rw [putP_ne es];exact hq⟩
   · have es:s≠t:=fun e=>by subst e;rw [putP_self] at hq;cases hq
     omega
   · have es:s≠t:=fun e=>by subst e;rw [putP_self] at hq;cases hq
     rw [putP_ne es] at hq;exact i6 s v hs hq
   · have es:s≠t:=fun e=>by subst e;rw [putP_self] at hq;cases hq
     rw [putP_ne es] at hq;exact i7 s hs hq
 | b =>
   simp only [SPc.step]
   by_cases hy:Y≠0
   · rw [if_pos hy]
     refine⟨fun s hs hq=>?_,fun s hs hq u hu hne=>?_,fun hy=>?_,fun s hs hq=>?_,fun _=>?_,fun s v hs hq=>?_,fun s hs hq=>hy,i8⟩
     · by_cases e:s=t
       · subst e;rw [putP_self] at hq;rcases hq with hq | hq | hq <;> cases hq
       · rw [putP_ne e] at hq;exact i1 s hs hq
     · have es:s≠t:=fun e=>by subst e;rw [putP_self] at hq;cases hq
       rw [putP_ne es] at hq
       by_cases eu:u=t
       · subst eu;rw [putP_self];exact⟨fun h=>(by rcases h with h | h <;> cases h),by simp⟩
       · rw [putP_ne eu];exact i2 s hs hq u hu hne
     · obtain⟨s,hs,hq⟩:=i3 hy
       have es:s≠t:=fun e=>by subst e;rw [hp] at hq;rcases hq with hq | hq | hq <;> cases hq
       exact⟨s,hs,by rw [putP_ne es];exact hq⟩
     · have es:s≠t:=fun e=>by subst e;rw [putP_self] at hq;cases hq
       rw [putP_ne es] at hq;exact i4 s hs hq
     · obtain⟨s,hs,h1,h2⟩:=i5 ⟨t,ht,by rw [hp];simp⟩
       exact⟨s,hs,h1,by rw [P];split <;> simp [h2]⟩
     · by_cases e:s=t
       · subst e;rw [putP_self] at hq;injection hq with hq;omega
       · rw [putP_ne e] at hq;exact i6 s v hs hq
   · rw [if_neg hy]
     have hy0:Y=0:=by omega
     refine⟨fun s hs hq=>?_,fun s hs hq u hu hne=>?_,fun hy=>absurd hy0 hy,fun s hs hq=>?_,fun _=>?_,fun s v hs hq=>?_,fun s hs hq=>?_,i8⟩
     · by_cases e:s=t
       · subst e;rw [putP_self] at hq;rcases hq with hq | hq | hq <;> cases hq
       · rw [putP_ne e] at hq;exact i1 s hs hq
     · have es:s≠t:=fun e=>by subst e;rw [putP_self] at hq;cases hq
       rw [putP_ne es] at hq
       have:=i1 s hs (.inr (.inl hq))
       omega
     · have es:s≠t:=fun e=>by subst e;rw [putP_self] at hq;cases hq
       rw [putP_ne es] at hq;exact i4 s hs hq
     · obtain⟨s,hs,h1,h2⟩:=i5 ⟨t,ht,by rw [hp];simp⟩
       exact⟨s,hs,h1,by rw [P];split <;> simp [h2]⟩
     · have es:s≠t:=fun e=>by subst e;rw [putP_self] at hq;cases hq
       rw [putP_ne es] at hq;exact i6 s v hs hq
     · have es:s≠t:=fun e=>by subst e;rw [putP_self] at hq;cases hq
       rw [putP_ne es] at hq;exact i7 s hs hq
 | c =>
   simp only [SPc.step]
   refine⟨fun _ _ _=>rfl,fun s hs hq u hu hne=>?_,fun _=>⟨t,ht,.inl (putP_self _ _ _)⟩,fun s hs hq=>?_,fun _=>?_,fun s v hs hq=>?_,fun s hs hq=>by decide,.inr rfl⟩
   · have es:s≠t:=fun e=>by subst e;rw [putP_self] at hq;cases hq
     rw [putP_ne es] at hq
     by_cases eu:u=t
     · subst eu;rw [putP_self];exact⟨fun _=>(i2 s hs hq u hu hne).1 (.inl hp),by simp⟩
     · rw [putP_ne eu];exact i2 s hs hq u hu hne
   · have es:s≠t:=fun e=>by subst e;rw [putP_self] at hq;cases hq
     rw [putP_ne es] at hq;exact i4 s hs hq
   · obtain⟨s,hs,h1,h2⟩:=i5 ⟨t,ht,by rw [hp];simp⟩
     exact⟨s,hs,h1,by rw [P];split <;> simp [h2]⟩
   · have es:s≠t:=fun e=>by subst e;rw [putP_self] at hq;cases hq
     rw [putP_ne es] at hq;exact i6 s v hs hq
 | d =>
   simp only [SPc.step]
   have hY:=i1 t ht (.inl hp)
   by_cases hx:X=t+1
   · rw [if_pos hx]
     refine⟨fun _ _ _=>hY,fun s hs hq u hu hne=>?_,fun _=>⟨t,ht,.inr (.inl (putP_self _ _ _))⟩,fun s hs hq=>?_,fun _=>?_,fun s v hs hq=>?_,fun s hs hq=>by omega,i8⟩
     · by_cases es:s=t
       · subst es
         rw [putP_ne hne]
         refine⟨fun _=>by omega,fun hu0=>?_⟩
         exact (i2 u hu hu0 s hs (Ne.symm hne)).1 (.inr hp) hx
       · rw [putP_ne es] at hq
         exact absurd hx ((i2 s hs hq t ht (Ne.symm es)).1 (.inr hp))
     · have es:s≠t:=fun e=>by subst e;rw [putP_self] at hq;cases hq
       rw [putP_ne es] at hq;exact i4 s hs hq
     · obtain⟨s,hs,h1,h2⟩:=i5 ⟨t,ht,by rw [hp];simp⟩
       exact⟨s,hs,h1,by rw [P];split <;> simp [h2]⟩
     · by_cases e:s=t
       · subst e;rw [putP_self] at hq;injection hq with hq;omega
       · rw [putP_ne e] at hq;exact i6 s v hs hq
   · rw [if_neg hx]
     refine⟨fun _ _ _=>hY,fun s hs hq u hu hne=>?_,fun _=>⟨t,ht,.inr (.inr (putP_self _ _ _))⟩,fun s hs hq=>?_,fun _=>?_,fun s v hs hq=>?_,fun s hs hq=>by omega,i8⟩
     · have es:s≠t:=fun e=>by subst e;rw [putP_self] at hq;cases hq
       rw [putP_ne es] at hq
       by_cases eu:u=t
       · subst eu;rw [putP_self];exact⟨fun h=>(by rcases h with h | h <;> cases h),by simp⟩
       · rw [putP_ne eu];exact i2 s hs hq u hu hne
     · by_cases e:s=t
       · subst e;exact hx
       · rw [putP_ne e] at hq;exact i4 s hs hq
     · obtain⟨s,hs,h1,h2⟩:=i5 ⟨t,ht,by rw [hp];simp⟩
       exact⟨s,hs,h1,by rw [P];split <;> simp [h2]⟩
     · by_cases e:s=t
       · subst e;rw [putP_self] at hq;injection hq with hq;omega
       · rw [putP_ne e] at hq;exact i6 s v hs hq
def toldN (pc:Nat->SPc) (many:Nat) (v:Int):Nat:=cnt (fun t=>decide (pc t=.e v)) many
def SPc.ended:SPc->Bool
 | .e _=>true
 | _=>false
def endedN (pc:Nat->SPc) (many:Nat):Nat:=cnt (fun t=>(pc t).ended) many
theorem SplOk.stop1 {many:Nat}{pc:Nat->SPc}{X Y:Int}(h:SplOk many pc X Y):toldN pc many 0<=1 :=
 cnt_one many fun t s ht hs h1 h2=>by
  have h1:=of_decide_eq_true h1
  have h2:=of_decide_eq_true h2
  by_cases e:s=t
  · exact e.symm
  · exact absurd h2 (h.i2 t ht h1 s hs e).2
theorem SplOk.notAll {many:Nat}{pc:Nat->SPc}{X Y:Int}(h:SplOk many pc X Y)(hm:1<=many):toldN pc many 1<many/\toldN pc many 2<many:=by
 have l1:toldN pc many 1<=many:=cnt_le _ _
 have l2:toldN pc many 2<=many:=cnt_le _ _
 constructor
 · by_cases e:toldN pc many 1=many
   · have ha:=cnt_all many e
     have h0:=of_decide_eq_true (ha 0 (by omega))
     obtain⟨t,ht,hq⟩:=h.i3 (h.i7 0 (by omega) h0)
     have:=of_decide_eq_true (ha t ht)
     rw [this] at hq
     rcases hq with hq | hq | hq <;> simp at hq
   · omega
 · by_cases e:toldN pc many 2=many
   · have ha:=cnt_all many e
     have h0:=of_decide_eq_true (ha 0 (by omega))
     obtain⟨s,hs,h1,_⟩:=h.i5 ⟨0,by omega,by rw [h0];simp⟩
     exact absurd h1 (h.i4 s hs (of_decide_eq_true (ha s hs)))
   · omega
theorem SplOk.lone {pc:Nat->SPc}{X Y:Int}(h:SplOk 1 pc X Y)(he:endedN pc 1=1):toldN pc 1 0=1:=by
 have h1:=cnt_all 1 he 0 (by omega)
 obtain⟨n1,n2⟩:=h.notAll (by omega)
 refine cnt_full 1 fun t ht=>?_
 obtain rfl:t=0:=by omega
 cases hp:pc 0 with
 | e v =>
   have hv:=h.i6 0 v (by omega) hp
   rcases hv with rfl | rfl | rfl
   · simp
   · have:toldN pc 1 1=1:=cnt_full 1 fun t ht=>by
      obtain rfl:t=0:=by omega
      simp [hp]
     omega
   · have:toldN pc 1 2=1:=cnt_full 1 fun t ht=>by
      obtain rfl:t=0:=by omega
      simp [hp]
     omega
 | a=>rw [hp] at h1;cases h1
 | b=>rw [hp] at h1;cases h1
 | c=>rw [hp] at h1;cases h1
 | d=>rw [hp] at h1;cases h1
end Kv
namespace Go.Proofs.Ytbphlkaihfbgeaa
open Go.RowKit Kv
structure BelowX (X:Nat->Prop) (w w':World):Prop where
 os:w'.os=w.os
 tape:w'.tape=w.tape
 output:w'.output=w.output
 size:w.heap.size<=w'.heap.size
 blocks:∀ k,k<w.heap.size->¬ X k->w'.heap[k]?=w.heap[k]?
theorem BelowX.of {X:Nat->Prop}{w w':World}(h:Ext w w'):BelowX X w w':=⟨h.os,h.tape,h.output,h.size,fun k hk _=>h.block k hk⟩
theorem BelowX.refl (X:Nat->Prop)(w:World):BelowX X w w:=BelowX.of (Ext.refl w)
theorem BelowX.trans {X:Nat->Prop}{w w' w'':World}(h:BelowX X w w')(g:BelowX X w' w''):BelowX X w w'' :=
 ⟨g.os.trans h.os,g.tape.trans h.tape,g.output.trans h.output,Nat.le_trans h.size g.size,fun k hk hx=>(g.blocks k (Nat.lt_of_lt_of_le hk h.size) hx).trans (h.blocks k hk hx)⟩
theorem BelowX.set {X:Nat->Prop}{w w':World}(h:BelowX X w w'){b:Nat}(hb:X b)(i:Nat)(v:Value):BelowX X w (w'.setCell ⟨b,i,none⟩ v):=by
 have e:∀ k,k≠b->(w'.setCell ⟨b,i,none⟩ v).heap[k]?=w'.heap[k]?:=fun k hk=>heap_setCell_ne _ _ hk
 exact⟨h.os,h.tape,h.output,by simpa using h.size,fun k hk hx=>(e k (fun hkb=>hx (hkb▸hb))).trans (h.blocks k hk hx)⟩
theorem BelowX.mono {X Y:Nat->Prop}{w w':World}(h:BelowX X w w')(hxy:∀ k,X k->Y k):BelowX Y w w' :=
 ⟨h.os,h.tape,h.output,h.size,fun k hk hx=>h.blocks k hk fun q=>hx (hxy k q)⟩
theorem BelowX.blk {X:Nat->Prop}{w w':World}(h:BelowX X w w'){b:Nat}{o:Obj}(hb:Blk w b o)(hx:¬ X b):Blk w' b o:=(h.blocks b hb.lt hx).trans hb
theorem BelowX.ints {X:Nat->Prop}{w w':World}{v:Value}{l:List Int}(h:BelowX X w w')(hl:Ints w v l)(hx:∀ b,v.ownBlock=some b->¬ X b):Ints w' v l:=by
 obtain⟨A,c,rfl,h1,h2,h3⟩:=hl
 refine⟨A,c,rfl,h1,h2,fun hne=>?_⟩
 obtain⟨b,off,rfl,hb,hc⟩:=h3 hne
 refine⟨b,off,rfl,Nat.lt_of_lt_of_le hb h.size,fun i x hi=>?_⟩
 rw [<- hc i x hi]
 unfold World.cell?
 simp only
 rw [h.blocks b hb (hx b rfl)]
theorem BelowX.grown {X:Nat->Prop}{w w' wr:World}{o:Obj}{row:Option Nat}(h:BelowX X w wr)(hg:(wr.alloc o).grownBy w' row)(hr:∀ b,row=some b->w.heap.size<=b):BelowX X w w':=by
 have h1:=h.trans (BelowX.of ((Ext.refl wr).alloc o))
 exact⟨hg.os.trans h1.os,hg.tape.trans h1.tape,hg.output.trans h1.output,Nat.le_trans h1.size hg.size,fun k hk hx=>(hg.block k (Nat.lt_of_lt_of_le hk h1.size) (fun e=>by have:=hr k e.symm;omega)).trans (h1.blocks k hk hx)⟩
def rowOf (l:List Int):List Value:=l.map (Value.int .i64)
structure ARows (B:Nat) (bs:List Nat) (w:World) (vs:Array Value) (ans:Nat->List Int) (n:Nat):Prop where
 sz:vs.size=n
 ge:B<=w.heap.size
 row:∀ t,t<n->∃ v,vs[t]?=some v/\w.ownsRow B 3 1 v (ans t).length (rowOf (ans t))
 off:∀ (t:Nat) (v:Value) (b:Nat),vs[t]?=some v->v.ownBlock=some b->b ∉ bs
 apart:∀ (t s:Nat) (v u:Value) (b:Nat),t≠s->vs[t]?=some v->vs[s]?=some u->v.ownBlock=some b->u.ownBlock≠some b
section
variable {B n:Nat} {bs:List Nat} {w W:World} {vs:Array Value} {ans:Nat->List Int}
theorem own_ge {v:Value}{k:Nat}{xs:List Value}(h:w.ownsRow B 3 1 v k xs){b:Nat}(hb:v.ownBlock=some b):B<=b/\b<w.heap.size:=by
 rcases h.2 with⟨rfl,_⟩ | ⟨g,cap,cur,rfl,h1,h2,_⟩
 · simp [Value.ownBlock] at hb
 · simp only [Value.ownBlock,Option.some.injEq] at hb
   subst hb
   exact⟨h1,(Array.getElem?_eq_some_iff.1 h2).1⟩
theorem ARows.ints (h:ARows B bs w vs ans n){t:Nat}(ht:t<n):∃ A c,vs[t]?=some (.slice A (ans t).length c)/\Ints w (.slice A (ans t).length c) (ans t)/\w.ownsRow B 3 1 (.slice A (ans t).length c) (ans t).length (rowOf (ans t)):=by
 obtain⟨v,h1,h2⟩:=h.row t ht
 have h3:=IntRow.ints (show IntRow w B v (ans t) from h2)
 obtain⟨A,c,rfl,_⟩:=h3.slice
 exact⟨A,c,h1,h3,h2⟩
theorem ARows.ext (h:ARows B bs w vs ans n)(hx:Ext w W):ARows B bs W vs ans n :=
 { h with
  ge:=Nat.le_trans h.ge hx.size
  row:=fun t ht=>by
   obtain⟨v,h1,h2⟩:=h.row t ht
   exact⟨v,h1,row_ext h2 hx⟩ }
theorem ARows.set (h:ARows B bs w vs ans n){b:Nat}(hb:b∈bs)(i:Nat)(u:Value):ARows B bs (w.setCell ⟨b,i,none⟩ u) vs ans n :=
 { h with
  ge:=by simpa using h.ge
  row:=fun t ht=>by
   obtain⟨v,h1,h2⟩:=h.row t ht
   exact⟨v,h1,row_set h2 fun e=>h.off t v b h1 e hb⟩ }
theorem ARows.more (h:ARows B bs w vs ans n){b:Nat}(hb:w.heap.size<=b):ARows B (b :: bs) w vs ans n :=
 { h with
  off:=fun t v k h1 h2 hk=>by
   have ht:t<n:=by rw [<- h.sz];exact (Array.getElem?_eq_some_iff.1 h1).1
   obtain⟨v',q1,q2⟩:=h.row t ht
   rw [q1] at h1
   injection h1 with h1
   subst h1
   have:=own_ge q2 h2
   rcases List.mem_cons.1 hk with rfl | hk
   · omega
   · exact h.off t _ k q1 h2 hk }
theorem ARows.grow (h:ARows B bs w vs ans n){t:Nat}(ht:t<n){v:Value}(hv:vs[t]?=some v){g cap:Nat}{y:Int}
  (hown:W.ownsRow B 3 1 (.slice (some ⟨g,0,none⟩) ((ans t).length+1) cap) ((ans t).length+1) (rowOf (ans t)++[Value.int .i64 y]))(hg:w.grownBy W v.ownBlock)(hat:v.ownBlock=some g∨w.heap.size<=g)(hbs:∀ b∈bs,b<w.heap.size) :
  ARows B bs W (vs.setIfInBounds t (.slice (some ⟨g,0,none⟩) ((ans t).length+1) cap)) (fun s=>if s=t then ans t++[y] else ans s) n:=by
 have hsz:=h.sz
 have fresh:∀ (s:Nat) (u:Value) (b:Nat),vs[s]?=some u->u.ownBlock=some b->B<=b/\b<w.heap.size:=fun s u b h1 h2=>by
  have hs:s<n:=by rw [<- hsz];exact (Array.getElem?_eq_some_iff.1 h1).1
  obtain⟨u',q1,q2⟩:=h.row s hs
  rw [q1] at h1
  injection h1 with h1
  subst h1
  exact own_ge q2 h2
 have other:∀ (s:Nat) (u:Value),s≠t->vs[s]?=some u->u.ownBlock≠some g:=fun s u hs h1 h2=>by
  rcases hat with e | e
  · exact h.apart t s v u g (Ne.symm hs) hv h1 e h2
  · have:=(fresh s u g h1 h2).2
    omega
 have get:∀ s u,(vs.setIfInBounds t (.slice (some ⟨g,0,none⟩) ((ans t).length+1) cap))[s]?=some u->(s=t/\u=.slice (some ⟨g,0,none⟩) ((ans t).length+1) cap)∨(s≠t/\vs[s]?=some u):=fun s u h1=>by
  by_cases e:t=s
  · subst e
    rw [Array.getElem?_setIfInBounds_self_of_lt (by omega)] at h1
    injection h1 with h1
    exact .inl ⟨rfl,h1.symm⟩
  · rw [Array.getElem?_setIfInBounds_ne e] at h1
    exact .inr ⟨Ne.symm e,h1⟩
 refine⟨by simp [hsz],Nat.le_trans h.ge hg.size,fun s hs=>?_,fun s u b h1 h2 hb=>?_,fun s r u u' b hne h1 h1' h2 h2'=>?_⟩
 · by_cases e:s=t
   · subst e
     refine⟨_,Array.getElem?_setIfInBounds_self_of_lt (by omega),?_⟩
     rw [if_pos rfl]
     unfold rowOf at hown ⊢
     rw [List.length_append,List.map_append]
     exact hown
   · obtain⟨u,q1,q2⟩:=h.row s hs
     refine⟨u,by rw [Array.getElem?_setIfInBounds_ne (Ne.symm e)];exact q1,?_⟩
     rw [if_neg e]
     refine q2.kept hg ?_
     cases hu:u.ownBlock with
     | none=>exact .inl rfl
     | some b=>exact .inr fun e2=>h.apart s t u v b e q1 hv hu e2.symm
 · rcases get s u h1 with⟨rfl,rfl⟩ | ⟨hs,h1⟩
   · simp only [Value.ownBlock,Option.some.injEq] at h2
     subst h2
     rcases hat with e | e
     · exact h.off s v g hv e hb
     · have:=hbs g hb
       omega
   · exact h.off s u b h1 h2 hb
 · rcases get s u h1 with⟨rfl,rfl⟩ | ⟨hs,h1⟩
   · simp only [Value.ownBlock,Option.some.injEq] at h2
     subst h2
     rcases get r u' h1' with⟨rfl,_⟩ | ⟨hr,h1'⟩
     · exact hne rfl
     · exact other r u' hr h1' h2'
   · rcases get r u' h1' with⟨hr,rfl⟩ | ⟨hr,h1'⟩
     · simp only [Value.ownBlock,Option.some.injEq] at h2'
       subst h2'
       rename_i hvs
       first | exact other s u (by omega) hvs h2 | exact other s u (by omega) h1 h2
     · exact h.apart s r u u' b hne ‹vs[s]?=some u› h1' h2 h2'
theorem ARows.clear (h:ARows B bs w vs ans n)(t:Nat):ARows B bs w (vs.setIfInBounds t (.slice none 0 0)) (fun s=>if s=t then [] else ans s) n:=by
 have hsz:=h.sz
 have get:∀ s u b,(vs.setIfInBounds t (.slice none 0 0))[s]?=some u->u.ownBlock=some b->s≠t/\vs[s]?=some u:=fun s u b h1 h2=>by
  by_cases e:t=s
  · subst e
    have hl:t<vs.size:=by
     have:=(Array.getElem?_eq_some_iff.1 h1).1
     simpa using this
    rw [Array.getElem?_setIfInBounds_self_of_lt hl] at h1
    injection h1 with h1
    subst h1
    simp [Value.ownBlock] at h2
  · rw [Array.getElem?_setIfInBounds_ne e] at h1
    exact⟨Ne.symm e,h1⟩
 refine⟨by simp [hsz],h.ge,fun s hs=>?_,fun s u b h1 h2=>h.off s u b (get s u b h1 h2).2 h2,fun s r u u' b hne h1 h1' h2 h2'=>h.apart s r u u' b hne (get s u b h1 h2).2 (get r u' b h1' h2').2 h2 h2'⟩
 by_cases e:s=t
 · subst e
   refine⟨.slice none 0 0,Array.getElem?_setIfInBounds_self_of_lt (by omega),?_⟩
   rw [if_pos rfl]
   exact⟨rfl,.inl ⟨rfl,rfl⟩⟩
 · obtain⟨u,q1,q2⟩:=h.row s hs
   refine⟨u,by rw [Array.getElem?_setIfInBounds_ne (Ne.symm e)];exact q1,?_⟩
   rw [if_neg e]
   exact q2
theorem ARows.start (B:Nat)(bs:List Nat)(w:World)(hB:B<=w.heap.size)(n:Nat):ARows B bs w (Array.replicate n (.slice none 0 0)) (fun _=>[]) n:=by
 have get:∀ (s:Nat) u,(Array.replicate n (Value.slice none 0 0))[s]?=some u->u=.slice none 0 0:=fun s u h=>by
  have:=Array.mem_of_getElem? h
  simp at this
  exact this.2
 refine⟨by simp,hB,fun t ht=>⟨.slice none 0 0,by simp [ht],rfl,.inl ⟨rfl,rfl⟩⟩,fun t v b h1 h2=>?_,fun t s v u b _ h1 _ h2=>?_⟩
 · rw [get t v h1] at h2
   simp [Value.ownBlock] at h2
 · rw [get t v h1] at h2
   simp [Value.ownBlock] at h2
end
def bools (pc:Nat->SPc):List Value:=(List.range 8).map fun t=>Value.bool (pc t).ended
theorem bools_at {pc:Nat->SPc}{t:Nat}(h:t<8):(bools pc).toArray[t]?=some (.bool (pc t).ended):=by simp [bools,h]
theorem bools_put {pc:Nat->SPc}{t:Nat}{q:SPc}(h:t<8):(bools pc).toArray.setIfInBounds t (.bool q.ended)=(bools (putP pc t q)).toArray:=by
 apply Array.ext_getElem?
 intro i
 by_cases hi:t=i
 · subst hi
   rw [Array.getElem?_setIfInBounds_self_of_lt (by simpa [bools] using h),bools_at h,putP_self]
 · rw [Array.getElem?_setIfInBounds_ne hi]
   by_cases h8:i<8
   · rw [bools_at h8,bools_at h8,putP_ne (Ne.symm hi)]
   · rw [Array.getElem?_eq_none (by simp [bools];omega),Array.getElem?_eq_none (by simp [bools];omega)]
theorem bools_same {pc:Nat->SPc}{t:Nat}{q:SPc}(h:q.ended=(pc t).ended):bools (putP pc t q)=bools pc:=by
 unfold bools
 refine List.map_congr_left fun s _=>?_
 by_cases e:s=t
 · subst e;rw [putP_self,h]
 · rw [putP_ne e]
structure SMem (w0:World) (bl bc ba bt bd:Nat) (ol:Obj) (wr:World) (pc:Nat->SPc) (X Y:Int) (told:List Int) (ans:Nat->List Int) (vs:Array Value):Prop where
 ext:Ext w0 wr
 kL:Blk wr bl ol
 kC:Blk wr bc (.cells #[.int .i64 X,.int .i64 Y] 48)
 kA:Blk wr ba (.cells vs 49)
 kT:Blk wr bt (.cells (told.map (Value.int .i64)).toArray 50)
 kD:Blk wr bd (.cells (bools pc).toArray 51)
 rows:ARows w0.heap.size [bl,bc,ba,bt,bd] wr vs ans 8
 ge:w0.heap.size<=bl/\w0.heap.size<=bc/\w0.heap.size<=ba/\w0.heap.size<=bt/\w0.heap.size<=bd
 ne:bl≠bc/\bl≠ba/\bl≠bt/\bl≠bd/\bc≠ba/\bc≠bt/\bc≠bd/\ba≠bt/\ba≠bd/\bt≠bd
section
variable {w0 wr W:World} {bl bc ba bt bd:Nat} {ol:Obj} {pc:Nat->SPc} {X Y:Int} {told:List Int} {ans:Nat->List Int} {vs:Array Value}
theorem SMem.keep (h:SMem w0 bl bc ba bt bd ol wr pc X Y told ans vs)(hx:Ext wr W):SMem w0 bl bc ba bt bd ol W pc X Y told ans vs :=
 { h with
  ext:=h.ext.trans hx,kL:=h.kL.ext hx,kC:=h.kC.ext hx,kA:=h.kA.ext hx,kT:=h.kT.ext hx,kD:=h.kD.ext hx,rows:=h.rows.ext hx }
theorem blk_ne {w:World}{b b' i:Nat}{o:Obj}(h:Blk w b o)(hne:b≠b')(u:Value):Blk (w.setCell ⟨b',i,none⟩ u) b o:=by
 show (w.setCell ⟨b',i,none⟩ u).heap[b]?=_
 rw [heap_setCell_ne _ _ hne]
 exact h
theorem SMem.setC (h:SMem w0 bl bc ba bt bd ol wr pc X Y told ans vs)(c:Nat)(u X' Y':Int)(he:(#[Value.int .i64 X,.int .i64 Y]:Array Value).setIfInBounds c (.int .i64 u)=#[.int .i64 X',.int .i64 Y']):SMem w0 bl bc ba bt bd ol (wr.setCell ⟨bc,c,none⟩ (.int .i64 u)) pc X' Y' told ans vs:=by
 obtain⟨n1,n2,n3,n4,n5,n6,n7,n8,n9,n10⟩:=h.ne
 exact { h with
  ext:=h.ext.setCell (p:=⟨bc,c,none⟩) h.ge.2.1 _,kL:=blk_ne h.kL n1 _,kA:=blk_ne h.kA (Ne.symm n5) _,kT:=blk_ne h.kT (Ne.symm n6) _,kD:=blk_ne h.kD (Ne.symm n7) _
  kC:=by rw [<- he];exact heap_setCell h.kC _
  rows:=h.rows.set (by simp) _ _ }
theorem SMem.setT (h:SMem w0 bl bc ba bt bd ol wr pc X Y told ans vs)(c:Nat)(u:Int):SMem w0 bl bc ba bt bd ol (wr.setCell ⟨bt,c,none⟩ (.int .i64 u)) pc X Y (told.set c u) ans vs:=by
 obtain⟨n1,n2,n3,n4,n5,n6,n7,n8,n9,n10⟩:=h.ne
 exact { h with
  ext:=h.ext.setCell (p:=⟨bt,c,none⟩) h.ge.2.2.2.1 _,kL:=blk_ne h.kL n3 _,kA:=blk_ne h.kA n8 _,kC:=blk_ne h.kC n6 _,kD:=blk_ne h.kD (Ne.symm n10) _
  kT:=by
   have q:=heap_setCell (i:=c) h.kT (.int .i64 u)
   rw [List.map_set,<- List.setIfInBounds_toArray]
   exact q
  rows:=h.rows.set (by simp) _ _ }
theorem SMem.setD (h:SMem w0 bl bc ba bt bd ol wr pc X Y told ans vs){t:Nat}(ht:t<8)(q:SPc):SMem w0 bl bc ba bt bd ol (wr.setCell ⟨bd,t,none⟩ (.bool q.ended)) (putP pc t q) X Y told ans vs:=by
 obtain⟨n1,n2,n3,n4,n5,n6,n7,n8,n9,n10⟩:=h.ne
 exact { h with
  ext:=h.ext.setCell (p:=⟨bd,t,none⟩) h.ge.2.2.2.2 _,kL:=blk_ne h.kL n4 _,kA:=blk_ne h.kA n9 _,kC:=blk_ne h.kC n7 _,kT:=blk_ne h.kT n10 _
  kD:=by rw [<- bools_put ht];exact heap_setCell h.kD _
  rows:=h.rows.set (by simp) _ _ }
theorem SMem.goes (h:SMem w0 bl bc ba bt bd ol wr pc X Y told ans vs){t:Nat}{q:SPc}(hq:q.ended=(pc t).ended):SMem w0 bl bc ba bt bd ol wr (putP pc t q) X Y told ans vs :=
 { h with kD:=by rw [bools_same hq];exact h.kD }
theorem SMem.grow (h:SMem w0 bl bc ba bt bd ol wr pc X Y told ans vs){t:Nat}(ht:t<8){v:Value}(hv:vs[t]?=some v){g cap:Nat}{y:Int}
  (hown:W.ownsRow w0.heap.size 3 1 (.slice (some ⟨g,0,none⟩) ((ans t).length+1) cap) ((ans t).length+1) (rowOf (ans t)++[Value.int .i64 y]))(hg:wr.grownBy W v.ownBlock)(hat:v.ownBlock=some g∨wr.heap.size<=g) :
  SMem w0 bl bc ba bt bd ol (W.setCell ⟨ba,t,none⟩ (.slice (some ⟨g,0,none⟩) ((ans t).length+1) cap)) pc X Y told (fun s=>if s=t then ans t++[y] else ans s) (vs.setIfInBounds t (.slice (some ⟨g,0,none⟩) ((ans t).length+1) cap)):=by
 obtain⟨n1,n2,n3,n4,n5,n6,n7,n8,n9,n10⟩:=h.ne
 have hoff:∀ b,b∈[bl,bc,ba,bt,bd]->v.ownBlock≠some b:=fun b hb e=>h.rows.off t v b hv e hb
 have kept:∀ {b:Nat} {o:Obj},Blk wr b o->b∈[bl,bc,ba,bt,bd]->Blk W b o:=fun hb hm=>grown_heap hb (hoff _ hm) hg
 have hrows:=h.rows.grow ht hv hown hg hat (fun b hb=>by
  simp only [List.mem_cons,List.not_mem_nil,or_false] at hb
  rcases hb with rfl | rfl | rfl | rfl | rfl
  · exact h.kL.lt
  · exact h.kC.lt
  · exact h.kA.lt
  · exact h.kT.lt
  · exact h.kD.lt)
 have hx:Ext w0 W:=by
  have he:=h.ext
  refine⟨hg.os.trans he.os,hg.tape.trans he.tape,hg.output.trans he.output,Nat.le_trans he.size hg.size,fun k hk=>?_⟩
  refine (hg.block k (Nat.lt_of_lt_of_le hk he.size) fun e=>?_).trans (he.block k hk)
  obtain⟨v',q1,q2⟩:=h.rows.row t ht
  rw [hv] at q1
  injection q1 with q1
  subst q1
  have:=(own_ge q2 e.symm).1
  omega
 exact⟨hx.setCell (p:=⟨ba,t,none⟩) h.ge.2.2.1 _,blk_ne (kept h.kL (by simp)) n2 _,blk_ne (kept h.kC (by simp)) n5 _,heap_setCell (kept h.kA (by simp)) _,blk_ne (kept h.kT (by simp)) (Ne.symm n8) _,blk_ne (kept h.kD (by simp)) (Ne.symm n9) _,hrows.set (by simp) _ _,h.ge,h.ne⟩
end
end Go.Proofs.Ytbphlkaihfbgeaa
namespace Go.Proofs.Ytbphlkaihfbgeaa
open Go.ChangeShapes Go.WideShapes Go.ChangeAt Go.RowKit Kv
def U8s (w:World) (v:Value) (l:List Int):Prop :=
 ∃ A c,v=.slice A l.length c/\l.length<=c/\c<=9223372036854775807/\(l≠[]->∃ b off,A=some ⟨b,off,none⟩/\b<w.heap.size/\∀ i x,l[i]?=some x->w.cell? ⟨b,off+i,none⟩=some (.int .u8 x))
theorem U8s.ext {w w':World}{v:Value}{l:List Int}(h:U8s w v l)(hx:Ext w w'):U8s w' v l:=by
 obtain⟨A,c,rfl,h1,h2,h3⟩:=h
 refine⟨A,c,rfl,h1,h2,fun hl=>?_⟩
 obtain⟨b,off,rfl,hb,hc⟩:=h3 hl
 exact⟨b,off,rfl,Nat.lt_of_lt_of_le hb (Ext.size hx),fun i x hi=>(Ext.cell hx (p:=⟨b,off+i,none⟩) hb).trans (hc i x hi)⟩
theorem U8s.at_ {w:World}{A:Option Addr}{n c:Nat}{l:List Int}(h:U8s w (.slice A n c) l){i:Nat}{x:Int}(hi:l[i]?=some x) :
  ∃ b off,A=some ⟨b,off,none⟩/\b<w.heap.size/\w.cell? ⟨b,off+i,none⟩=some (.int .u8 x):=by
 obtain⟨A',c',he,h1,h2,h3⟩:=h
 injection he with e1 e2 e3
 subst e1 e2 e3
 have hl:l≠[]:=by rintro rfl;simp at hi
 obtain⟨b,off,rfl,hb,hc⟩:=h3 hl
 exact⟨b,off,rfl,hb,hc i x hi⟩
theorem cellsByte:Try.prog.cellsOf 5=1:=by kernel_rfl
set_option maxRecDepth 100000 in
theorem bytes_arg {H:Type}{enc:TypeId × Value->H}{W:World}{b0:Nat}{r:Reach}{v:Value}{d:DataW H}{p:List MemPlace}
  (hv:Value.okWide Try.prog W r b0 43 v)(h:DataW.Trod enc Try.prog W 0 (fun _=>true) true 43 v d p) :
  ∃ l,U8s W v l/\∀ x∈l,0<=x/\x<256:=by
 obtain⟨a0,len,cap,rfl⟩:=okWide_slice Try.underlying43 hv
 obtain⟨fuel,hf⟩:=h
 rcases open_ints Try.underlying43 Try.underlying5 cellsByte hf with⟨hcs,hx⟩ | ⟨a,len',cap',zs,hcs,_,hl,hm,hz,hx,hcell,hwz⟩
 · simp [Value.cells] at hcs
   obtain⟨rfl,rfl,rfl⟩:=hcs
   exact⟨[],⟨none,0,rfl,by simp,by omega,fun h=>absurd rfl h⟩,by simp⟩
 · simp [Value.cells] at hcs
   obtain⟨rfl,rfl,rfl⟩:=hcs
   simp only [if_true] at hz
   refine⟨zs.take len,?_,fun x hx=>by have:=bounds_u8 (hwz x (List.mem_of_mem_take hx));omega⟩
   have hlen:(zs.take len).length=len:=by rw [List.length_take];omega
   refine⟨some a,cap,by rw [hlen],by omega,by unfold maxLen at hm;exact hm,fun hne=>?_⟩
   have hpos:0<zs.length:=by
    rcases Nat.eq_zero_or_pos zs.length with h0 | h0
    · have:zs=[]:=List.eq_nil_of_length_eq_zero h0
      subst this
      simp at hne
    · exact h0
   obtain⟨b,off,rfl,hc⟩:=ints_at hcell hpos
   refine⟨b,off,rfl,cell_lt (hc 0 hpos),fun i x hi=>?_⟩
   have hi2:i<zs.length:=by
    have:=(List.getElem?_eq_some_iff.1 hi).1
    rw [List.length_take] at this
    omega
   rw [hc i hi2]
   have hi3:i<len:=by
    have:=(List.getElem?_eq_some_iff.1 hi).1
    omega
   rw [List.getElem?_take,if_pos hi3] at hi
   rw [List.getD_eq_getElem?_getD,hi]
   rfl
end Go.Proofs.Ytbphlkaihfbgeaa
namespace Kv
def SPc.isX:SPc->Bool
 | .a=>true
 | .b=>false
 | .c=>false
 | .d=>true
 | .e _=>true
def SPc.kind:SPc->Int
 | .a=>2
 | .c=>2
 | _=>1
def SPc.val (me:Int):SPc->Int
 | .a=>me+1
 | .c=>1
 | _=>0
end Kv
namespace Go.Proofs.Ytbphlkaihfbgeaa
open Go.RowKit Kv
theorem lay31 (m:Nat)(h1:1<=m)(h8:m<=8):∃ xa xb,layM [⟨-1,nM m⟩,⟨-1,1⟩] m 1 3 2=some [xa,xb]/\xa.ok/\xb.ok/\xa.kind=1/\xb.kind=1/\xa.base=3/\xb.base=4/\xa.n=m/\xb.n=m:=by
 have hm:m=1∨m=2∨m=3∨m=4∨m=5∨m=6∨m=7∨m=8:=by omega
 rcases hm with rfl | rfl | rfl | rfl | rfl | rfl | rfl | rfl <;> exact⟨_,_,rfl,⟨.inl rfl,by decide,by decide,by decide,fun h=>by cases h⟩,⟨.inl rfl,by decide,by decide,by decide,fun h=>by cases h⟩,rfl,rfl,rfl,rfl,rfl,rfl⟩
theorem spc_asks {T:Prog Int}{x y me:Int}{q:SPc}{ans:List Int}{loc:Nat->Int}(h:Pos T [] ans (SPc.tree x y me q) loc)(hq:q.ended=false) :
  (∃ S1 l,T.run (TS0 [] ans)=(none,S1)/\S1.acc=l++[⟨q.kind,if q.isX=true then x else y,q.val me⟩]/\l.length=ans.length) /\
  ∀ X Y,Pos T [] (ans++[if q.isX=true then (q.step me X Y).1 else (q.step me X Y).2.1]) (SPc.tree x y me (q.step me X Y).2.2) loc:=by
 cases q with
 | a=>exact⟨(Pos.write h).1,fun X Y=>(Pos.write h).2 _⟩
 | b =>
   refine⟨(Pos.read h).1,fun X Y=>?_⟩
   have h2:=(Pos.read h).2 Y
   show Pos T [] (ans++[Y]) (SPc.tree x y me (if Y≠0 then .e 1 else .c)) loc
   by_cases hy:Y≠0
   · rw [if_pos hy] at h2 ⊢;exact h2
   · rw [if_neg hy] at h2 ⊢;exact h2
 | c=>exact⟨(Pos.write h).1,fun X Y=>(Pos.write h).2 _⟩
 | d =>
   refine⟨(Pos.read h).1,fun X Y=>?_⟩
   have h2:=(Pos.read h).2 X
   show Pos T [] (ans++[X]) (SPc.tree x y me (if X=me+1 then .e 0 else .e 2)) loc
   by_cases hy:X=me+1
   · rw [if_pos hy] at h2 ⊢;exact h2
   · rw [if_neg hy] at h2 ⊢;exact h2
 | e v=>cases hq
theorem spc_cells (q:SPc)(me X Y:Int)(hq:q.ended=false):(q.kind=1/\(q.step me X Y).1=X/\(q.step me X Y).2.1=Y)∨(q.kind=2/\(#[Value.int .i64 X,.int .i64 Y]:Array Value).setIfInBounds (if q.isX=true then 0 else 1) (.int .i64 (q.val me))=#[.int .i64 (q.step me X Y).1,.int .i64 (q.step me X Y).2.1]):=by
 cases q with
 | a=>exact .inr ⟨rfl,rfl⟩
 | b=>exact .inl ⟨rfl,rfl,rfl⟩
 | c=>exact .inr ⟨rfl,rfl⟩
 | d=>exact .inl ⟨rfl,rfl,rfl⟩
 | e v=>cases hq
theorem splcl1 (B p:Nat)(S:TS)(x y:Reg)(t:Nat)(b c bl bt:Nat)(w:World)(h:Plays B w p S)(hl:RegsAt [2,3,4] w p b [x,y])(hx:x.ok)(hy:y.ok)(hmx:(t:Int)<x.n)(hmy:(t:Int)<y.n)
  (c1:w.cell? ⟨bl,0,none⟩=some (.slice (some ⟨b,0,none⟩) 2 c))(c2:w.cell? ⟨bt,0,none⟩=some (.int .i64 t)) :
  Calls Try.prog 23 #[.pointer (some ⟨p,0,none⟩),.pointer (some ⟨bl,0,none⟩),.pointer (some ⟨bt,0,none⟩)] w (Post encI B p w ((passM x y t).run S)):=by
 generalize hR:Post encI B p w ((passM x y t).run S)=R
 have hO:Owes R encI B p w ((passM x y t).run S):=hR▸owes _ _ _ _ _
 clear hR
 have hK:=Keep.refl [2,3,4] B p w
 have hm:(0:Int)<=t:=by omega
 go_enter Try.func23,Try.ntmps23
 go_wp2_with fail
 clear c1 c2
 refine tlast hO hK (pass_p B p S x y t b c w h hl hx hy hm hmx hmy) (fun _ h=>⟨rfl,h⟩) ?_
 intro v S1 w1 hr hP1 hk1 hK1 hO1
 have hf:=hO1.done hP1 hK1
 clear hO1 hP1 hK1 hr hk1 hO h hl hK
 go_wp2_with fail
 exact hf
theorem splcl2 (B p:Nat)(S:TS)(x y:Reg)(t:Nat)(b c bl bt:Nat)(w:World)(h:Plays B w p S)(hl:RegsAt [2,3,4] w p b [x,y])(hx:x.ok)(hy:y.ok)(hmx:(t:Int)<x.n)(hmy:(t:Int)<y.n)
  (c1:w.cell? ⟨bl,0,none⟩=some (.slice (some ⟨b,0,none⟩) 2 c))(c2:w.cell? ⟨bt,0,none⟩=some (.int .i64 t)) :
  Calls Try.prog 25 #[.pointer (some ⟨p,0,none⟩),.pointer (some ⟨bl,0,none⟩),.pointer (some ⟨bt,0,none⟩)] w (Post encI B p w ((passM x y t).run S)):=by
 generalize hR:Post encI B p w ((passM x y t).run S)=R
 have hO:Owes R encI B p w ((passM x y t).run S):=hR▸owes _ _ _ _ _
 clear hR
 have hK:=Keep.refl [2,3,4] B p w
 have hm:(0:Int)<=t:=by omega
 go_enter Try.func25,Try.ntmps25
 go_wp2_with fail
 clear c1 c2
 refine tlast hO hK (pass_p B p S x y t b c w h hl hx hy hm hmx hmy) (fun _ h=>⟨rfl,h⟩) ?_
 intro v S1 w1 hr hP1 hk1 hK1 hO1
 have hf:=hO1.done hP1 hK1
 clear hO1 hP1 hK1 hr hk1 hO h hl hK
 go_wp2_with fail
 exact hf
set_option maxRecDepth 100000 in
set_option maxHeartbeats 2000000 in
theorem spl_walk (n:Nat)(vP:Value)(Ls:List Int)(w:World)(hn:n<256)(hL:U8s w vP Ls)(hLb:∀ x∈Ls,0<=x/\x<256) :
  Calls Try.prog 4 #[.int .u8 n,vP] w fun e w'=>e=.returned (.bool true)/\Ext w w':=by
 have hmf:∀ (fn:Fn) (first cap:Array Value) (w:World),(Instr.makeFunc fn first cap).run Try.prog w=.ok (.func fn first cap) w:=fun _ _ _ _=>rfl
 obtain⟨m,hm⟩:∃ m:Nat,1+(n:Int) % 8=m:=⟨1+n % 8,by omega⟩
 have m1:1<=m:=by omega
 have m8:m<=8:=by omega
 obtain⟨xa,xb,hlay,oka,okb,ka,kb,ba3,bb4,na,nb⟩:=lay31 m m1 m8
 obtain⟨AL,cL,rfl,z1,z2⟩:∃ A c,vP=.slice A Ls.length c/\Ls.length<=c/\c<=9223372036854775807:=by
  obtain⟨A,c,e,q1,q2,_⟩:=hL
  exact⟨A,c,e,q1,q2⟩
 go_enter Try.func4,Try.ntmps4
 by_cases hl:200<Ls.length
 · have d1:decide ((200:Int)<(Ls.length:Int))=true:=by rw [decide_eq_true_eq];omega
   go_wp2_with fail
   refine (alive31 _).mono ?_
   rintro e w7 ⟨rfl,hx7⟩
   have hf:=Lib.hid hx7
   clear hx7
   go_wp2_with fail
   go_ret
   exact⟨rfl,hf.out⟩
 have d1:decide ((200:Int)<(Ls.length:Int))=false:=by rw [decide_eq_false_iff_not];omega
 go_wp2_with fail
 refine (swants_p m w).mono ?_
 rintro e w1 ⟨v1,rfl,hW,hX⟩
 have hSm:=some_r v1 _ m 1 w1 hW (by simp)
 rw [hlay] at hSm
 obtain⟨Aw,cw,rfl,_,_,_⟩:=hW
 clear hlay
 go_wp2_with fail
 refine hSm.mono ?_
 rintro e w2 ⟨v2,rfl,hx2,hrow⟩
 replace hX:=hX.trans hx2
 obtain⟨Ar,cr,rfl,r1,r2,hV⟩:=Recs.of_row hrow
 clear hSm hrow hx2
 obtain⟨b,rfl,hb,hc⟩:=hV (by simp [regVals])
 simp only [Option.getD_some,List.length_cons,List.length_nil,Nat.zero_add,Nat.reduceAdd] at *
 go_upto_region 12 with fail
 have hM:SMem w2 w2.heap.size (w2.heap.size+1) (w2.heap.size+1+1) (w2.heap.size+1+1+1) (w2.heap.size+1+1+1+1) (.cells #[.slice (some ⟨b,0,none⟩) 2 cr] 44) (((((w2.alloc (.cells #[.slice (some ⟨b,0,none⟩) 2 cr] 44)).alloc (.cells #[.int .i64 0,.int .i64 0] 48)).alloc (.cells #[.slice none 0 0,.slice none 0 0,.slice none 0 0,.slice none 0 0,.slice none 0 0,.slice none 0 0,.slice none 0 0,.slice none 0 0] 49)).alloc (.cells #[.int .i64 0,.int .i64 0,.int .i64 0,.int .i64 0] 50)).alloc (.cells #[.bool false,.bool false,.bool false,.bool false,.bool false,.bool false,.bool false,.bool false] 51)) (fun _=>.a) 0 0 [0,0,0,0] (fun _=>[]) (Array.replicate 8 (.slice none 0 0)):=by
  refine⟨(((((Ext.refl w2).alloc _).alloc _).alloc _).alloc _).alloc _,((((Blk.new w2 _).alloc _).alloc _).alloc _).alloc _,?_,?_,?_,?_,ARows.start _ _ _ (by simp;omega) 8,by omega,by omega⟩
  · have h:=(((Blk.new (w2.alloc (.cells #[.slice (some ⟨b,0,none⟩) 2 cr] 44)) (.cells #[.int .i64 0,.int .i64 0] 48)).alloc (.cells #[.slice none 0 0,.slice none 0 0,.slice none 0 0,.slice none 0 0,.slice none 0 0,.slice none 0 0,.slice none 0 0,.slice none 0 0] 49)).alloc (.cells #[.int .i64 0,.int .i64 0,.int .i64 0,.int .i64 0] 50)).alloc (.cells #[.bool false,.bool false,.bool false,.bool false,.bool false,.bool false,.bool false,.bool false] 51)
    simpa using h
  · have h:=((Blk.new ((w2.alloc (.cells #[.slice (some ⟨b,0,none⟩) 2 cr] 44)).alloc (.cells #[.int .i64 0,.int .i64 0] 48)) (.cells #[.slice none 0 0,.slice none 0 0,.slice none 0 0,.slice none 0 0,.slice none 0 0,.slice none 0 0,.slice none 0 0,.slice none 0 0] 49)).alloc (.cells #[.int .i64 0,.int .i64 0,.int .i64 0,.int .i64 0] 50)).alloc (.cells #[.bool false,.bool false,.bool false,.bool false,.bool false,.bool false,.bool false,.bool false] 51)
    simp only [World.size_alloc] at h
    exact h
  · have h:=(Blk.new (((w2.alloc (.cells #[.slice (some ⟨b,0,none⟩) 2 cr] 44)).alloc (.cells #[.int .i64 0,.int .i64 0] 48)).alloc (.cells #[.slice none 0 0,.slice none 0 0,.slice none 0 0,.slice none 0 0,.slice none 0 0,.slice none 0 0,.slice none 0 0,.slice none 0 0] 49)) (.cells #[.int .i64 0,.int .i64 0,.int .i64 0,.int .i64 0] 50)).alloc (.cells #[.bool false,.bool false,.bool false,.bool false,.bool false,.bool false,.bool false,.bool false] 51)
    simpa using h
  · have h:=Blk.new ((((w2.alloc (.cells #[.slice (some ⟨b,0,none⟩) 2 cr] 44)).alloc (.cells #[.int .i64 0,.int .i64 0] 48)).alloc (.cells #[.slice none 0 0,.slice none 0 0,.slice none 0 0,.slice none 0 0,.slice none 0 0,.slice none 0 0,.slice none 0 0,.slice none 0 0] 49)).alloc (.cells #[.int .i64 0,.int .i64 0,.int .i64 0,.int .i64 0] 50)) (.cells #[.bool false,.bool false,.bool false,.bool false,.bool false,.bool false,.bool false,.bool false] 51)
    simp only [World.size_alloc] at h
    exact h
 have hb2:b<w2.heap.size:=hb
 generalize hbl:w2.heap.size=bl at hM ⊢
 generalize hbc:bl+1=bc at *
 generalize hba:bc+1=ba at *
 generalize hbt:ba+1=bt at *
 generalize hbd:bt+1=bd at *
 generalize World.alloc (World.alloc (World.alloc (World.alloc (World.alloc w2 _) _) _) _) _=W0 at *
 clear hbl hbc hba hbt hbd
 obtain⟨OL,hOL⟩:∃ OL:Obj,OL=(.cells #[.slice (some ⟨b,0,none⟩) 2 cr] 44):=⟨_,rfl⟩
 rw [<- hOL] at hM
 have hOLh:=Lib.hid hOL
 have hLh:=Lib.hid hL
 have hLbh:=Lib.hid hLb
 have hch:=Lib.hid hc
 have hXh:=Lib.hid hX
 clear hOL hL hLb hc hX
 go_wp2_with fail
 go_loopw [10,12,13,14,15,16,17,18,19] (fun a10 a12 _ _ _ _ _ _ _ wr=>∃ (j:Nat) (pc:Nat->SPc) (X Y:Int) (ans:Nat->List Int) (vs:Array Value),a10=.int .i64 (endedN pc m:Nat)/\a12=.int .i64 j/\j<=Ls.length/\Hid (SplOk m pc X Y)/\Hid (∀ t,t<m->Pos (passM xa xb t) [] (ans t) (SPc.tree 3 4 t (pc t)) (TS0 [] []).loc/\(ans t).length<=j)/\Hid (SMem w2 bl bc ba bt bd OL wr pc X Y [(toldN pc m 0:Int),(toldN pc m 1:Int),(toldN pc m 2:Int),0] ans vs)) (fun _ a12 _ _ _ _ _ _ _ _=>Ls.length-(intOf a12).toNat)
 case atStart =>
  have e0:∀ v,toldN (fun _=>SPc.a) m v=0:=fun v=>cnt_none m fun _ _=>by simp
  refine⟨0,fun _=>.a,0,0,fun _=>[],Array.replicate 8 (.slice none 0 0),by rw [show endedN (fun _=>SPc.a) m=0 from cnt_none m fun _ _=>rfl];rfl,rfl,by omega,SplOk.start m,fun t ht=>⟨?_,by simp⟩,?_⟩
  · rw [passM_tree ka kb,ba3,bb4]
    exact Pos.start _ _
  · rw [e0,e0,e0]
    exact hM
 case round =>
  clear hM
  obtain⟨j,pc,X,Y,ans,vs,rfl,rfl,hj,hsp,hpos,hM⟩:=hrel
  by_cases hjl:j<Ls.length
  rotate_left
  · have dj:decide ((j:Int)<(Ls.length:Int))=false:=by rw [decide_eq_false_iff_not];omega
    have hM1:=hM.out
    have hs1:=hsp.out
    have hE1:=Lib.hid (hXh.out.trans hM1.ext)
    have s1:=hs1.stop1
    obtain⟨s2,s3⟩:=hs1.notAll m1
    have c_Q0:wr.cell? ⟨bt,0,none⟩=some (.int .i64 (toldN pc m 0)):=(hM1.kT.cells 0).trans rfl
    have c_Q1:wr.cell? ⟨bt,1,none⟩=some (.int .i64 (toldN pc m 1)):=(hM1.kT.cells 1).trans rfl
    have c_Q2:wr.cell? ⟨bt,2,none⟩=some (.int .i64 (toldN pc m 2)):=(hM1.kT.cells 2).trans rfl
    have hlone:m=1->endedN pc m=m->toldN pc m 0=1:=fun e h=>by
     subst e
     exact hs1.lone h
    have hle:endedN pc m<=m:=cnt_le _ _
    have nq0:decide (1<toldN pc m 0)=false:=by rw [decide_eq_false_iff_not];omega
    have nq1:decide (toldN pc m 1<m)=true:=by rw [decide_eq_true_eq];omega
    have nq2:decide (toldN pc m 2<m)=true:=by rw [decide_eq_true_eq];omega
    have dq0:decide ((1:Int)<(toldN pc m 0:Int))=false:=by rw [decide_eq_false_iff_not];omega
    have dq1:decide ((toldN pc m 1:Int)<(m:Int))=true:=by rw [decide_eq_true_eq];omega
    have dq2:decide ((toldN pc m 2:Int)<(m:Int))=true:=by rw [decide_eq_true_eq];omega
    clear hM hsp hpos hM1 hs1
    by_cases he:endedN pc m<m
    · have ne:decide (endedN pc m<m)=true:=by rw [decide_eq_true_eq];omega
      have de:decide ((endedN pc m:Int)<(m:Int))=true:=by rw [decide_eq_true_eq];omega
      clear hlone s1 s2 s3 hle he
      go_wp2_with fail
      refine (alive31 _).mono ?_
      rintro e w7 ⟨rfl,hx7⟩
      have hf:=Lib.hid (hE1.out.trans hx7)
      clear hx7
      go_wp2_with fail
      first | exact⟨rfl,hf.out⟩ | (go_ret;exact⟨rfl,hf.out⟩) | (go_ret2;exact⟨rfl,hf.out⟩)
    have ne:decide (endedN pc m<m)=false:=by rw [decide_eq_false_iff_not];omega
    have de:decide ((endedN pc m:Int)<(m:Int))=false:=by rw [decide_eq_false_iff_not];omega
    by_cases hm1:1<m
    · have nm:decide (1<m)=true:=by rw [decide_eq_true_eq];omega
      have dm:decide ((1:Int)<(m:Int))=true:=by rw [decide_eq_true_eq];omega
      clear hlone s1 s2 s3 hle he
      go_wp2_with fail
      refine (alive31 _).mono ?_
      rintro e w7 ⟨rfl,hx7⟩
      have hf:=Lib.hid (hE1.out.trans hx7)
      clear hx7
      go_wp2_with fail
      first | exact⟨rfl,hf.out⟩ | (go_ret;exact⟨rfl,hf.out⟩) | (go_ret2;exact⟨rfl,hf.out⟩)
    · have nm:decide (1<m)=false:=by rw [decide_eq_false_iff_not];omega
      have dm:decide ((1:Int)<(m:Int))=false:=by rw [decide_eq_false_iff_not];omega
      have h0:=hlone (by omega) (by omega)
      have n9:(toldN pc m 0==1)=true:=by rw [beq_iff_eq];omega
      have d9:((toldN pc m 0:Int)==1)=true:=by rw [beq_iff_eq];omega
      clear hlone s1 s2 s3 hle he h0
      go_wp2_with fail
      refine (alive31 _).mono ?_
      rintro e w7 ⟨rfl,hx7⟩
      have hf:=Lib.hid (hE1.out.trans hx7)
      clear hx7
      go_wp2_with fail
      first | exact⟨rfl,hf.out⟩ | (go_ret;exact⟨rfl,hf.out⟩) | (go_ret2;exact⟨rfl,hf.out⟩)
  have dj:decide ((j:Int)<(Ls.length:Int))=true:=by rw [decide_eq_true_eq];omega
  obtain⟨x,hx⟩:∃ x,Ls[j]?=some x:=⟨_,List.getElem?_eq_getElem hjl⟩
  obtain⟨bq,oq,rfl,hbq,hcx0⟩:=hLh.out.at_ hx
  have hcx:=((hM.out.ext.cell (p:=⟨bq,oq+j,none⟩) (Nat.lt_of_lt_of_le hbq hXh.out.size)).trans (hXh.out.cell (p:=⟨bq,oq+j,none⟩) hbq)).trans hcx0
  clear hcx0
  have hxb:=hLbh.out x (List.mem_of_getElem? hx)
  obtain⟨y,rfl⟩:∃ y:Nat,x=y:=⟨x.toNat,by omega⟩
  obtain⟨t,htt⟩:∃ t:Nat,((y:Int)) % (m:Int)=t:=⟨(((y:Int)) % (m:Int)).toNat,by
   have:=Int.emod_nonneg (y:Int) (show (m:Int)≠0 by omega)
   omega⟩
  have htm:t<m:=by
   have:=Int.emod_lt_of_pos (y:Int) (show (0:Int)<m by omega)
   omega
  go_upto_region 16 with fail
  have bT:=Blk.new wr (.cells #[.int .i64 t] 3)
  have hvz0:Hid (∀ v,vs[t]?=some v->v.ownBlock≠some wr.heap.size):=fun v h1 h2=>(hM.out.rows.more (Nat.le_refl _)).off t v _ h1 h2 (by simp)
  have hx1:=(Ext.refl wr).alloc (.cells #[.int .i64 t] 3)
  have hM1:=Lib.hid (hM.out.keep hx1)
  have gT:bl<wr.heap.size/\bc<wr.heap.size/\ba<wr.heap.size/\bt<wr.heap.size/\bd<wr.heap.size:=⟨hM.out.kL.lt,hM.out.kC.lt,hM.out.kA.lt,hM.out.kT.lt,hM.out.kD.lt⟩
  clear hM hx1 hcx htt
  generalize hbz:wr.heap.size=bz at *
  generalize World.alloc wr _=V1 at *
  clear hbz
  have c_T:V1.cell? ⟨bz,0,none⟩=some (.int .i64 t):=bT.cells 0
  have c_D:V1.cell? ⟨bd,t,none⟩=some (.bool (pc t).ended):=by
   rw [hM1.out.kD.cells t]
   exact bools_at (by omega)
  cases hend:(pc t).ended with
  | true =>
    rw [hend] at c_D
    go_wp2_with fail
    refine⟨⟨j+1,pc,X,Y,ans,vs,rfl,by first | rfl | go_num,by omega,hsp,fun s hs=>⟨(hpos.out s hs).1,by have:=(hpos.out s hs).2;omega⟩,hM1⟩,?_⟩
    simp [intOf]
    omega
  | false =>
    rw [hend] at c_D
    obtain⟨⟨S1,l1,hr1,hacc,hl1⟩,hnext⟩:=spc_asks (hpos.out t htm).1 hend
    obtain⟨A,c,hvt,hI,hrow⟩:=hM1.out.rows.ints (show t<8 by omega)
    have c_A:V1.cell? ⟨ba,t,none⟩=some (.slice A (ans t).length c):=(hM1.out.kA.cells t).trans hvt
    have hlen:=(hpos.out t htm).2
    have hPl:=play_int 23 #[.pointer (some ⟨bl,0,none⟩),.pointer (some ⟨bz,0,none⟩)] (passM xa xb t) none 0 [] A c (ans t) V1 (Ints.nil _) (by simp) hI (by unfold maxAns;omega) (fun k hk=>(own_ge hrow hk).2) (fun _ _=>rfl) (fun W p hxW hP=>splcl1 _ p _ xa xb t b cr bl bz W hP (regsP hb2 hch.out (hM1.out.ext.trans hxW) hP hM1.out.ext.size) oka okb (by omega) (by omega) (by have h:=hM1.out.kL.ext hxW;rw [hOLh.out] at h;exact h.cells 0) ((bT.ext hxW).cells 0))
    rw [hr1] at hPl
    simp only [Option.getD_none,Option.isSome_none] at hPl
    go_wp2_with fail
    refine hPl.mono ?_
    clear hPl
    rintro e w3 ⟨v3,rfl,hO,hx3⟩
    obtain⟨A3,c3,D3,d3,vs3,L3,rfl,hO3⟩:=hO
    obtain⟨E3,k3,hvs3,_,_⟩:=hO3.locs.slice
    subst hvs3
    generalize (shortL L3).length=n3 at *
    have hat:S1.acc[(ans t).length]?=some ⟨(pc t).kind,if (pc t).isX=true then 3 else 4,(pc t).val t⟩:=by rw [hacc,<- hl1];simp
    have hal:S1.acc.length=(ans t).length+1:=by rw [hacc,<- hl1];simp
    obtain⟨bk,rfl,hbk,q0,q1,q2⟩:=hO3.accs.at_ hat
    simp only at q0 q1 q2
    unfold outV
    rw [hal]
    have hM3:=Lib.hid (hM1.out.keep (hx3.alloc (.cells #[.bool false,.slice (some ⟨bk,0,none⟩) ((ans t).length+1) c3,.slice D3 S1.nts.length d3,.slice E3 n3 k3] 30)))
    have bT3:=bT.ext (hx3.alloc (.cells #[.bool false,.slice (some ⟨bk,0,none⟩) ((ans t).length+1) c3,.slice D3 S1.nts.length d3,.slice E3 n3 k3] 30))
    have bO3:=Blk.new w3 (.cells #[.bool false,.slice (some ⟨bk,0,none⟩) ((ans t).length+1) c3,.slice D3 S1.nts.length d3,.slice E3 n3 k3] 30)
    have hx9:=(Ext.refl w3).alloc (.cells #[.bool false,.slice (some ⟨bk,0,none⟩) ((ans t).length+1) c3,.slice D3 S1.nts.length d3,.slice E3 n3 k3] 30)
    have q0:=(hx9.cell (p:=⟨bk,_,none⟩) hbk).trans q0
    have q1:=(hx9.cell (p:=⟨bk,_,none⟩) hbk).trans q1
    have q2:=(hx9.cell (p:=⟨bk,_,none⟩) hbk).trans q2
    clear hx3 hO3 hM1 bT c_T c_D c_A hI hrow hat hx9 hr1 hacc
    have hstep:=spc_cells (pc t) t X Y hend
    have hnx:=Lib.hid (hnext X Y)
    have hsp2:=Lib.hid (hsp.out.step htm fun v e=>by rw [e] at hend;cases hend)
    obtain⟨ci,hci,hci2⟩:∃ ci:Nat,(if (pc t).isX=true then (3:Int) else 4)=3+(ci:Int)/\ci=(if (pc t).isX=true then 0 else 1):=by
     cases (pc t).isX
     · exact⟨1,rfl,rfl⟩
     · exact⟨0,rfl,rfl⟩
    rw [hci] at q1
    rw [<- hci2] at hstep
    obtain⟨st,hst⟩:∃ st,(pc t).step t X Y=st:=⟨_,rfl⟩
    obtain⟨X',Y',pq⟩:=st
    rw [hst] at hstep hnx hsp2
    simp only at hstep
    obtain⟨yv,hyv,hyc⟩:∃ yv:Int,(if (pc t).isX=true then X' else Y')=yv/\(#[Value.int .i64 X',.int .i64 Y']:Array Value)[ci]?=some (.int .i64 yv):=by
     rw [hci2]
     cases (pc t).isX
     · exact⟨Y',rfl,rfl⟩
     · exact⟨X',rfl,rfl⟩
    replace hnx:Hid (Pos (passM xa xb t) [] (ans t++[yv]) (SPc.tree 3 4 t pq) (TS0 [] []).loc):=by
     have h:=hnx.out
     simp only [hyv] at h
     exact h
    have hci1:ci<=1:=by rw [hci2];split <;> omega
    have hsph:Hid (SplOk m (putP pc t pq) X' Y'):=hsp2
    generalize (pc t).kind=kk at *
    generalize (pc t).val t=vv at *
    clear hci hci2 hsp2 hsp hst hyv hnext
    have hych:=Lib.hid hyc
    have hsth:=Lib.hid hstep
    clear hyc hstep
    have hz:(((ans t).length:Int)+1==0)=false:=by rw [beq_eq_false_iff_ne];omega
    have hw1:IntKind.i64.wrap (3+(ci:Int)-3)=ci:=by rw [show 3+(ci:Int)-3=ci from by omega];exact IntWalk.i64_in _ (by omega)
    have hc0:decide ((ci:Int)<0)=false:=by rw [decide_eq_false_iff_not];omega
    have hc1:decide ((1:Int)<(ci:Int))=false:=by rw [decide_eq_false_iff_not];omega
    generalize hb9:w3.heap.size=bo at *
    go_upto_region 18 with fail
    generalize World.alloc w3 _=V3 at *
    clear hb9
    have c_O:=bO3.cells
    go_upto_region 21 with fail
    have hxa:=(Ext.refl V3).alloc (.cells #[.int .i64 kk,.int .i64 (3+(ci:Int)),.int .i64 vv] 54)
    have bA:=Blk.new V3 (.cells #[.int .i64 kk,.int .i64 (3+(ci:Int)),.int .i64 vv] 54)
    have hM4:=Lib.hid (hM3.out.keep hxa)
    have bT4:=bT3.ext hxa
    have gA:bz<V3.heap.size/\bo<V3.heap.size:=⟨bT3.lt,bO3.lt⟩
    clear hM3 bT3 bO3 hxa c_O q0 q1 q2 hz
    generalize hb9:V3.heap.size=bA' at *
    generalize World.alloc V3 _=V4 at *
    clear hb9
    have hM5:=Lib.hid (hM4.out.keep (Ext.refl V4).drew)
    have bT5:=bT4.ext (Ext.refl V4).drew
    have bA5:=bA.ext (Ext.refl V4).drew
    clear hM4 bT4 bA
    have c_L:(World.drew V4).cell? ⟨bl,0,none⟩=some (.slice (some ⟨b,0,none⟩) 2 cr):=by
     have h:=hM5.out.kL
     rw [hOLh.out] at h
     exact h.cells 0
    have c_B:(World.drew V4).cell? ⟨b,1,none⟩=some (.int .i64 3):=by
     have h:=(hM5.out.ext.cell (p:=⟨b,1,none⟩) hb2).trans (hch.out 1 (.int .i64 xa.base) rfl)
     rw [ba3] at h
     exact h
    have c_A1:(World.drew V4).cell? ⟨bA',1,none⟩=some (.int .i64 (3+(ci:Int))):=bA5.cells 1
    refine wp_region_held_drew (S:=fun w'=>w'.cell? ⟨bl,0,none⟩=some (.slice (some ⟨b,0,none⟩) 2 cr)/\w'.cell? ⟨b,1,none⟩=some (.int .i64 3)/\w'.cell? ⟨bA',1,none⟩=some (.int .i64 (3+(ci:Int)))) rfl ⟨c_L,c_B,c_A1⟩ (fun hHeld=>?_)
    refine tkb 0 ?_
    iterate 8
     refine tkn (v:=?_) rfl (by kernel_rfl) (fun _ _ _ h=>h) (by assumption) ?_ ?_
     rotate_left
     · (intro w hSw;(try dsimp only at hSw);go_simp;try with_reducible rfl)
     try simp only [put_pack]
    refine tke ?_
    refine wpAnyH_done (by kernel_rfl) ?_ _
    go_simp
    clear c_L c_B c_A1
    generalize World.drew V4=V5 at *
    have c_A:=bA5.cells
    have c_C:∃ u,V5.cell? ⟨bc,ci,none⟩=some (.int .i64 u):=by
     rw [hM5.out.kC.cells ci]
     have:ci=0∨ci=1:=by omega
     rcases this with rfl | rfl
     · exact⟨X,rfl⟩
     · exact⟨Y,rfl⟩
    obtain⟨cu,c_C⟩:=c_C
    have hfz:V5.frozen? ⟨bc,ci,none⟩=false:=frozen_of_heap hM5.out.kC ci
    have hlt:(ci:Int)<2:=by omega
    go_upto_if 90 with fail
    go_cut [] (fun wx=>Hid (SMem w2 bl bc ba bt bd OL wx pc X' Y' [(toldN pc m 0:Int),(toldN pc m 1:Int),(toldN pc m 2:Int),0] ans vs)/\Blk wx bz (.cells #[.int .i64 t] 3))
    case first =>
     rcases hsth.out with⟨hk1,e1,e2⟩ | ⟨hk2,he⟩
     · have dk:(kk==2)=false:=by rw [beq_eq_false_iff_ne];omega
       go_wp2_with fail
       go_meet
       exact⟨by rw [e1,e2];exact hM5,bT5⟩
     · have dk:(kk==2)=true:=by rw [beq_iff_eq];omega
       go_wp2_with fail
       go_meet
       exact⟨hM5.out.setC ci vv X' Y' he,blk_ne bT5 (by omega) _⟩
    case rest =>
    clear hM5 bT5 bA5 c_A c_C hfz hsth hw1 hc0 hc1
    obtain⟨hM6,bT6⟩:=hcut
    have c_T:=bT6.cells 0
    have c_C:wc.cell? ⟨bc,ci,none⟩=some (.int .i64 yv):=(hM6.out.kC.cells ci).trans hych.out
    have c_A:wc.cell? ⟨ba,t,none⟩=some (.slice A (ans t).length c):=(hM6.out.kA.cells t).trans hvt
    have hrow6:Hid (wc.ownsRow w2.heap.size 3 1 (.slice A (ans t).length c) (ans t).length (rowOf (ans t))):=by
     obtain⟨v',q1,q2⟩:=hM6.out.rows.row t (by omega)
     rw [hvt] at q1
     injection q1 with q1
     subst q1
     exact q2
    have hge6:w2.heap.size<=wc.heap.size:=hM6.out.ext.size
    have hvo:Hid (∀ b',b'∈[bl,bc,ba,bt,bd]->(Value.slice A (ans t).length c).ownBlock≠some b'):=fun b' hb' e=>hM6.out.rows.off t _ b' hvt e hb'
    have hvz:=hvz0.out _ hvt
    have ht8:(t:Int)<8:=by omega
    have ht0:(0:Int)<=(t:Int):=by omega
    have hci8:(ci:Int)<2:=by omega
    have hci0:(0:Int)<=(ci:Int):=by omega
    have c_Td:(World.drew wc).cell? ⟨bz,0,none⟩=some (.int .i64 t):=bT6.cells 0
    have c_Cd:(World.drew wc).cell? ⟨bc,ci,none⟩=some (.int .i64 yv):=(hM6.out.kC.cells ci).trans hych.out
    have c_Ad:(World.drew wc).cell? ⟨ba,t,none⟩=some (.slice A (ans t).length c):=(hM6.out.kA.cells t).trans hvt
    have c_Te:(wc.alloc (.cells #[.int .i64 yv] 3)).cell? ⟨bz,0,none⟩=some (.int .i64 t):=(bT6.alloc _).cells 0
    have c_Ae:(wc.alloc (.cells #[.int .i64 yv] 3)).cell? ⟨ba,t,none⟩=some (.slice A (ans t).length c):=((hM6.out.kA.alloc _).cells t).trans hvt
    obtain⟨i0,hi,hz0,hz1,hz2⟩:=info_parts info_int
    go_upto_region 26 with fail
    go_cut [] (fun wx=>∃ gg cap,Hid (SMem w2 bl bc ba bt bd OL wx pc X' Y' [(toldN pc m 0:Int),(toldN pc m 1:Int),(toldN pc m 2:Int),0] (fun s=>if s=t then ans t++[yv] else ans s) (vs.setIfInBounds t (.slice (some ⟨gg,0,none⟩) ((ans t).length+1) cap)))/\Blk wx bz (.cells #[.int .i64 t] 3))
    case first =>
     go_region_law ((refine step_append_lies _ (by rfl) _ _ _ (by rfl) w2.heap.size 3 i0 _ 1 8 Try.underlying28 hi hz0 hz1 hz2 rfl (by omega) (Value.slice A (ans t).length c) (ans t).length (rowOf (ans t)) (by rfl) ((World.ownsRow.drew hrow6.out).alloc _) ⟨wc.heap.size,0,none⟩ 1 1 [.int .i64 yv] (by rfl) (by rfl) (cells_new1 wc _ _) (by simp [Value.oneCell']) (by omega) (by unfold maxLen;omega) (by omega) (by simp;omega) (wc.heap.size+1) (by simp) ?_;intro gg cap w1' hown1 hgrow hat1 hlt1;have hp1:=grown_heap hM6.out.kA (hvo.out ba (by simp)) (grown1 hgrow);have hq1:=cell_of_heap hp1;have hf1:=frozen_of_heap hp1;have hT1:=cell_of_heap (grown_heap bT6 hvz (grown1 hgrow)) 0))
     all_goals
      have hM7:=Lib.hid (hM6.out.grow (show t<8 by omega) hvt hown1 (grown1 hgrow) (hat1.imp id (by omega)))
      have bT7:Blk w1' bz (.cells #[.int .i64 t] 3):=grown_heap bT6 hvz (grown1 hgrow)
      have bT8:=Lib.hid (blk_ne (b':=ba) (i:=t) bT7 (by omega) (.slice (some ⟨gg,0,none⟩) ((ans t).length+1) cap))
      clear hown1 hgrow hat1 hlt1 hp1 hq1 hf1 hT1 bT7 hi hz0 hz1 hz2
      go_wp2_with fail
      go_meet
      exact⟨gg,cap,hM7,bT8.out⟩
    case rest =>
    clear hM6 bT6 c_T c_C c_A c_Td c_Cd c_Ad c_Te c_Ae hrow6 hge6 hvo hvz hi hz0 hz1 hz2
    obtain⟨gg,cap,hM8,bT8⟩:=hcut
    obtain⟨ans2,ha2⟩:∃ f:Nat->List Int,f=(fun s=>if s=t then ans t++[yv] else ans s):=⟨_,rfl⟩
    obtain⟨vs2,hv2⟩:∃ v,v=vs.setIfInBounds t (.slice (some ⟨gg,0,none⟩) ((ans t).length+1) cap):=⟨_,rfl⟩
    rw [<- ha2,<- hv2] at hM8
    have h2t:ans2 t=ans t++[yv]:=by rw [ha2];exact if_pos rfl
    have h2s:∀ s,s≠t->ans2 s=ans s:=fun s hs=>by rw [ha2];exact if_neg hs
    have h2l:(ans2 t).length<=j+1:=by rw [h2t];simp;omega
    have hnx2:Hid (Pos (passM xa xb t) [] (ans2 t) (SPc.tree 3 4 t pq) (TS0 [] []).loc):=by rw [h2t];exact hnx.out
    have h2sh:=Lib.hid h2s
    clear ha2 hv2 h2t h2s hnx
    obtain⟨A2,c2,hvt2,hI2,hrow2⟩:=hM8.out.rows.ints (show t<8 by omega)
    have c_T:wc.cell? ⟨bz,0,none⟩=some (.int .i64 t):=bT8.cells 0
    have c_A:wc.cell? ⟨ba,t,none⟩=some (.slice A2 (ans2 t).length c2):=(hM8.out.kA.cells t).trans hvt2
    have hPl:=play_int 25 #[.pointer (some ⟨bl,0,none⟩),.pointer (some ⟨bz,0,none⟩)] (passM xa xb t) none 0 [] A2 c2 (ans2 t) wc (Ints.nil _) (by simp) hI2 (by unfold maxAns;omega) (fun k hk=>(own_ge hrow2 hk).2) (fun _ _=>rfl) (fun W p hxW hP=>splcl2 _ p _ xa xb t b cr bl bz W hP (regsP hb2 hch.out (hM8.out.ext.trans hxW) hP hM8.out.ext.size) oka okb (by omega) (by omega) (by have h:=hM8.out.kL.ext hxW;rw [hOLh.out] at h;exact h.cells 0) ((bT8.ext hxW).cells 0))
    clear hI2 hrow2 hvt2
    cases hpe:pq.ended with
    | false =>
      obtain⟨⟨S2,l2,hr2,hy1,hy2⟩,hy3⟩:=spc_asks hnx2.out hpe
      clear hy1 hy2 hy3
      rw [hr2] at hPl
      simp only [Option.getD_none,Option.isSome_none] at hPl
      go_wp2_with fail
      refine hPl.mono ?_
      clear hPl
      rintro e w4 ⟨v4,rfl,hO4,hx4⟩
      obtain⟨A4,c4,D4,d4,E4,k4,n4,rfl⟩:=hO4.parts
      have hM9:=Lib.hid (hM8.out.keep (hx4.alloc (.cells #[.bool false,.slice A4 S2.acc.length c4,.slice D4 S2.nts.length d4,.slice E4 n4 k4] 30)))
      have bO4:=Blk.new w4 (.cells #[.bool false,.slice A4 S2.acc.length c4,.slice D4 S2.nts.length d4,.slice E4 n4 k4] 30)
      clear hM8 bT8 c_T c_A hx4 hO4 hr2
      generalize hb9:w4.heap.size=bp at *
      go_upto_region 28 with fail
      generalize World.alloc w4 _=V6 at *
      clear hb9
      have c_P:=bO4.cells
      have en:endedN (putP pc t pq) m=endedN pc m:=cnt_same m fun s _=>by
       by_cases e:s=t
       · subst e;rw [putP_self,hpe,hend]
       · rw [putP_ne e]
      have tn:∀ v,toldN (putP pc t pq) m v=toldN pc m v:=fun v=>cnt_same m fun s _=>by
       by_cases e:s=t
       · subst e
         rw [putP_self]
         have h1:pq≠.e v:=fun e=>by rw [e] at hpe;cases hpe
         have h2:pc s≠.e v:=fun e=>by rw [e] at hend;cases hend
         simp [h1,h2]
       · rw [putP_ne e]
      have hM10:Hid (SMem w2 bl bc ba bt bd OL V6 (putP pc t pq) X' Y' [(toldN (putP pc t pq) m 0:Int),(toldN (putP pc t pq) m 1:Int),(toldN (putP pc t pq) m 2:Int),0] ans2 vs2):=by
       rw [tn,tn,tn]
       exact hM9.out.goes (hpe.trans hend.symm)
      have hpos2:Hid (∀ s,s<m->Pos (passM xa xb s) [] (ans2 s) (SPc.tree 3 4 s (putP pc t pq s)) (TS0 [] []).loc/\(ans2 s).length<=j+1):=fun s hs=>by
       by_cases e:s=t
       · subst e
         rw [putP_self]
         exact⟨hnx2.out,h2l⟩
       · rw [h2sh.out s e,putP_ne e]
         exact⟨(hpos.out s hs).1,by have:=(hpos.out s hs).2;omega⟩
      clear hM9 tn bO4
      go_wp2_with fail
      refine⟨⟨j+1,putP pc t pq,X',Y',_,_,by rw [en],by first | rfl | go_num,by omega,hsph,hpos2,hM10⟩,?_⟩
      simp [intOf]
      omega
    | true =>
      obtain⟨v,rfl⟩:∃ v,pq=.e v:=by
       cases pq with
       | e v=>exact⟨v,rfl⟩
       | a=>cases hpe
       | b=>cases hpe
       | c=>cases hpe
       | d=>cases hpe
      obtain⟨S2,hr2,hy1,hy2⟩:=Pos.done (show Pos (passM xa xb t) [] (ans2 t) (.ret v) _ from hnx2.out)
      clear hy1 hy2
      rw [hr2] at hPl
      simp only [Option.getD_some,Option.isSome_some] at hPl
      go_wp2_with fail
      refine hPl.mono ?_
      clear hPl
      rintro e w4 ⟨v4,rfl,hO4,hx4⟩
      obtain⟨A4,c4,D4,d4,E4,k4,n4,rfl⟩:=hO4.parts
      have hM9:=Lib.hid (hM8.out.keep (hx4.alloc (.cells #[.bool true,.slice A4 S2.acc.length c4,.slice D4 S2.nts.length d4,.slice E4 n4 k4] 30)))
      have bO4:=Blk.new w4 (.cells #[.bool true,.slice A4 S2.acc.length c4,.slice D4 S2.nts.length d4,.slice E4 n4 k4] 30)
      have bT9:=bT8.ext (hx4.alloc (.cells #[.bool true,.slice A4 S2.acc.length c4,.slice D4 S2.nts.length d4,.slice E4 n4 k4] 30))
      clear hM8 bT8 c_T c_A hx4 hO4 hr2
      generalize hb9:w4.heap.size=bp at *
      go_upto_region 28 with fail
      generalize World.alloc w4 _=V6 at *
      clear hb9
      have c_P:=bO4.cells
      have c_T:=bT9.cells 0
      have hv3:v=0∨v=1∨v=2:=hsph.out.i6 t v htm (putP_self _ _ _)
      have en:endedN (putP pc t (.e v)) m=endedN pc m+1:=cnt_more m htm hend (by rw [putP_self];rfl) fun s _ hs=>by rw [putP_ne hs]
      have tn1:toldN (putP pc t (.e v)) m v=toldN pc m v+1:=cnt_more m htm (by simp only [decide_eq_false_iff_not];exact fun e=>by rw [e] at hend;cases hend) (by rw [putP_self];simp) fun s _ hs=>by rw [putP_ne hs]
      have tn2:∀ u,u≠v->toldN (putP pc t (.e v)) m u=toldN pc m u:=fun u hu=>cnt_same m fun s _=>by
       by_cases e:s=t
       · subst e
         rw [putP_self]
         have h2:pc s≠.e u:=fun e=>by rw [e] at hend;cases hend
         have h1:SPc.e v≠.e u:=fun e=>hu (by injection e with e;exact e.symm)
         simp [h1,h2]
       · rw [putP_ne e]
      have b0:toldN pc m 0<=m:=cnt_le _ _
      have b1:toldN pc m 1<=m:=cnt_le _ _
      have b2:toldN pc m 2<=m:=cnt_le _ _
      have be:endedN pc m<=m:=cnt_le _ _
      have hwe:=IntWalk.i64_in ((endedN pc m:Int)+1) (by omega)
      have hw0:=IntWalk.i64_in ((toldN pc m 0:Int)+1) (by omega)
      have hw1:=IntWalk.i64_in ((toldN pc m 1:Int)+1) (by omega)
      have hw2:=IntWalk.i64_in ((toldN pc m 2:Int)+1) (by omega)
      have hM10:=hM9.out.setD (show t<8 by omega) (.e v)
      have c_D:V6.cell? ⟨bd,t,none⟩=some (.bool (pc t).ended):=by
       rw [hM9.out.kD.cells t]
       exact bools_at (by omega)
      have hfD:V6.frozen? ⟨bd,t,none⟩=false:=frozen_of_heap hM9.out.kD t
      have hpos2:Hid (∀ s,s<m->Pos (passM xa xb s) [] (ans2 s) (SPc.tree 3 4 s (putP pc t (.e v) s)) (TS0 [] []).loc/\(ans2 s).length<=j+1):=fun s hs=>by
       by_cases e:s=t
       · subst e
         rw [putP_self]
         exact⟨hnx2.out,h2l⟩
       · rw [h2sh.out s e,putP_ne e]
         exact⟨(hpos.out s hs).1,by have:=(hpos.out s hs).2;omega⟩
      have ht8:(t:Int)<8:=by omega
      have hM10h:=Lib.hid hM10
      clear hM9 hM10 bO4 bT9
      rcases hv3 with rfl | rfl | rfl
      · go_upto_region 32 with fail
        have hM11:=hM10h.out.setT 0 ((toldN pc m 0:Int)+1)
        have c_Q:(V6.setCell ⟨bd,t,none⟩ (.bool true)).cell? ⟨bt,0,none⟩=some (.int .i64 (toldN pc m 0)):=(hM10h.out.kT.cells 0).trans rfl
        have hfQ:(V6.setCell ⟨bd,t,none⟩ (.bool true)).frozen? ⟨bt,0,none⟩=false:=frozen_of_heap hM10h.out.kT 0
        have hM12:Hid (SMem w2 bl bc ba bt bd OL ((V6.setCell ⟨bd,t,none⟩ (.bool true)).setCell ⟨bt,0,none⟩ (.int .i64 ((toldN pc m 0:Int)+1))) (putP pc t (.e 0)) X' Y' [(toldN (putP pc t (.e 0)) m 0:Int),(toldN (putP pc t (.e 0)) m 1:Int),(toldN (putP pc t (.e 0)) m 2:Int),0] ans2 vs2):=by
         rw [tn1,tn2 1 (by decide),tn2 2 (by decide)]
         exact hM11
        clear hM11 hM10h tn1 tn2
        go_wp2_with fail
        refine⟨⟨j+1,putP pc t (.e 0),X',Y',_,_,by rw [en];first | rfl | go_num,by first | rfl | go_num,by omega,hsph,hpos2,hM12⟩,?_⟩
        simp [intOf]
        omega
      · go_upto_region 32 with fail
        have hM11:=hM10h.out.setT 1 ((toldN pc m 1:Int)+1)
        have c_Q:(V6.setCell ⟨bd,t,none⟩ (.bool true)).cell? ⟨bt,1,none⟩=some (.int .i64 (toldN pc m 1)):=(hM10h.out.kT.cells 1).trans rfl
        have hfQ:(V6.setCell ⟨bd,t,none⟩ (.bool true)).frozen? ⟨bt,1,none⟩=false:=frozen_of_heap hM10h.out.kT 1
        have hM12:Hid (SMem w2 bl bc ba bt bd OL ((V6.setCell ⟨bd,t,none⟩ (.bool true)).setCell ⟨bt,1,none⟩ (.int .i64 ((toldN pc m 1:Int)+1))) (putP pc t (.e 1)) X' Y' [(toldN (putP pc t (.e 1)) m 0:Int),(toldN (putP pc t (.e 1)) m 1:Int),(toldN (putP pc t (.e 1)) m 2:Int),0] ans2 vs2):=by
         rw [tn1,tn2 0 (by decide),tn2 2 (by decide)]
         exact hM11
        clear hM11 hM10h tn1 tn2
        go_wp2_with fail
        refine⟨⟨j+1,putP pc t (.e 1),X',Y',_,_,by rw [en];first | rfl | go_num,by first | rfl | go_num,by omega,hsph,hpos2,hM12⟩,?_⟩
        simp [intOf]
        omega
      · go_upto_region 32 with fail
        have hM11:=hM10h.out.setT 2 ((toldN pc m 2:Int)+1)
        have c_Q:(V6.setCell ⟨bd,t,none⟩ (.bool true)).cell? ⟨bt,2,none⟩=some (.int .i64 (toldN pc m 2)):=(hM10h.out.kT.cells 2).trans rfl
        have hfQ:(V6.setCell ⟨bd,t,none⟩ (.bool true)).frozen? ⟨bt,2,none⟩=false:=frozen_of_heap hM10h.out.kT 2
        have hM12:Hid (SMem w2 bl bc ba bt bd OL ((V6.setCell ⟨bd,t,none⟩ (.bool true)).setCell ⟨bt,2,none⟩ (.int .i64 ((toldN pc m 2:Int)+1))) (putP pc t (.e 2)) X' Y' [(toldN (putP pc t (.e 2)) m 0:Int),(toldN (putP pc t (.e 2)) m 1:Int),(toldN (putP pc t (.e 2)) m 2:Int),0] ans2 vs2):=by
         rw [tn1,tn2 0 (by decide),tn2 1 (by decide)]
         exact hM11
        clear hM11 hM10h tn1 tn2
        go_wp2_with fail
        refine⟨⟨j+1,putP pc t (.e 2),X',Y',_,_,by rw [en];first | rfl | go_num,by first | rfl | go_num,by omega,hsph,hpos2,hM12⟩,?_⟩
        simp [intOf]
        omega
end Go.Proofs.Ytbphlkaihfbgeaa
namespace Go.Proofs.Ytbphlkaihfbgeaa.splitterSplits
open Go.ChangeShapes Go.WideShapes Go.ChangeAt Go.RowKit Kv
set_option maxRecDepth 100000 in
theorem main (H:Type)(enc:TypeId × Value->H)(W:World)(base:Nat)(args:Array Value)(ds:List (DataW H))(p:List MemPlace)
  (hval:∀ (j:Nat) t v,Try.f4.params[j]?=some t->args[j]?=some v->Value.okWide Try.prog W .any base t v)
  (hA:DataW.TrodAll enc Try.prog W 0 (fun _=>true) true Try.f4.params.toList args.toList ds p)(_hL:laidMetH Try.prog Rows.splitterSplitsRow.laid W) :
  Calls Try.prog 4 args W fun e w'=>e=.returned (.bool true)/\Ext W w':=by
 rw [Try.params4] at hA hval
 obtain⟨v0,vs0,d0,ds0,p0,q0,hargs,rfl,rfl,h0,r0⟩:=trodAll_cons hA
 obtain⟨v1,vs1,d1,ds1,p1,q1,rfl,rfl,rfl,h1,r1⟩:=trodAll_cons r0
 obtain⟨rfl,rfl,rfl⟩:=trodAll_nil r1
 obtain rfl:args=#[v0,v1]:=by cases args;simp_all
 obtain⟨s,rfl,rfl,rfl,ws⟩:=open_int Try.underlying5 (hval 0 5 v0 rfl rfl) h0
 have hs:=bounds_u8 ws
 obtain⟨La,hLa,hLb⟩:=bytes_arg (hval 1 43 v1 rfl rfl) h1
 obtain⟨n,rfl⟩:∃ n:Nat,s=(n:Int):=⟨s.toNat,by omega⟩
 exact spl_walk n v1 La W (by omega) hLa hLb
end Go.Proofs.Ytbphlkaihfbgeaa.splitterSplits
namespace Go.Proofs.Ytbphlkaihfbgeaa.splitterSplits
open Go.ChangeShapes Go.WideShapes Go.ChangeAt Go.RowKit
theorem laidOut:laidOutB Try.prog=true:=by kernel_rfl
set_option maxRecDepth 100000 in
theorem contract (H:Type)(enc:TypeId × Value->H)(W:World)(base:Nat)(args:Array Value)(ds gs:List (DataW H))(before:List MemPlace)
  (hval:∀ (j:Nat) t v,Try.f4.params[j]?=some t->args[j]?=some v->Value.okWide Try.prog W .any base t v)
  (hW:DataW.Whole enc Try.prog Try.f4.params.toList Rows.splitterSplitsSpec.vars false W args.toList ds gs before)(hL:laidMetH Try.prog Rows.splitterSplitsRow.laid W) :
  Calls Try.prog 4 args W fun e W'=>∃ v,e=.returned v/\Rows.splitterSplitsSpec.post enc Try.prog Try.f4 false true false false W args v W':=by
 refine (main H enc W base args ds before hval (by obtain⟨p,q,hA,hV,hpq,_,_⟩:=hW;obtain⟨_,rfl⟩:=trodVars_none hV;rw [List.append_nil] at hpq;subst hpq;exact hA) hL).mono fun e W' ⟨he,hg⟩=>⟨_,he,?_⟩
 refine law_post (tb:=4) laidOut ?_ (by kernel_rfl) Try.underlying4 rfl ?_ hW hg
 · rw [Try.params4]
   intro t ht
   simp only [List.mem_cons,List.not_mem_nil,or_false] at ht
   rcases ht with rfl | rfl <;> exact⟨by kernel_rfl,of_decide_eq_true (by kernel_rfl)⟩
 · intro ds hl
   rw [Try.params4] at hl
   match ds,hl with
   | [d0,d1],_=>rfl
set_option maxRecDepth 100000 in
theorem laid_met (os:Os):laidMet Try.prog Rows.splitterSplitsRow.laid (((World.holding Try.prog os ⟨#[],#[],[]⟩)).forCall (fun _ _=>0) ⟨#[],#[.int .u8 0,.slice none 0 0],[]⟩).memory :=
 laidMet_of_run' 8 (by kernel_rfl) (by kernel_rfl)
set_option maxRecDepth 100000 in
theorem reads (os:Os){H:Type}(enc:TypeId × Value->H):∃ places,DataW.whole enc Try.prog (((World.holding Try.prog os ⟨#[],#[],[]⟩)).forCall (fun _ _=>0) ⟨#[],#[.int .u8 0,.slice none 0 0],[]⟩).memory Try.f4.params.toList Rows.splitterSplitsSpec.vars false (#[.int .u8 0,.slice none 0 0]:Array Value).toList 8=some ([.lit (.int .u8 0),.nil],[],places) :=
 ⟨[],by kernel_rfl⟩
set_option maxRecDepth 100000 in
theorem lifted (os:Os)(started:os.Started)(H:Type)(enc:TypeId × Value->H)(F:Stop.Interp) :
  ReturnsInHanded {} Try.checked os 4 .any ((OpenSpec.ofChange Rows.splitterSplitsSpec).preRow enc Try.prog Try.f4 Rows.splitterSplitsRow.domain false Rows.splitterSplitsRow.laid) (((OpenSpec.ofChange Rows.splitterSplitsSpec).at F).post enc Try.prog Try.f4 false true false false):=by
 obtain⟨places,hx⟩:=reads os enc
 refine returnsInHanded_of_row (C:=Try.checked) (s:=(OpenSpec.ofChange Rows.splitterSplitsSpec)) own started (by kernel_rfl) Try.func4
  (witness_row_at (enc:=enc) (C:=Try.checked) false (World.holding Try.prog os ⟨#[],#[],[]⟩) #[.int .u8 0,.slice none 0 0] rfl (by kernel_rfl) (by kernel_rfl) (by kernel_rfl)
    (OpenSpec.preRow_of_cond 8 hx (by kernel_rfl) (fun k hk=>by cases hk) (by kernel_rfl) (laid_met os))) ?_
 intro W base args ds gs before hval hW _ _ _ hL _ _
 exact contract H enc W base args ds gs before hval hW hL
theorem c1:(Rows.splitterSplitsRow.inPlace==Try.pinned.checked.prog.inPlace 4)=true:=by kernel_rfl
theorem c2:(Rows.splitterSplitsRow.unfollowed==Try.pinned.checked.prog.unfollowed 4)=true:=by kernel_rfl
theorem c3:(Rows.splitterSplitsRow.recurses==Try.pinned.checked.prog.recurses 4)=true:=by kernel_rfl
theorem c4:(Rows.splitterSplitsRow.named==Try.pinned.checked.prog.varsNamed 4)=true:=by kernel_rfl
theorem closed:joinedFacts Try.pinned.checked.prog 4 Try.f4 (OpenSpec.ofChange Rows.splitterSplitsSpec).bare Rows.splitterSplitsRow=true:=by
 unfold joinedFacts
 simp only [Bool.and_eq_true]
 repeat' refine And.intro ?_ ?_
 all_goals first | with_reducible exact c1 | with_reducible exact c2 | with_reducible exact c3 | with_reducible exact c4 | kernel_rfl
theorem said:Rows.SplitterSplitsSaid :=
 OpenClaim.holds_of_cond 4 Try.f4 rfl rfl rfl rfl rfl rfl rfl ⟨rfl,rfl,rfl,rfl,rfl⟩ rfl rfl rfl rfl rfl (by kernel_rfl) Try.func4 closed
  (of_decide_eq_true (by kernel_rfl)) (by unfold Func.isWrapper;first | (rw [if_pos (by decide +kernel)];kernel_rfl) | (rw [if_neg (by decide +kernel)];exact⟨rfl,rfl⟩))
  (fun os started H enc _ F=>by rw [OpenClaim.pre_eq_preRow];exact lifted os started H enc F)
end Go.Proofs.Ytbphlkaihfbgeaa.splitterSplits
