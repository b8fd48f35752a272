/-
  Part DisputeAnyOrder 9 of the texts that the statement's proof stands on: what memory holds, how code is walked, what the functions reckon. In the order in which they build.
-/
import Derived.Shelf.Spec.SlicesGrow
import Derived.Test.YtgioiejbphljoaaGreatDoorEbDisputeAnyOrder8
open List (mem_append mem_cons mem_map mem_of_getElem? mem_singleton toArray)
open Nat (blt)
open Go.Proofs.Tryz
set_option linter.unusedVariables false
set_option linter.unusedSectionVars false
set_option maxRecDepth 20000
set_option maxHeartbeats 4000000
noncomputable section
namespace Go.Proofs.YtgioiejbphljoaaGreatDoor
open Go Go.Sx Go.Rx Go.RowKit
def rawE:Enc Value:=⟨1,Nat.one_pos,fun _ _ cs x=>cs=[x]/\x.oneCell'=true,fun h=>by rw[h.1];rfl,fun _ h=>h,fun _ h=>h,fun h u hu=>by rw[h.1]at hu;rw[mem_singleton.1 hu];exact h.2⟩
abbrev K3:Ky prog 3 Int:=X0 .i64 underlying3
def AGU(x:Answer):List Value:=[.int .i64 x.id,.int .i64 x.dispute,.int .i64 x.day,.int .u8 x.says,.int .i64 x.about,.int .i64 x.cents]
def InA(x:Answer):Prop:=InK .i64 x.id/\InK .i64 x.dispute/\InK .i64 x.day/\InK .u8 x.says/\InK .i64 x.about/\InK .i64 x.cents
theorem AaG{M:List Nat}{w:World}{x:Answer}(h:InA x):AnswerE.R M w (AGU x) x:=AnswerE_R.2 ⟨rfl,h⟩
noncomputable def r70:Code:=match f70.body with
 |some (.seq _ (.seq _ (.seq _ (.seq _ (.seq (.seq _ (.block _ (.loop (.seq _ (.seq _ (.seq (.block _ (.seq _ r)) _)))))) _)))))=>r
 |_=>.skip
def o70:List Oper:=match r70 with
 |.region _ l _=>l.toList
 |_=>[]
def APH:List Nat:=[51,52,53,54,55,56,57,58,59,60,61,62]
def HA(w0 w:World)(M:List Nat)(σ σ':List Res)(W:World):Prop:=Hp w0 [] M σ' W/\Adv (mm σ M) (mm σ' M) w W
structure J70(w0 w1:World)(M:List Nat)(σ:List Res)(i jm b4 b11 bm:Nat)(v:Value)(l:List Answer)(a:Answer)(g:A4 Int Value)(L0:A8)(D:Nat->Bool)(L:A8)(W:World):Prop where
 base:∀t,t∉APH->Sx.A6 L t=Sx.A6 L0 t
 f0:D 0=true->Sx.A6 L 51=some (.pointer (some ⟨b4,7,none⟩))
 f1:D 1=true->Sx.A6 L 52=some (.map (some bm))
 f2:D 2=true->Sx.A6 L 53=some (.pointer (some ⟨b11,1,none⟩))
 f3:D 3=true->Sx.A6 L 54=some (.int .i64 a.dispute)
 f4:D 4=true->Sx.A6 L 55=some (.pointer (some ⟨b4,7,none⟩))
 f5:D 5=true->Sx.A6 L 56=some (.map (some bm))
 f6:D 6=true->Sx.A6 L 57=some (.pointer (some ⟨b11,1,none⟩))
 f7:D 7=true->Sx.A6 L 58=some (.int .i64 a.dispute)
 f8:D 8=true->Sx.A6 L 59=some v
 f9:D 9=true->Sx.A6 L 60=some (.agg (toArray (AGU a)))
 r10:D 10=true->D 9=true
 r11:D 11=true->D 8=true/\D 9=true/\D 10=true
 r12:D 12=true->∀j,j<12->D j=true
 p0:D 11=false->HA w0 w1 M σ σ W
 p1:D 10=true->D 11=false->∃vb,Sx.A6 L 61=some vb/\RdS AnswerE (mm σ M) W vb [a]
 p2:D 11=true->D 12=false->∃v',Sx.A6 L 62=some v'/\v'.oneCell'=true/\HA w0 w1 M σ (σ.set i (ownR [] AnswerE 60 v' (l++[a]))) W
 p3:D 12=true->∃v',HA w0 w1 M σ ((σ.set i (ownR [] AnswerE 60 v' (l++[a]))).set jm (mapO K3 rawE false bm (B4 g a.dispute v'))) W
theorem API{w0:World}{M:List Nat}{σ:List Res}{w:World}{L:A8}{i jm j4 j11 b4 b11 bm:Nat}{v:Value}{l:List Answer}{a:Answer}{g:A4 Int Value}{cs4:List Value}{A B:A5}{X:Nat->A5}{Z:List PanicEntry->A5}(x:Hp w0 [] M σ w)(hi:σ[i]?=some (ownR [] AnswerE 60 v l))(hm:σ[jm]?=some (mapO K3 rawE false bm g))(u:σ[j4]?=some (rowR 99 b4 cs4))(P:cs4[7]?=some (.map (some bm)))(c:σ[j11]?=some (rowR 60 b11 (AGU a)))(R:InA a)(hv:(g a.dispute).getD (.slice none 0 0)=v)(d1:i≠jm)(d2:i≠j4)(d3:i≠j11)(Y:(l.length+1)*48<=140737488355328)(l4:Sx.A6 L 4=some (.pointer (some ⟨b4,0,none⟩)))(l11:Sx.A6 L 11=some (.pointer (some ⟨b11,0,none⟩)))(hA:∀v' L' w',(∀t,t∉APH->Sx.A6 L' t=Sx.A6 L t)->HA w0 w M σ ((σ.set i (ownR [] AnswerE 60 v' (l++[a]))).set jm (mapO K3 rawE false bm (B4 g a.dispute v'))) w'->A [] L' w'):CW prog 65 r70 [] L w A B X Z:=by
 refine AGT (ops:=o70) gx_mix (by decide) (by decide) (J70 w0 w M σ i jm b4 b11 bm v l a g L) ?_ (AIG (by decide)) ?_ ?_
 . exact⟨fun _ _=>rfl,(fun h=>by cases h),(fun h=>by cases h),(fun h=>by cases h),(fun h=>by cases h),(fun h=>by cases h),(fun h=>by cases h),(fun h=>by cases h),(fun h=>by cases h),(fun h=>by cases h),(fun h=>by cases h),(fun h=>by cases h),(fun h=>by cases h),(fun h=>by cases h),(fun _=>⟨x.ext (Kp.drew _ _),Adv.of_ext (Kp.drew _ _)⟩),(fun h=>by cases h),(fun h=>by cases h),(fun h=>by cases h)⟩
 . intro D L' W k o H hk U I;have common:k<12->D 12=false/\Row 99 W b4 cs4/\Row 60 W b11 (AGU a):=fun q=>by
    have J:D 12=false:=by
     cases S:D 12 with
     |false=>rfl
     |true=>rw[H.r12 S k q]at hk;cases hk
    cases T:D 11 with
    |false=>exact⟨J,(H.p0 T).1.row j4 u,(H.p0 T).1.row j11 c⟩
    |true=>
     obtain⟨v',_,_,N⟩:=H.p2 T J
     exact⟨J,N.1.row j4 (by rw[Aby d2];exact u),N.1.row j11 (by rw[Aby d3];exact c)⟩
   match k,hk,U,I,common with
   |0,hk,U,I,common=>
    obtain⟨J,row4,row11⟩:=common (by decide)
    clear common
    have U:=AbA (show some _=some o from U)
    subst U
    refine M7 ((H.base 4 (by decide)).trans l4) underlying99 rfl sizeOf97 rfl ?_
    exact Reg.nil ⟨rfl,fun t V=>(by rw[look_cons,if_neg (fun e=>V (by subst e;decide))];exact H.base t V),fun _=>rfl,H.f1,H.f2,H.f3,H.f4,H.f5,H.f6,H.f7,H.f8,H.f9,H.r10,H.r11,fun h j C=>by rw[H.r12 h j C,Bool.or_true],H.p0,H.p1,H.p2,H.p3⟩
   |1,hk,U,I,common=>
    obtain⟨J,row4,row11⟩:=common (by decide)
    clear common
    have U:=AbA (show some _=some o from U)
    subst U
    refine K4 (H.f0 (I _ (AbB (i:=0) rfl) rfl)) (row4.rd.cells.at 7 P) isAgg97 rfl ?_
    exact Reg.nil ⟨rfl,fun t V=>(by rw[look_cons,if_neg (fun e=>V (by subst e;decide))];exact H.base t V),H.f0,fun _=>rfl,H.f2,H.f3,H.f4,H.f5,H.f6,H.f7,H.f8,H.f9,H.r10,H.r11,fun h j C=>by rw[H.r12 h j C,Bool.or_true],H.p0,H.p1,H.p2,H.p3⟩
   |2,hk,U,I,common=>
    obtain⟨J,row4,row11⟩:=common (by decide)
    clear common
    have U:=AbA (show some _=some o from U)
    subst U
    refine M7 ((H.base 11 (by decide)).trans l11) underlying60 rfl sizeOf3 rfl ?_
    exact Reg.nil ⟨rfl,fun t V=>(by rw[look_cons,if_neg (fun e=>V (by subst e;decide))];exact H.base t V),H.f0,H.f1,fun _=>rfl,H.f3,H.f4,H.f5,H.f6,H.f7,H.f8,H.f9,H.r10,H.r11,fun h j C=>by rw[H.r12 h j C,Bool.or_true],H.p0,H.p1,H.p2,H.p3⟩
   |3,hk,U,I,common=>
    obtain⟨J,row4,row11⟩:=common (by decide)
    clear common
    have U:=AbA (show some _=some o from U)
    subst U
    refine K4 (H.f2 (I _ (AbB (i:=0) rfl) rfl)) (row11.rd.cells.at 1 rfl) isAgg3 rfl ?_
    exact Reg.nil ⟨rfl,fun t V=>(by rw[look_cons,if_neg (fun e=>V (by subst e;decide))];exact H.base t V),H.f0,H.f1,H.f2,fun _=>rfl,H.f4,H.f5,H.f6,H.f7,H.f8,H.f9,H.r10,H.r11,fun h j C=>by rw[H.r12 h j C,Bool.or_true],H.p0,H.p1,H.p2,H.p3⟩
   |4,hk,U,I,common=>
    obtain⟨J,row4,row11⟩:=common (by decide)
    clear common
    have U:=AbA (show some _=some o from U)
    subst U
    refine M7 ((H.base 4 (by decide)).trans l4) underlying99 rfl sizeOf97 rfl ?_
    exact Reg.nil ⟨rfl,fun t V=>(by rw[look_cons,if_neg (fun e=>V (by subst e;decide))];exact H.base t V),H.f0,H.f1,H.f2,H.f3,fun _=>rfl,H.f5,H.f6,H.f7,H.f8,H.f9,H.r10,H.r11,fun h j C=>by rw[H.r12 h j C,Bool.or_true],H.p0,H.p1,H.p2,H.p3⟩
   |5,hk,U,I,common=>
    obtain⟨J,row4,row11⟩:=common (by decide)
    clear common
    have U:=AbA (show some _=some o from U)
    subst U
    refine K4 (H.f4 (I _ (AbB (i:=0) rfl) rfl)) (row4.rd.cells.at 7 P) isAgg97 rfl ?_
    exact Reg.nil ⟨rfl,fun t V=>(by rw[look_cons,if_neg (fun e=>V (by subst e;decide))];exact H.base t V),H.f0,H.f1,H.f2,H.f3,H.f4,fun _=>rfl,H.f6,H.f7,H.f8,H.f9,H.r10,H.r11,fun h j C=>by rw[H.r12 h j C,Bool.or_true],H.p0,H.p1,H.p2,H.p3⟩
   |6,hk,U,I,common=>
    obtain⟨J,row4,row11⟩:=common (by decide)
    clear common
    have U:=AbA (show some _=some o from U)
    subst U
    refine M7 ((H.base 11 (by decide)).trans l11) underlying60 rfl sizeOf3 rfl ?_
    exact Reg.nil ⟨rfl,fun t V=>(by rw[look_cons,if_neg (fun e=>V (by subst e;decide))];exact H.base t V),H.f0,H.f1,H.f2,H.f3,H.f4,H.f5,fun _=>rfl,H.f7,H.f8,H.f9,H.r10,H.r11,fun h j C=>by rw[H.r12 h j C,Bool.or_true],H.p0,H.p1,H.p2,H.p3⟩
   |7,hk,U,I,common=>
    obtain⟨J,row4,row11⟩:=common (by decide)
    clear common
    have U:=AbA (show some _=some o from U)
    subst U
    refine K4 (H.f6 (I _ (AbB (i:=0) rfl) rfl)) (row11.rd.cells.at 1 rfl) isAgg3 rfl ?_
    exact Reg.nil ⟨rfl,fun t V=>(by rw[look_cons,if_neg (fun e=>V (by subst e;decide))];exact H.base t V),H.f0,H.f1,H.f2,H.f3,H.f4,H.f5,H.f6,fun _=>rfl,H.f8,H.f9,H.r10,H.r11,fun h j C=>by rw[H.r12 h j C,Bool.or_true],H.p0,H.p1,H.p2,H.p3⟩
   |8,hk,U,I,common=>
    obtain⟨J,row4,row11⟩:=common (by decide)
    clear common
    have U:=AbA (show some _=some o from U)
    subst U
    have F:D 11=false:=by
     cases S:D 11 with
     |false=>rfl
     |true=>rw[(H.r11 S).1]at hk;cases hk
    refine APm jm (H.p0 F).1 hm (H.f5 (I _ (AbB (i:=0) rfl) rfl)) (H.f7 (I _ (AbB (i:=1) rfl) rfl)) R.2.1 underlying97 zeroValue26 (z0:=.slice none 0 0) ⟨[_],⟨rfl,rfl⟩,.inr ⟨rfl,rfl⟩⟩ rfl fun v9 m=>?_
    have e9:v9=v:=by
     obtain⟨cs,⟨y,_⟩,⟨d,_⟩|⟨_,d⟩⟩:=m
     . cases d
     . rw[y]at d;rw[<-hv];exact(List.singleton_inj.1 d).symm
    subst e9
    exact Reg.nil ⟨rfl,fun t V=>(by rw[look_cons,if_neg (fun e=>V (by subst e;decide))];exact H.base t V),H.f0,H.f1,H.f2,H.f3,H.f4,H.f5,H.f6,H.f7,fun _=>rfl,H.f9,H.r10,fun h=>⟨rfl,(H.r11 h).2⟩,fun h j C=>by rw[H.r12 h j C,Bool.or_true],H.p0,H.p1,H.p2,H.p3⟩
   |9,hk,U,I,common=>
    obtain⟨J,row4,row11⟩:=common (by decide)
    clear common
    have U:=AbA (show some _=some o from U)
    subst U
    refine Z1 ((H.base 11 (by decide)).trans l11) row11.rd.cells isAgg60 rfl sizeOf60 rfl ?_
    exact Reg.nil ⟨rfl,fun t V=>(by rw[look_cons,if_neg (fun e=>V (by subst e;decide))];exact H.base t V),H.f0,H.f1,H.f2,H.f3,H.f4,H.f5,H.f6,H.f7,H.f8,fun _=>rfl,fun _=>rfl,fun h=>⟨(H.r11 h).1,rfl,(H.r11 h).2.2⟩,fun h j C=>by rw[H.r12 h j C,Bool.or_true],H.p0,H.p1,H.p2,H.p3⟩
   |10,hk,U,I,common=>
    obtain⟨J,row4,row11⟩:=common (by decide)
    clear common
    have U:=AbA (show some _=some o from U)
    subst U
    have F:D 11=false:=by
     cases S:D 11 with
     |false=>rfl
     |true=>rw[(H.r11 S).2.2]at hk;cases hk
    refine AEJ (E:=AnswerE) (xs:=[a]) rsl26 (H.p0 F).1 rfl (show Sx.evs L' [.tmp 60]=some [_] by simp only[Sx.evs,Sx.ev,H.f9 (I _ (mem_of_getElem? (i:=0) rfl) rfl)];rfl) (Cls.cons rfl Cls.nil) (Chs.cons (AaG R) Chs.nil) rfl rfl ?_
    intro vb w' O x'
    have r:=O.freeze 0 rfl
    have s:HA w0 w M σ σ w':=⟨O.erase 0,(H.p0 F).2.trans (x'.trans (E8 (σ:=_::σ) 0))⟩
    exact Reg.nil ⟨rfl,fun t V=>(by rw[look_cons,if_neg (fun e=>V (by subst e;decide))];exact H.base t V),H.f0,H.f1,H.f2,H.f3,H.f4,H.f5,H.f6,H.f7,H.f8,H.f9,fun _=>I _ (AbB (i:=0) rfl) rfl,fun h=>⟨(H.r11 h).1,(H.r11 h).2.1,rfl⟩,fun h j C=>by rw[H.r12 h j C,Bool.or_true],fun _=>s,fun _ _=>⟨vb,rfl,r⟩,(fun h=>by rw[show D 11=true from h]at F;cases F),(fun h=>by rw[show D 12=true from h]at J;cases J)⟩
   |11,hk,U,I,common=>
    obtain⟨J,row4,row11⟩:=common (by decide)
    clear common
    have U:=AbA (show some _=some o from U)
    subst U
    have hdep9:D 9=true:=H.r10 (I _ (AbB (i:=1) rfl) rfl)
    have Q:D 11=false:=hk
    obtain⟨vb,f,p⟩:=H.p1 (I _ (AbB (i:=1) rfl) rfl) Q
    refine ADs i rsl26 (H.p0 Q).1 hi (H.f8 (I _ (AbB (i:=0) rfl) rfl)) f p ⟨Y,AbP (Ac0 _ (by decide)) Y⟩ rfl ?_
    intro v' w' O x'
    have G:=O.ownAt i (by rw[AcM (List.getElem?_eq_some_iff.1 hi).1])
    exact Reg.nil ⟨rfl,fun t V=>(by rw[look_cons,if_neg (fun e=>V (by subst e;decide))];exact H.base t V),H.f0,H.f1,H.f2,H.f3,H.f4,H.f5,H.f6,H.f7,H.f8,H.f9,H.r10,fun _=>⟨(I _ (AbB (i:=0) rfl) rfl),hdep9,(I _ (AbB (i:=1) rfl) rfl)⟩,fun h j C=>by rw[H.r12 h j C,Bool.or_true],(fun h=>by cases h),(fun _ h=>by cases h),fun _ _=>⟨v',rfl,Own.oneC G,O,(H.p0 Q).2.trans x'⟩,(fun h=>by rw[show D 12=true from h]at J;cases J)⟩
   |12,hk,U,I,common=>
    clear common
    have U:=AbA (show some _=some o from U)
    subst U
    have e0:D 0=true:=(I _ (AbB (i:=4) rfl) rfl)
    have e1:D 1=true:=(I _ (AbB (i:=5) rfl) rfl)
    have e2:D 2=true:=(I _ (AbB (i:=6) rfl) rfl)
    have e3:D 3=true:=(I _ (AbB (i:=7) rfl) rfl)
    have e4:D 4=true:=(I _ (AbB (i:=8) rfl) rfl)
    have e5:D 5=true:=(I _ (AbB (i:=9) rfl) rfl)
    have e6:D 6=true:=(I _ (AbB (i:=10) rfl) rfl)
    have e7:D 7=true:=(I _ (AbB (i:=11) rfl) rfl)
    have e8:D 8=true:=(I _ (AbB (i:=12) rfl) rfl)
    have e9:D 9=true:=(I _ (AbB (i:=13) rfl) rfl)
    have e10:D 10=true:=(I _ (AbB (i:=14) rfl) rfl)
    have e11:D 11=true:=(I _ (AbB (i:=15) rfl) rfl)
    obtain⟨v',n,G,N⟩:=H.p2 e11 hk
    refine AKp (K:=K3) (E:=rawE) (ag:=false) jm N.1 (by rw[Aby d1];exact hm) (H.f1 e1) (H.f3 e3) R.2.1 n (z:=v') ⟨[v'],⟨rfl,G⟩,.inr ⟨rfl,rfl⟩⟩ underlying97 ?_
    intro w' O x'
    refine Reg.nil ⟨rfl,H.base,H.f0,H.f1,H.f2,H.f3,H.f4,H.f5,H.f6,H.f7,H.f8,H.f9,H.r10,H.r11,fun _ j C=>?_,(fun h=>by rw[show D 11=false from h]at e11;cases e11),(fun _ h=>by rw[show D 11=false from h]at e11;cases e11),(fun _ h=>by cases h),fun _=>⟨v',O,N.2.trans x'⟩⟩
    have:D j=true:=by
     match j,C with
     |0,_=>exact e0
     |1,_=>exact e1
     |2,_=>exact e2
     |3,_=>exact e3
     |4,_=>exact e4
     |5,_=>exact e5
     |6,_=>exact e6
     |7,_=>exact e7
     |8,_=>exact e8
     |9,_=>exact e9
     |10,_=>exact e10
     |11,_=>exact e11
    rw[this,Bool.or_true]
   |_+13,_,U,_,_=>cases U
 . intro D L' W b H;obtain⟨v',h⟩:=H.p3 (b 12 (by decide));exact hA v' L' W H.base h
def AJv:List Answer->A4 Int (List Answer)->Option (A4 Int (List Answer))
 |[],h=>some h
 |a::l,h=>(appo 48 ((h a.dispute).getD []) [a]).bind fun y=>AJv l (B4 h a.dispute y)
noncomputable def AaH:Code:=match f70.body with
 |some (.seq _ (.seq _ (.seq _ (.seq _ (.seq c _)))))=>c
 |_=>.skip
def ASC:List Nat:=[44,45,46,47,48,49,50,11,51,52,53,54,55,56,57,58,59,60,61,62,63]
abbrev Os:=List (Int×Value×List Answer)
def N4(os:Os):List Res:=os.map fun o=>ownR [] AnswerE 60 o.2.1 o.2.2
theorem AKe{κ α:Type}{f:A4 κ α}{l:List (κ×α)}(h:Lists f l){i:Nat}{k:κ}{x:α}(hi:l[i]?=some (k,x)):f k=some x:=(h.2 k x).1 (AbB hi)
theorem AYg{w0:World}{M:List Nat}{S1:List Res}{W:World}{g:A4 Int Value}{f:A4 Int (List Answer)}{os:Os}(k:Int)(V:Lists g (os.map fun o=>(o.1,o.2.1)))(C:Lists f (os.map fun o=>(o.1,o.2.2)))(D:Hp w0 [] M (N4 os++S1) W):
  ∃(os1:Os) (i:Nat) (v:Value) (l:List Answer),Hp w0 [] M (N4 os1++S1) W/\Adv (mm (N4 os++S1) M) (mm (N4 os1++S1) M) W W/\os1[i]?=some (k,v,l)/\(g k).getD (.slice none 0 0)=v/\(f k).getD []=l/\∀v' l',Lists (B4 g k v') ((os1.set i (k,v',l')).map fun o=>(o.1,o.2.1))/\Lists (B4 f k l') ((os1.set i (k,v',l')).map fun o=>(o.1,o.2.2)):=by
 by_cases hk:∃o∈os,o.1=k
 . obtain⟨⟨k',v,l⟩,I,H⟩:=hk
   have H:k'=k:=H
   subst H
   obtain⟨i,hi⟩:=Abj I
   have F:(os.map fun o=>(o.1,o.2.1))[i]?=some (k',v):=by rw[Abr,hi];rfl
   have E:(os.map fun o=>(o.1,o.2.2))[i]?=some (k',l):=by rw[Abr,hi];rfl
   refine⟨os,i,v,l,D,Adv.refl _ _,hi,by rw[AKe V F];rfl,by rw[AKe C E];rfl,fun v' l'=>⟨?_,?_⟩⟩
   . rw[List.map_set];exact V.set F v'
   . rw[List.map_set];exact C.set E l'
 . have J:∀x∈(os.map fun o=>(o.1,o.2.1)),x.1≠k:=fun x hx e=>by
    obtain⟨o,I,rfl⟩:=mem_map.1 hx;exact hk ⟨o,I,e⟩
   have U:∀x∈(os.map fun o=>(o.1,o.2.2)),x.1≠k:=fun x hx e=>by
    obtain⟨o,I,rfl⟩:=mem_map.1 hx;exact hk ⟨o,I,e⟩
   refine⟨(k,.slice none 0 0,[])::os,0,_,[],D.addNil AnswerE 60,D.addNilH AnswerE 60,rfl,by rw[V.none J];rfl,by rw[C.none U];rfl,fun v' l'=>⟨?_,?_⟩⟩
   . exact(V.push v' J).perm (by simp only[List.set_cons_zero,List.map_cons];exact(List.perm_append_singleton _ _).symm)
   . exact(C.push l' U).perm (by simp only[List.set_cons_zero,List.map_cons];exact(List.perm_append_singleton _ _).symm)
theorem ASE{w0:World}{M:List Nat}{S0:List Res}{w:World}{L:A8}{jm j4 j1 b4 b1 bm:Nat}{al:List Answer}{cs1 cs4:List Value}{va:Value}{h:A4 Int (List Answer)}{A B:A5}{X:Nat->A5}{Z:List PanicEntry->A5}(hI:Hp w0 [] M S0 w)(hm:S0[jm]?=some (mapO K3 rawE false bm fnone))(h4:S0[j4]?=some (rowR 99 b4 cs4))(b:cs4[7]?=some (.map (some bm)))(h1:S0[j1]?=some (rowR 28 b1 cs1))(c:cs1[5]?=some va)(C:RdS AnswerE (mm S0 M) w va al)(d4:j4≠jm)(hw:w0.heap.size<=w.heap.size)(l1:Sx.A6 L 1=some (.pointer (some ⟨b1,0,none⟩)))(l4:Sx.A6 L 4=some (.pointer (some ⟨b4,0,none⟩)))(hr:AJv al fnone=some h)(hA:∀L' w' (g:A4 Int Value) (os:Os),(∀t,t∉ASC->Sx.A6 L' t=Sx.A6 L t)->Lists g (os.map fun o=>(o.1,o.2.1))->Lists h (os.map fun o=>(o.1,o.2.2))->HA w0 w M S0 (N4 os++S0.set jm (mapO K3 rawE false bm g)) w'->A [] L' w'):CW prog 65 AaH [] L w A B X Z:=by
 obtain⟨a45,c45,rfl,s,hle⟩:=C.shape;have hlen_:InK .i64 ((al.length:Nat):Int):=C.inK;rw[InK.i64]at hlen_;refine A3 ?_;refine A7 ?_;refine M7 l1 underlying28 rfl sizeOf26 rfl ?_;refine K4 rfl ((hI.row j1 h1).rd.cells.at 5 c) isAgg26 rfl ?_;refine AFv rfl underlying26 rfl ?_;refine E9 rfl rfl ?_;refine Reg.nil ?_;refine C8 ?_;refine AAj (ι:=A8×Nat×A4 Int Value×A4 Int (List Answer)×Os) (fun q=>q.1) (fun q W=>((∀t,t∉ASC->Sx.A6 q.1 t=Sx.A6 L t)/\Sx.A6 q.1 45=some (.slice a45 al.length c45)/\Sx.A6 q.1 46=some (.int .i64 (al.length:Nat))/\Sx.A6 q.1 47=some (.int .i64 (q.2.1:Nat)))/\q.2.1<=al.length/\AJv (al.drop q.2.1) q.2.2.2.1=some h/\Lists q.2.2.1 (q.2.2.2.2.map fun o=>(o.1,o.2.1))/\Lists q.2.2.2.1 (q.2.2.2.2.map fun o=>(o.1,o.2.2))/\HA w0 w M S0 (N4 q.2.2.2.2++S0.set jm (mapO K3 rawE false bm q.2.2.1)) W) (fun q=>al.length-q.2.1) (_,0,fnone,fnone,[]) ⟨⟨fun t J=>?_,rfl,rfl,rfl⟩,Abe _,by simpa using hr,Lists.nil,Lists.nil,?_⟩ (Sub.refl _) ?_
 . show Sx.A6 (_::_::_::_::L) t=_;rw[look_cons,if_neg (fun e=>J (by subst e;decide)),look_cons,if_neg (fun e=>J (by subst e;decide)),look_cons,if_neg (fun e=>J (by subst e;decide)),look_cons,if_neg (fun e=>J (by subst e;decide))]
 . have e:N4 []++S0.set jm (mapO K3 rawE false bm fnone)=S0:=by
    show S0.set jm _=S0;exact Abx fun j=>by
     rw[Acm];split
     . rename_i e;subst e;rw[hm];rw[AbO (List.getElem?_eq_some_iff.1 hm).1]
     . rfl
   exact⟨by rw[e];exact hI,by rw[e];exact Adv.refl _ _⟩
 rintro⟨L1,i,g,f,os⟩ W1 ⟨⟨lb,l45,l46,l47⟩,hi,H,N,S,Q⟩;dsimp only at lb l45 l46 l47 hi H N S Q ⊢;refine A3 ?_;refine A7 ?_;refine AE4 l47 l46 rfl ?_;refine Reg.nil ?_;refine A3 ?_;refine U2 rfl (fun U=>?_) (fun O=>?_)
 . have U:i<al.length:=by have:=AbH U;omega
   rw[Acv U]at H;obtain⟨y,hy,H⟩:=C7 H;obtain⟨F,rfl⟩:=ABx hy;have T:=C.adv Q.2;obtain⟨os1,i0,v,l,m,x1,r,R,P,V⟩:=AYg (al[i]).dispute N S Q.1;rw[P]at F H;refine E7 ?_;refine A3 ?_;refine C8 ?_;refine A3 ?_;refine A7 ?_;refine AOU l45 l47 T (z:=al[i]) (AIZ (AbI U)) underlying26 sizeOf60 rfl ?_;intro b9 o9 cs9 d p;obtain⟨rfl,G⟩:=(AnswerE_R (x:=al[i])).1 d;obtain⟨q0,q1,q2,q3,q4,q5⟩:=G;refine Z1 rfl p.cells isAgg60 rfl sizeOf60 rfl ?_;refine Q0 m zeroValue60 rfl rfl ?_;intro b11 w5 k x5;refine N3 0 k rfl rfl rfl rfl sizeOf60 rfl rfl (one1 rfl (one1 rfl (one1 rfl (one1 rfl (one1 rfl (one1 rfl one0)))))) ?_;intro w6 D x6;have D:Hp w0 [] M (rowR 60 b11 (AGU al[i])::(N4 os1++S0.set jm (mapO K3 rawE false bm g))) w6:=D;have x6:Adv (mm (rowR 60 b11 [.int .i64 0,.int .i64 0,.int .i64 0,.int .u8 0,.int .i64 0,.int .i64 0]::(N4 os1++S0.set jm (mapO K3 rawE false bm g))) M) (mm (rowR 60 b11 (AGU al[i])::(N4 os1++S0.set jm (mapO K3 rawE false bm g))) M) w5 w6:=x6;refine Reg.nil ?_;have e4:N4 os1++S0.set jm (mapO K3 rawE false bm g)=N4 os1++S0.set jm (mapO K3 rawE false bm g):=rfl;have K:i0<os1.length:=(List.getElem?_eq_some_iff.1 r).1;have I:(N4 os1).length=os1.length:=by simp[N4]
   have Y:jm<S0.length:=(List.getElem?_eq_some_iff.1 hm).1;refine API D (i:=i0+1) (jm:=os1.length+jm+1) (j4:=os1.length+j4+1) (j11:=0) (b4:=b4) (b11:=b11) (bm:=bm) (v:=v) (l:=l) (a:=al[i]) (g:=g) (cs4:=cs4) ?_ ?_ ?_ b rfl ⟨q0,q1,q2,q3,q4,q5⟩ R (by omega) (by omega) (by omega) F.1 ?_ rfl ?_
   . rw[Aci,AbY (by rw[I];exact K)];simp only[N4,List.getElem?_map,r];rfl
   . rw[Aci,Abg (by rw[I];omega),I,AcI,AcM Y]
   . rw[Aci,Abg (by rw[I];omega),I,AcI,Aby (Ac3 d4)];exact h4
   . exact(lb 4 (by decide)).trans l4
   . intro v' L5 w7 lb5 E;have e7:((rowR 60 b11 (AGU al[i])::(N4 os1++S0.set jm (mapO K3 rawE false bm g))).set (i0+1) (ownR [] AnswerE 60 v' (l++[al[i]]))).set (os1.length+jm+1) (mapO K3 rawE false bm (B4 g (al[i]).dispute v'))=rowR 60 b11 (AGU al[i])::(N4 (os1.set i0 ((al[i]).dispute,v',l++[al[i]]))++S0.set jm (mapO K3 rawE false bm (B4 g (al[i]).dispute v'))):=by
      rw[AdD,AdD,List.set_append_left _ _ (by rw[I];exact K),List.set_append_right _ _ (by rw[AcX,I];omega),AcX,I,AcI,List.set_set];simp only[N4,List.map_set]
     rw[e7]at E;have n:HA w0 w M S0 (N4 (os1.set i0 ((al[i]).dispute,v',l++[al[i]]))++S0.set jm (mapO K3 rawE false bm (B4 g (al[i]).dispute v'))) w7:=⟨E.1.erase 0,Q.2.trans (x1.trans (x5.trans (x6.trans (E.2.trans (E8 (σ:=_::_) 0)))))⟩;refine A7 ?_;refine AIT ((lb5 47 (by decide)).trans l47) rfl rfl (InK.i64.2 (by omega)) ?_;refine E9 rfl rfl ?_;refine Reg.nil ⟨rfl,(_,i+1,B4 g (al[i]).dispute v',B4 f (al[i]).dispute (l++[al[i]]),os1.set i0 ((al[i]).dispute,v',l++[al[i]])),?_,Sub.refl _,by dsimp only;omega⟩;refine⟨⟨fun t J=>?_,(lb5 45 (by decide)).trans l45,(lb5 46 (by decide)).trans l46,rfl⟩,U,H,(V v' _).1,(V v' _).2,n⟩;show Sx.A6 (_::_::L5) t=_;rw[look_cons,if_neg (fun e=>J (by subst e;decide)),look_cons,if_neg (fun e=>J (by subst e;decide)),lb5 t (fun e=>J ((by decide:∀u∈APH,u∈ASC) t e))];show Sx.A6 (_::_::_::_::L1) t=_;rw[look_cons,if_neg (fun e=>J (by subst e;decide)),look_cons,if_neg (fun e=>J (by subst e;decide)),look_cons,if_neg (fun e=>J (by subst e;decide)),look_cons,if_neg (fun e=>J (by subst e;decide))];exact lb t J
 . have O:¬i<al.length:=by have:=AbM O;omega
   obtain rfl:i=al.length:=by omega
   rw[List.drop_length]at H;have H:=AbA H;subst H;refine U1 (K2 ?_);exact hA _ W1 g os (fun t J=>by
    show Sx.A6 (_::L1) t=_;rw[look_cons,if_neg (fun e=>J (by subst e;decide))];exact lb t J) N S Q
variable{M:List Nat}{w:World}{x:Desk_99}{e:Int}
theorem AFb:∀{cs vs:List Value},cs.length=vs.length->B7 cs 0 vs=vs
 |[],[],_=>rfl
 |_::r,v::vs,h=>by
  show v::B7 r 0 vs=_;rw[AFb (by simpa using h)]
 |[],_::_,h=>by cases h
 |_::_,[],h=>by cases h
def AS8:Nat->Desk_99->Option Int
 |0=>O1
 |1=>O2
 |2=>O3
 |_=>O4
def stepG:Nat->Nat
 |0=>202
 |1=>203
 |2=>204
 |_=>208
def ACQ(x:Desk_99)(i:Nat):Nat->Option Int
 |0=>some 0
 |n+1=>(AS8 i x).bind fun e=>if e=0 then ACQ x (i+1) n else some e
theorem APJ(i:Nat)(J:MLt M w)(I:GlOk (P:=prog) M w){v:Value}(hx:OkD (P:=prog) M w (.st 10) x v)(H:AS8 i x=some e):
  CallsV prog (.func (.func (stepG i)) #[] #[]) [v] w fun en w'=>en=.returned (.int .i64 e)/\InK .i64 e/\Ext w w':=by
 have fin:∀{k:Nat} {c:Ctr},c.ps=[.d (.st 10)]->True:=fun _=>trivial
 have conv:∀{k:Nat},Calls prog k (toArray [v]) w (fun en w'=>∃vs,en=.returned (ACa vs)/\KsOk (P:=prog) M (obK [.d (.int .i64)] vs++M) w w' [.d (.int .i64)] e vs/\Ext w w')->(∀args w,(callFunc k args).run prog w=.ok (.enter k args) w)->CallsV prog (.func (.func k) #[] #[]) [v] w fun en w'=>en=.returned (.int .i64 e)/\InK .i64 e/\Ext w w':=fun {k} h V=>by
  refine⟨k,#[],rfl,V,?_⟩;refine Calls.mono (by simpa using h) ?_;rintro en w' ⟨vs,rfl,⟨u,rfl,U⟩,hx⟩;have U:OkD (P:=prog) M w' (.int .i64) e u:=U;obtain⟨rfl,hk⟩:=E3 (ρ:=fun _=>undef) (R:=fun _=>none) (.int .i64) U;exact⟨rfl,hk,hx⟩
 match i,H with
 |0,H=>exact conv (ok202.2 M w (x,()) [v] e J I ⟨v,[],rfl,hx,rfl⟩ H) call202
 |1,H=>exact conv (ok203.2 M w (x,()) [v] e J I ⟨v,[],rfl,hx,rfl⟩ H) call203
 |2,H=>exact conv (ok204.2 M w (x,()) [v] e J I ⟨v,[],rfl,hx,rfl⟩ H) call204
 |_+3,H=>exact conv (ok208.2 M w (x,()) [v] e J I ⟨v,[],rfl,hx,rfl⟩ H) call208
noncomputable def AaI:Code:=match f70.body with
 |some (.seq _ (.seq _ (.seq _ (.seq c _))))=>c
 |_=>.skip
def APK:List Nat:=[32,33,34,35,8,36,37,38,9,39,40,41,42,3,43]
theorem APL{L:A8}{b2 b4:Nat}{cs2 cs4:List Value}{A B:A5}{X:Nat->A5}{Z:List PanicEntry->A5}(hM:MLt M w)(hg:GlOk (P:=prog) M w)(K:RdC M w b4 0 cs4)(hx:(enc (P:=prog) (.st 10)).R M w cs4 x)(N:Row 99 w b2 cs2)(T:cs2.length=8)(l2:Sx.A6 L 2=some (.pointer (some ⟨b2,0,none⟩)))(l4:Sx.A6 L 4=some (.pointer (some ⟨b4,0,none⟩)))(m:ACQ x 0 4=some e)(n:e=0->∀L' w',Ext w w'->(∀t,t∉APK->Sx.A6 L' t=Sx.A6 L t)->A [] L' w')(G:e≠0->∀L' w' w'',Ext w w'->Kp [b2] w' w''->Row 99 w'' b2 cs4->InK .i64 e->(∀t,t∉APK->Sx.A6 L' t=Sx.A6 L t)->Sx.A6 L' 3=some (.int .i64 e)->B [] L' w''):CW prog 65 AaI [] L w A B X Z:=by
 obtain⟨bg,og,ug,vg,eg,z,⟨vs',rfl,S⟩,j⟩:=hg 1 _ rfl (fun _=>undef) (fun _=>none);cases eg
 obtain rfl:vs'=vg:=by
  have h:toArray vs'=toArray vg:=j;simpa using h
 have J:cs4.length=8:=(enc (P:=prog) (.st 10)).len hx;have one4:∀u∈cs4,u.oneCell'=true:=(enc (P:=prog) (.st 10)).one hx;have ei:vs'=[.func (.func 202) #[] #[],.func (.func 203) #[] #[],.func (.func 204) #[] #[],.func (.func 208) #[] #[]]:=by
  have one:∀{g:Nat} {l:List SV} {vs:List Value},OkL (P:=prog) (fun _=>undef) (fun _=>none) M w (.fn g []::l) vs->∃r,vs=.func (.func g) #[] #[]::r/\OkL (P:=prog) (fun _=>undef) (fun _=>none) M w l r:=fun {g l vs} h=>by
   obtain⟨u,c,r,rfl,⟨ws,rfl,C⟩,hc,m⟩:=h;have C:ws=[]:=C;subst C;have hc:#[Value.func (.func g) #[] #[]]=toArray c:=hc;have:c=[Value.func (.func g) #[] #[]]:=by simpa using hc.symm
   subst this;exact⟨r,rfl,m⟩
  obtain⟨r1,rfl,h1⟩:=one S;obtain⟨r2,rfl,N⟩:=one h1;obtain⟨r3,rfl,h3⟩:=one N;obtain⟨r4,rfl,K⟩:=one h3;have K:r4=[]:=K;rw[K]
 subst ei;refine A3 ?_;refine A7 ?_;refine Z1 rfl z.cells isAgg184 rfl sizeOf184 rfl ?_;refine E9 rfl rfl ?_;refine Reg.nil ?_;refine C8 ?_;refine AAj (ι:=A8×Nat) (fun q=>q.1) (fun q W=>((∀t,t∉APK->Sx.A6 q.1 t=Sx.A6 L t)/\Sx.A6 q.1 32=some (.agg #[.func (.func 202) #[] #[],.func (.func 203) #[] #[],.func (.func 204) #[] #[],.func (.func 208) #[] #[]])/\Sx.A6 q.1 33=some (.int .i64 (q.2:Nat)))/\q.2<=4/\ACQ x q.2 (4-q.2)=some e/\Ext w W) (fun q=>4-q.2) (_,0) ⟨⟨fun t H=>?_,rfl,rfl⟩,Abe _,m,Kp.refl _ _⟩ (Sub.refl _) ?_
 . show Sx.A6 (_::_::L) t=_;rw[look_cons,if_neg (fun e=>H (by subst e;decide)),look_cons,if_neg (fun e=>H (by subst e;decide))]
 rintro⟨L1,i⟩ W1 ⟨⟨lb,l32,l33⟩,hi,I,F⟩;dsimp only at lb l32 l33 hi I ⊢;refine A3 ?_;refine A7 ?_;refine AE4 l33 rfl rfl ?_;refine Reg.nil ?_;refine A3 ?_;refine U2 rfl (fun D=>?_) (fun Y=>?_)
 . have D:i<4:=by have:=AbH D;omega
   rw[show 4-i=(4-(i+1))+1 by omega]at I;obtain⟨e1,y,I⟩:=C7 I;refine E7 ?_;refine A3 ?_;refine C8 ?_;refine A3 ?_;refine A7 ?_;refine Reg.val (.func (.func (stepG i)) #[] #[]) rfl rfl rfl (fun a ha w' _=>?_) ?_
   . have h7:=ha.eval (x:=.tmp 32) l32;have h8:=ha.eval (x:=.tmp 33) l33;have s:i=0\/i=1\/i=2\/i=3:=by omega
     rcases s with rfl|rfl|rfl|rfl<;>simp[execOp,h7,h8,Instr.index,asIntOf,run_underlying underlying184,part,isAgg183,sizeOf183,stepG]
   refine C9 rfl rfl ?_;refine Reg.nil ?_;refine A3 ?_;refine A7 ?_;refine E9 rfl rfl ?_;refine Z1 ((lb 4 (by decide)).trans l4) (K.adv (Adv.of_ext F)).cells isAgg99 J sizeOf99 rfl ?_;refine AAk (vs:=[.agg cs4.toArray]) rfl rfl rfl ?_;obtain⟨g9,c9,v9,hc9,hcall⟩:=APJ i (hM.ext F) (hg.adv (Adv.of_ext F)) (v:=.agg cs4.toArray) ⟨cs4,(enc (P:=prog) (.st 10)).adv hx (Adv.of_ext F),.inl ⟨rfl,rfl⟩⟩ y;refine⟨g9,c9,v9,hc9,hcall.mono ?_⟩;rintro _ W2 ⟨rfl,p,hE2⟩;refine⟨_,rfl,?_⟩;refine C9 rfl rfl ?_;refine Reg.nil ?_;refine A3 ?_;refine A7 ?_;refine E9 rfl rfl ?_;refine AOP rfl rfl rfl ?_;refine Reg.nil ?_;have lk9:∀{a b c d f g h k:Value} (t:Nat),t∉APK->Sx.A6 ((40,a)::(39,b)::(9,c)::(38,d)::(37,f)::(36,g)::(8,h)::(35,k)::(34,.bool (decide ((i:Int)<4)))::L1) t=Sx.A6 L t:=fun t H=>by
    rw[look_cons,if_neg (fun e=>H (by subst e;decide)),look_cons,if_neg (fun e=>H (by subst e;decide)),look_cons,if_neg (fun e=>H (by subst e;decide)),look_cons,if_neg (fun e=>H (by subst e;decide)),look_cons,if_neg (fun e=>H (by subst e;decide)),look_cons,if_neg (fun e=>H (by subst e;decide)),look_cons,if_neg (fun e=>H (by subst e;decide)),look_cons,if_neg (fun e=>H (by subst e;decide)),look_cons,if_neg (fun e=>H (by subst e;decide))];exact lb t H
   have V:Ext w W2:=F.trans hE2;refine U2 rfl (fun U=>?_) (fun E=>?_)
   . have U:e1≠0:=by simpa using U
     rw[if_neg U]at I;cases I
     refine A3 ?_;refine A7 ?_;refine Z1 ((lk9 4 (by decide)).trans l4) (K.adv (Adv.of_ext V)).cells isAgg99 J sizeOf99 rfl ?_;refine E9 rfl rfl ?_;have hb2:b2<w.heap.size:=G6 N;refine AOT (e:=99) (cs:=cs2) (vs:=cs4) ((lk9 2 (by decide)).trans l2) rfl rfl ((V.block b2 hb2 (by simp)).trans N) sizeOf99 J (by rw[T,J];rfl) one4 ?_;intro w3 Q o;refine C9 rfl rfl ?_;refine Reg.nil ?_;refine C4 ?_;have O:B7 cs2 0 cs4=cs4:=AFb (by rw[T,J]);rw[O]at Q;exact G U _ W2 w3 V o Q p (fun t H=>by
      show Sx.A6 (_::_::_::_) t=_;rw[look_cons,if_neg (fun e=>H (by subst e;decide)),look_cons,if_neg (fun e=>H (by subst e;decide)),look_cons,if_neg (fun e=>H (by subst e;decide))];exact lk9 t H) rfl
   . have E:e1=0:=by simpa using E
     rw[AbO E]at I;refine E7 ?_;refine A7 ?_;refine AIT l33 rfl rfl (InK.i64.2 (by omega)) ?_;refine E9 rfl rfl ?_;refine Reg.nil ⟨rfl,(_,i+1),?_,Sub.refl _,by dsimp only;omega⟩;refine⟨⟨fun t H=>?_,l32,rfl⟩,D,I,V⟩;show Sx.A6 (_::_::_) t=_;rw[look_cons,if_neg (fun e=>H (by subst e;decide)),look_cons,if_neg (fun e=>H (by subst e;decide))];exact lk9 t H
 . have Y:¬i<4:=by have:=AbM Y;omega
   obtain rfl:i=4:=by omega
   have he:e=0:=(AbA I).symm;refine U1 (K2 ?_);exact n he _ W1 F (fun t H=>by
    show Sx.A6 (_::L1) t=_;rw[look_cons,if_neg (fun e=>H (by subst e;decide))];exact lb t H)
end Go.Proofs.YtgioiejbphljoaaGreatDoor
namespace Go.Rx
open Go Go.Sx Go.RowKit
section
variable[Trk][Sg][Sf]{P:Program}[Se P][Anch]{w0 w:World}{M:List Nat}{N:Nat}{ds:List Deferred}
theorem AQp[Sl (P:=P)]{G:Gx}(D:GxOk P G)(c:Code)(an:An){sh:Sh}{σ:AS}{x:O9 sh.cs}{L:A8}{w:World}{A B:A5}{X:Nat->A5}{Z:List PanicEntry->A5}(h:exec G N (fun _=>(none:Option Unit)) c an (I9 sh) (fun _ _=>none) (fun _=>none) σ=some x)(C:Holds (P:=P) w0 [] M σ L w)(hA:∀L' w',EnvS (D7 c++D6 an) L L'->Holds (P:=P) w0 [] M (C0 (D7 c++D6 an) sh σ x) L' w'->A ds L' w'):CW P N c ds L w A B X Z:=
 AAI (n:=3) (ADd (I0 D c an _ _ _ _ _ _ _ _ _ _ _ _ _ h C (fun σ1 L1 w1 E V I H=>by
  obtain⟨S,ρ,γ,μ,ι,U⟩:=H;exact hA L1 w1 I (V2 U V E)) (fun i σ2 L2 w2 J=>by cases J) (fun r σ2 L2 w2 J F _ W=>by cases J) PZ.no))
end
section
variable[Trk][Sg][Sf]{P:Program}[Se P]{ρ:Nat->Value}{R:Nat->Option AR}{M:List Nat}{w:World}{l:List SV}{vs:List Value}
theorem AAs{k:IntKind}{x:Int}(h:OkL (P:=P) ρ R M w (.int k x::l) vs):∃r,vs=.int k x::r/\InK k x/\OkL (P:=P) ρ R M w l r:=by
 obtain⟨u,c,r,rfl,⟨rfl,hk⟩,H,I⟩:=h;have H:#[Value.int k x]=toArray c:=H;have:c=[Value.int k x]:=by simpa using H.symm
 subst this;exact⟨r,rfl,hk,I⟩
theorem AEy{t:Ty}{x:List (den t)}(h:OkL (P:=P) ρ R M w (.dat (.sl t) x::l) vs):∃v r,vs=v::r/\OkD (P:=P) M w (.sl t) x v/\v.cells=#[v]/\OkL (P:=P) ρ R M w l r:=by
 obtain⟨u,c,r,rfl,⟨_,hd⟩,H,I⟩:=h;obtain⟨a,n,rfl,_⟩:=(OkD.rds hd).shape;have H:#[Value.slice a x.length n]=toArray c:=H;have:c=[Value.slice a x.length n]:=by simpa using H.symm
 subst this;exact⟨_,r,rfl,hd,rfl,I⟩
theorem ABe{s:SV}(h:OkL (P:=P) ρ R M w (s::l) vs)(J:∀u,Ok (P:=P) ρ R M w s u->u.cells=#[u]):∃u r,vs=u::r/\OkL (P:=P) ρ R M w l r:=by
 obtain⟨u,c,r,rfl,I,H,U⟩:=h;rw[J u I]at H;have:c=[u]:=by simpa using H.symm
 subst this;exact⟨u,r,rfl,U⟩
theorem ADD{i:Nat}(h:OkL (P:=P) ρ R M w (.own i::l) vs):∃r,vs=ρ i::r/\OkL (P:=P) ρ R M w l r:=by
 obtain⟨u,c,r,rfl,⟨rfl,J,_⟩,H,I⟩:=h;rw[J]at H;have:c=[ρ i]:=by simpa using H.symm
 subst this;exact⟨r,rfl,I⟩
end
end Go.Rx
namespace Go.Proofs.YtgioiejbphljoaaGreatDoor
open Go Go.Sx Go.Rx Go.RowKit
theorem ACR{P:Program}{kt:TypeId}{α β:Type}{K:Ky P kt Int}{E:Enc α}{E':Enc β}{ag ag':Bool}{M M':List Nat}{w:World}{b:Nat}{g:A4 Int α}{f:A4 Int β}(h:MapH K E ag M w b g)(D:∀k x v,g k=some x->Vl E ag M w v x->∃y,f k=some y/\Vl E' ag' M' w v y)(C:∀k,g k=none->f k=none):MapH K E' ag' M' w b f:=by
 obtain⟨es,c,xs,Y,T,Q,V⟩:=h;have key:∀(es:List MapEntry) (xs:List (Int×α)),EntK K E ag M w es xs->(∀x∈xs,g x.1=some x.2)->∃ys:List (Int×β),EntK K E' ag' M' w es ys/\ys.map (·.1)=xs.map (·.1)/\∀y∈ys,f y.1=some y.2:=by
  intro es;induction es with
  |nil=>
   intro xs h _
   cases xs with
   |nil=>exact⟨[],trivial,rfl,fun _ h=>by cases h⟩
   |cons _ _=>exact h.elim
  |cons e es ih=>
   intro xs h hx
   cases xs with
   |nil=>exact h.elim
   |cons x xs=>
    obtain⟨k1,k2,k3⟩:=h
    obtain⟨ys,y1,y2,y3⟩:=ih xs k3 fun z H=>hx z (AbC _ H)
    obtain⟨y,J,I⟩:=D x.1 x.2 e.val (hx x (AbF ..)) k2
    exact⟨(x.1,y)::ys,⟨k1,I,y1⟩,by simp[y2],fun z H=>(mem_cons.1 H).elim (fun e=>by subst e;exact J) (y3 z)⟩
 obtain⟨ys,y1,y2,y3⟩:=key _ _ Q fun x hx=>(V.2 x.1 x.2).1 hx;refine⟨es,c,ys,Y,T,y1,by rw[y2];exact V.1,fun a y=>⟨fun hm=>y3 _ hm,fun U=>?_⟩⟩;cases W:g a with
 |none=>rw[C a W]at U;cases U
 |some x=>
  have O:(a,x)∈xs:=(V.2 a x).2 W
  have F:a∈ys.map (·.1):=by rw[y2];exact mem_map.2 ⟨_,O,rfl⟩
  obtain⟨z,H,rfl⟩:=mem_map.1 F
  have:=y3 z H
  rw[U]at this
  cases this
  exact H
def s70(d:Desk):AS:=⟨[(1,.ptr 1 0),(2,.ptr 2 0),(3,.int .i64 0),(4,.ptr 4 0)],
 [(4,.row 99 [.int .i64 d.terms.answer,.int .i64 d.terms.mark,.int .i64 d.terms.lately,.dat (.sl (.st 1)) d.reports,.dat (.sl (.st 2)) d.disputes,.dat (.sl (.st 3)) d.answers,.own 13,.own 14]),(14,.own false (.mp 3 (.int .i64) (.sl (.st 3))) (fnone:A4 Int (List Answer))),(13,.own false (.mp 3 (.int .i64) (.st 1)) (fnone:A4 Int Report)),
  (2,.row 99 [.int .i64 0,.int .i64 0,.int .i64 0,.nilS,.nilS,.nilS,.raw (.map none),.raw (.map none)]),(1,.row 28 [.int .i64 d.terms.answer,.int .i64 d.terms.mark,.int .i64 d.terms.lately,.dat (.sl (.st 1)) d.reports,.dat (.sl (.st 2)) d.disputes,.dat (.sl (.st 3)) d.answers])],[],[]⟩
noncomputable def APM:Code:=match f70.body with
 |some (.seq _ (.seq _ (.seq c _)))=>c
 |_=>.skip
def APN:Sh:=⟨[(.cont 13,.own (.mp 3 (.int .i64) (.st 1)))],[4,14,13,2,1]⟩
theorem AHF:GxOk prog gxb:=B1 trivial
theorem AYh(d:Desk):exec gxb 65 (fun _=>(none:Option Unit)) APM anpre70.r.r (I9 APN) (fun _ _=>none) (fun _=>none) (s70 d)=V6 d:=by kernel_rfl
def Q8(d:Desk):Option (Desk_99×Int):=(V6 d).bind fun f=>(ACQ ⟨d,f,fnone⟩ 0 4).bind fun e=>if e=0 then (AJv d.answers fnone).bind fun h=>some (⟨d,f,h⟩,0) else some (⟨d,f,fnone⟩,e)
def ctr70:Ctr:=⟨[.d (.st 4)],[.d (.st 10),.d (.int .i64)],fun a=>Q8 a.1⟩
theorem ANu{M:List Nat}{W:World}{d:Desk}{f:A4 Int Report}{h:A4 Int (List Answer)}{v3 v4 v5 v6 v7:Value}(k0:InK .i64 d.terms.answer)(k1:InK .i64 d.terms.mark)(k2:InK .i64 d.terms.lately)(k3:OkD (P:=prog) M W (.sl (.st 1)) d.reports v3)(k4:OkD (P:=prog) M W (.sl (.st 2)) d.disputes v4)(k5:OkD (P:=prog) M W (.sl (.st 3)) d.answers v5)(k6:OkD (P:=prog) M W (.mp 3 (.int .i64) (.st 1)) f v6)(k7:OkD (P:=prog) M W (.mp 3 (.int .i64) (.sl (.st 3))) h v7)(c3:v3.cells=#[v3])(c4:v4.cells=#[v4])(c5:v5.cells=#[v5])(c6:v6.cells=#[v6])(c7:v7.cells=#[v7]):
  OkD (P:=prog) M W (.st 10) (⟨d,f,h⟩:Desk_99) (.agg (toArray [.int .i64 d.terms.answer,.int .i64 d.terms.mark,.int .i64 d.terms.lately,v3,v4,v5,v6,v7])):=
 I5 (ρ:=fun _=>undef) (R:=fun _=>none) (M:=M) (fun _ h=>h) (.st 10) (.agg [.int .i64 d.terms.answer,.int .i64 d.terms.mark,.int .i64 d.terms.lately,.dat (.sl (.st 1)) d.reports,.dat (.sl (.st 2)) d.disputes,.dat (.sl (.st 3)) d.answers,.dat (.mp 3 (.int .i64) (.st 1)) f,.dat (.mp 3 (.int .i64) (.sl (.st 3))) h]) (fun i hi=>by cases hi) rfl
  ⟨_,rfl,_,[_],_,rfl,⟨rfl,k0⟩,rfl,_,[_],_,rfl,⟨rfl,k1⟩,rfl,_,[_],_,rfl,⟨rfl,k2⟩,rfl,v3,[v3],_,rfl,⟨rfl,k3⟩,c3,v4,[v4],_,rfl,⟨rfl,k4⟩,c4,v5,[v5],_,rfl,⟨rfl,k5⟩,c5,v6,[v6],_,rfl,⟨rfl,k6⟩,c6,v7,[v7],_,rfl,⟨rfl,k7⟩,c7,rfl⟩
theorem ok70:Ctr.ok prog 70 ctr70:=by
 refine⟨by decide,fun M w a vals r hM hg ha C=>?_⟩;obtain⟨d,_⟩:=a;obtain⟨vd,_,rfl,Q,rfl⟩:=ha;have Q:OkD (P:=prog) M w (.st 4) d vd:=Q;have C:Q8 d=some r:=C;unfold Q8 at C;obtain⟨f,hf,C⟩:=C7 C;obtain⟨e,he,C⟩:=C7 C;have h0:Holds (P:=prog) w [] M ⟨[(0,.str 4 d)],[],[],[]⟩ [(0,vd)] w:=by
  refine Holds.start hM (fun t s m=>?_) ⟨trivial,hg⟩;rw[fnd_cons]at m;split at m
  . rename_i e;subst e;cases m;exact⟨vd,rfl,Q⟩
  . cases m
 refine C1 (l:=[vd]) (fn:=f70) func70 rfl rfl rfl ?_;refine A3 ?_;refine ABd AHF (by exact rfl) h0 fun L1 w1 hE1 F=>?_;refine A3 ?_;refine ABd AHF (by exact rfl) F fun L2 w2 hE2 W=>?_;have h3:=AFa (env':=(s70 d).env) (res':=(s70 d).res) W ⟨rfl,rfl,rfl,rfl,trivial⟩ fun _=>rfl;clear F W;refine A3 ?_;refine AQp AHF APM anpre70.r.r (sh:=APN) (σ:=s70 d) ((AYh d).trans hf) h3 fun L3 w3 hE3 h4=>?_;obtain⟨S,ρ,γ,μ,ι,J⟩:=h4;obtain⟨v4,l4,bb4,hb4,rfl⟩:=J.env 4 (.ptr 4 0) rfl;obtain⟨v2,l2,bb2,B,rfl⟩:=J.env 2 (.ptr 2 0) rfl;obtain⟨v1,l1,bb1,hb1,rfl⟩:=J.env 1 (.ptr 1 0) rfl;obtain⟨v3,l3,rfl,_⟩:=J.env 3 (.int .i64 0) rfl;obtain⟨b4,e4,r4,o4,i4⟩:=J.rowAt (i:=4) (e:=99) (l:=[.int .i64 d.terms.answer,.int .i64 d.terms.mark,.int .i64 d.terms.lately,.dat (.sl (.st 1)) d.reports,.dat (.sl (.st 2)) d.disputes,.dat (.sl (.st 3)) d.answers,.own 13,.own 14]) rfl;obtain⟨b2,e2,r2,o2,i2⟩:=J.rowAt (i:=2) (e:=99) (l:=[.int .i64 0,.int .i64 0,.int .i64 0,.nilS,.nilS,.nilS,.raw (.map none),.raw (.map none)]) rfl;obtain⟨b1,e1,r1,o1,i1⟩:=J.rowAt (i:=1) (e:=28) (l:=[.int .i64 d.terms.answer,.int .i64 d.terms.mark,.int .i64 d.terms.lately,.dat (.sl (.st 1)) d.reports,.dat (.sl (.st 2)) d.disputes,.dat (.sl (.st 3)) d.answers]) rfl;have i13:=J.res 13 (.own false (.mp 3 (.int .i64) (.st 1)) f) rfl;have i14:=J.res 14 (.own false (.mp 3 (.int .i64) (.sl (.st 3))) (fnone:A4 Int (List Answer))) rfl;obtain⟨b13,e13⟩:∃b,ρ 13=.map (some b):=J.row 13 _ rfl;obtain⟨b14,e14⟩:∃b,ρ 14=.map (some b):=J.row 14 _ rfl;rw[hb4]at e4;cases e4;rw[B]at e2;cases e2;rw[hb1]at e1;cases e1;obtain⟨qa,g4,k0,oa⟩:=AAs o4;obtain⟨qb,ea,k1,ob⟩:=AAs oa;obtain⟨qc,eb,k2,oc⟩:=AAs ob;obtain⟨vr,qd,ec,dr,cr,od⟩:=AEy oc;obtain⟨vx,qe,ed,dx,cx,oe⟩:=AEy od;obtain⟨vy,qf,ee,dy,cy,of⟩:=AEy oe;obtain⟨qg,ef,og⟩:=ADD of;obtain⟨qh,eg,oh⟩:=ADD og;have oh:qh=[]:=oh;rw[oh]at eg;rw[eg,e14]at ef;rw[ef,e13]at ee;rw[ee]at ed;rw[ed]at ec;rw[ec]at eb;rw[eb]at ea;rw[ea]at g4;rw[g4]at r4 i4;obtain⟨pa,g1,_,oa1⟩:=AAs o1;obtain⟨pb,fa,_,ob1⟩:=AAs oa1;obtain⟨pc,fb,_,oc1⟩:=AAs ob1;obtain⟨vr1,pd,fc,_,_,od1⟩:=AEy oc1;obtain⟨vx1,pe,fd,_,_,oe1⟩:=AEy od1;obtain⟨va1,pf,fe,da1,_,of1⟩:=AEy oe1;have of1:pf=[]:=of1;rw[of1]at fe;rw[fe]at fd;rw[fd]at fc;rw[fc]at fb;rw[fb]at fa;rw[fa]at g1;rw[g1]at r1 i1;have T:(γ 2).length=8:=by
  obtain⟨_,t1,a1,u1⟩:=ABe o2 fun u h=>by obtain⟨rfl,_⟩:=h;rfl
  obtain⟨_,t2,a2,u2⟩:=ABe u1 fun u h=>by obtain⟨rfl,_⟩:=h;rfl
  obtain⟨_,t3,a3,u3⟩:=ABe u2 fun u h=>by obtain⟨rfl,_⟩:=h;rfl
  obtain⟨_,t4,a4,u4⟩:=ABe u3 fun u h=>by have h:u=.slice none 0 0:=h;rw[h];rfl
  obtain⟨_,t5,a5,u5⟩:=ABe u4 fun u h=>by have h:u=.slice none 0 0:=h;rw[h];rfl
  obtain⟨_,t6,a6,u6⟩:=ABe u5 fun u h=>by have h:u=.slice none 0 0:=h;rw[h];rfl
  obtain⟨_,t7,a7,u7⟩:=ABe u6 fun u h=>by obtain⟨rfl,_⟩:=h;rfl
  obtain⟨_,t8,a8,u8⟩:=ABe u7 fun u h=>by obtain⟨rfl,_⟩:=h;rfl
  have u8:t8=[]:=u8;rw[a1,a2,a3,a4,a5,a6,a7,a8,u8];rfl
 have i13:S[ι 13]?=some (mapO K3 ReportE true b13 f):=by rw[i13];show some (mapRes (P:=prog) [] 3 (.int .i64) (.st 1) (blk (ρ 13)) f)=_;rw[e13];rfl
 have i14:S[ι 14]?=some (mapO K3 (enc (P:=prog) (.sl (.st 3))) false b14 fnone):=by rw[i14];show some (mapRes (P:=prog) [] 3 (.int .i64) (.sl (.st 3)) (blk (ρ 14)) fnone)=_;rw[e14];rfl
 have D:=J.hp;have hgl:=J.anch.2;have I:∀{i j:Nat} {a b:AR},A1 (C0 (D7 APM++D6 anpre70.r.r) APN (s70 d) f).res i=some a->A1 (C0 (D7 APM++D6 anpre70.r.r) APN (s70 d) f).res j=some b->i≠j->ι i≠ι j:=fun {i j a b} F W Y e=>Y (J.inj _ _ _ _ F W e);have n4:ι 4≠ι 14:=I (i:=4) (j:=14) rfl rfl (by decide);have n2:ι 2≠ι 14:=I (i:=2) (j:=14) rfl rfl (by decide);have n1:ι 1≠ι 14:=I (i:=1) (j:=14) rfl rfl (by decide);have n13:ι 13≠ι 14:=I (i:=13) (j:=14) rfl rfl (by decide);have n24:ι 2≠ι 4:=I (i:=2) (j:=4) rfl rfl (by decide);have n213:ι 2≠ι 13:=I (i:=2) (j:=13) rfl rfl (by decide);clear I J o1 o4 oa ob oc od oe of og oa1 ob1 oc1 od1 oe1;have hI1:Hp w [] M (S.set (ι 14) (mapO K3 rawE false b14 fnone)) w3:=D.upd (ι 14) i14 (Kp.refl _ _) (fun b H=>.inl H) rfl fun M' hM'=>ACR (D.mapAt' _ i14) (fun k x v h=>by cases h) (fun k _=>rfl);have x1:Adv (mm S M) (mm (S.set (ι 14) (mapO K3 rawE false b14 fnone)) M) w3 w3:=D.updA (r':=mapO K3 rawE false b14 fnone) (ι 14) i14 (Kp.refl _ _) (fun b H=>.inl H);have memM2:∀b∈bb2::M,b∈mm S M:=fun b H=>mem_mm.2 ((mem_cons.1 H).imp (fun e=>⟨_,AbB i2,by rw[e];exact mem_singleton.2 rfl⟩) id);have nin:∀{b:Nat} {j:Nat} {r:Res},S[j]?=some r->b∈r.fp->ι 2≠j->b∉bb2::M:=fun {b j r} X H Y hm=>by
  rcases mem_cons.1 hm with e|hm
  . exact D.dis (ι 2) j _ _ i2 X Y bb2 (mem_singleton.2 rfl) (e▸H)
  . exact D.sepM _ (AbB X) b H hm
 have n214:ι 2≠ι 14:=n2;have h4r:RdC (bb2::M) w3 bb4 0 _:=G9 (nin i4 (mem_singleton.2 rfl) n24) r4;have d13:OkD (P:=prog) (bb2::M) w3 (.mp 3 (.int .i64) (.st 1)) f (.map (some b13)):=⟨[_],⟨_,K3,rfl,rfl,b13,rfl,nin i13 (mem_singleton.2 rfl) n213,ACR (D.mapAt' _ i13) (fun k x v h hv=>⟨x,h,hv.mon fun b H=>.inl (memM2 b H)⟩) (fun k h=>h)⟩,.inr ⟨rfl,rfl⟩⟩;have d14:OkD (P:=prog) (bb2::M) w3 (.mp 3 (.int .i64) (.sl (.st 3))) (fnone:A4 Int (List Answer)) (.map (some b14)):=⟨[_],⟨_,K3,rfl,rfl,b14,rfl,nin i14 (mem_singleton.2 rfl) n214,ACR (D.mapAt' _ i14) (fun k x v h=>by cases h) (fun k h=>h)⟩,.inr ⟨rfl,rfl⟩⟩;have hdesk:=ANu k0 k1 k2 (OkD.adv dr (Adv.drop memM2)) (OkD.adv dx (Adv.drop memM2)) (OkD.adv dy (Adv.drop memM2)) d13 d14 cr cx cy rfl rfl;obtain⟨cs,hR,A⟩:=id hdesk;have A:cs=[.int .i64 d.terms.answer,.int .i64 d.terms.mark,.int .i64 d.terms.lately,vr,vx,vy,.map (some b13),.map (some b14)]:=by
  rcases A with⟨_,h⟩|⟨h,_⟩
  . have h:=Value.agg.inj h;simpa using h.symm
  . cases h
 subst A;have p:w.heap.size<=w3.heap.size:=D.kp.size;have B:w.heap.size<=bb2:=((D.own _ (AbB i2)).2 bb2 (mem_singleton.2 rfl)).resolve_left (fun h=>by cases h);refine A3 ?_;refine APL (fun b H=>D.mlt b (memM2 b H)) (hgl.adv (Adv.drop memM2)) h4r hR r2 ?_ l2 l4 he (fun he0 L4 w4 V lk4=>?_) (fun I L4 w4 w5 V Z y hke lk4 l34=>?_)
 . exact T
 . rw[AbO he0]at C;obtain⟨h,hh,C⟩:=C7 C;cases C
   refine A3 ?_;have n:w.heap.size<=w4.heap.size:=AbP p V.size;refine ASE (S0:=S.set (ι 14) (mapO K3 rawE false b14 fnone)) (jm:=ι 14) (j4:=ι 4) (j1:=ι 1) (bm:=b14) (hI1.ext V) (AcM (List.getElem?_eq_some_iff.1 i14).1) (by rw[Aby (Ac3 n4)];exact i4) rfl (by rw[Aby (Ac3 n1)];exact i1) rfl (OkD.rds (OkD.adv da1 (x1.trans (Adv.of_ext V)))) n4 n ((lk4 1 (by decide)).trans l1) ((lk4 4 (by decide)).trans l4) hh fun L5 w5 g os lk5 N R K=>?_;rw[List.set_set]at K;have E:(N4 os).length=os.length:=by simp[N4]
   have at1:∀{j:Nat} {q:Res},S[j]?=some q->j≠ι 14->(N4 os++S.set (ι 14) (mapO K3 rawE false b14 g))[os.length+j]?=some q:=fun {j q} X Y=>by
    rw[Abg (by rw[E];omega),E,AcI,Aby (Ac3 Y)];exact X
   have at14:(N4 os++S.set (ι 14) (mapO K3 rawE false b14 g))[os.length+ι 14]?=some (mapO K3 rawE false b14 g):=by
    rw[Abg (by rw[E];omega),E,AcI,AcM (List.getElem?_eq_some_iff.1 i14).1]
   refine A3 ?_;refine A7 ?_;refine Z1 ((lk5 4 (by decide)).trans ((lk4 4 (by decide)).trans l4)) (K.1.row _ (at1 i4 n4)).rd.cells isAgg99 rfl sizeOf99 rfl ?_;refine N3 (os.length+ι 2) K.1 (at1 i2 n2) ((lk5 2 (by decide)).trans ((lk4 2 (by decide)).trans l2)) rfl rfl sizeOf99 rfl (by rw[T];rfl) ((enc (P:=prog) (.st 10)).one hR) ?_;intro w6 U x6;refine C9 rfl rfl ?_;refine Reg.nil ?_;refine C4 ?_;rw[AFb (by rw[T];rfl)]at U x6;have O:=x1.trans ((Adv.of_ext V).trans (K.2.trans x6));have keep:∀{j:Nat} {q:Res},(N4 os++S.set (ι 14) (mapO K3 rawE false b14 g))[j]?=some q->j≠os.length+ι 2->((N4 os++S.set (ι 14) (mapO K3 rawE false b14 g)).set (os.length+ι 2) (rowR 99 bb2 [.int .i64 d.terms.answer,.int .i64 d.terms.mark,.int .i64 d.terms.lately,vr,vx,vy,.map (some b13),.map (some b14)]))[j]?=some q:=fun {j q} X Y=>by
    rw[Aby (Ac3 Y)];exact X
   have f13:=keep (at1 i13 n13) (by omega);have f14:=keep at14 (by omega);have fown:∀o∈os,RdS AnswerE M w6 o.2.1 o.2.2:=fun o G=>by
    obtain⟨i,hi⟩:=Abj G;have hil:i<os.length:=(List.getElem?_eq_some_iff.1 hi).1;have F:(N4 os++S.set (ι 14) (mapO K3 rawE false b14 g))[i]?=some (ownR [] AnswerE 60 o.2.1 o.2.2):=by
     rw[AbY (by rw[E];exact hil)];simp only[N4,List.getElem?_map,hi];rfl
    have W:=keep F (by omega);exact((U.ownAt i W).mon fun b H=>.inr (mem_mm.2 (.inr H))).rd fun b H=>U.sepM _ (AbB W) b H
   have c13:OkD (P:=prog) M w6 (.mp 3 (.int .i64) (.st 1)) f (.map (some b13)):=⟨[_],⟨_,K3,rfl,rfl,b13,rfl,D.sepM _ (AbB i13) b13 (mem_singleton.2 rfl),ACR (U.mapAt' _ f13) (fun k x v h hv=>⟨x,h,hv.mon fun b H=>.inl (mem_mm.2 (.inr H))⟩) (fun k h=>h)⟩,.inr ⟨rfl,rfl⟩⟩;have c14:OkD (P:=prog) M w6 (.mp 3 (.int .i64) (.sl (.st 3))) h (.map (some b14)):=⟨[_],⟨_,K3,rfl,rfl,b14,rfl,D.sepM _ (AbB i14) b14 (mem_singleton.2 rfl),ACR (U.mapAt' _ f14) (fun k x v hk hv=>by
    obtain⟨o,G,z⟩:=mem_map.1 ((N.2 k x).2 hk);cases z
    obtain⟨cs,⟨F,_⟩,⟨W,_⟩|⟨_,W⟩⟩:=hv
    . cases W
    . rw[F]at W;have W:=List.singleton_inj.1 W;subst W;exact⟨o.2.2,(R.2 o.1 o.2.2).1 (mem_map.2 ⟨o,G,rfl⟩),[_],⟨_,rfl,fown o G⟩,.inr ⟨rfl,rfl⟩⟩) (fun k hk=>by
    refine R.none fun x hx e=>?_;obtain⟨o,G,rfl⟩:=mem_map.1 hx;have F:=(N.2 o.1 o.2.1).1 (mem_map.2 ⟨o,G,rfl⟩);rw[show o.1=k from e,hk]at F;cases F)⟩,.inr ⟨rfl,rfl⟩⟩
   have memM:∀b∈M,b∈mm ((N4 os++S.set (ι 14) (mapO K3 rawE false b14 g)).set (os.length+ι 2) (rowR 99 bb2 [.int .i64 d.terms.answer,.int .i64 d.terms.mark,.int .i64 d.terms.lately,vr,vx,vy,.map (some b13),.map (some b14)])) M:=fun b H=>mem_mm.2 (.inr H);have L:=ANu (d:=d) (f:=f) (h:=h) k0 k1 k2 ((OkD.adv dr O).mon memM) ((OkD.adv dx O).mon memM) ((OkD.adv dy O).mon memM) c13 c14 cr cx cy rfl rfl;have r6:=U.row (os.length+ι 2) (AcM (List.getElem?_eq_some_iff.1 (at1 i2 n2)).1);exact H4 (rs:=[.cell 2 99,.tmp 3]) (vs:=[_,_]) rfl (.cons (.agg ((lk5 2 (by decide)).trans ((lk4 2 (by decide)).trans l2)) r6.rd.cells isAgg99 rfl sizeOf99) (.cons (.tmp rfl) .nil)) rfl ⟨[_,_],rfl,⟨_,_,rfl,L,_,rfl,[_],⟨rfl,(by decide:InK .i64 0)⟩,.inr ⟨rfl,rfl⟩⟩,U.kp⟩
 . rw[if_neg I]at C;cases C
   have hA5:Adv (bb2::M) (bb2::M) w3 w5:=⟨(V.mono fun b H=>by cases H).trans (Z.mono fun b H=>.inl (mem_cons.2 (.inl (mem_singleton.1 H)))),fun b H=>.inl H⟩;refine H4 (rs:=[.cell 2 99,.tmp 3]) (vs:=[_,_]) rfl (.cons (.agg ((lk4 2 (by decide)).trans l2) y.rd.cells isAgg99 rfl sizeOf99) (.cons (.tmp l34) .nil)) rfl ⟨[_,_],rfl,⟨_,_,rfl,(OkD.adv hdesk hA5).mon fun b H=>AbC _ H,_,rfl,[_],⟨rfl,hke⟩,.inr ⟨rfl,rfl⟩⟩,?_⟩;exact(D.kp.trans V).tail Z fun c hc=>by rw[mem_singleton.1 hc];exact .inr B
end Go.Proofs.YtgioiejbphljoaaGreatDoor
namespace Go.Rx
open Go Go.Sx Go.RowKit
section
variable[Trk]
theorem AQq(I:¬Trk.t){M:List Nat}{w W W':World}(h:Adv M M w W)(k:KI M w.heap.size W W'):Adv M M w W':=
 ⟨⟨k.1.trans h.kp.os,k.2.1.trans h.kp.tape,k.2.2.1.trans h.kp.output,AbP h.kp.size k.2.2.2.1,fun b H J=>(k.2.2.2.2 b H J).trans (h.kp.block b H J),fun t=>absurd t I⟩,fun b H=>.inl H⟩
theorem AUR{M:List Nat}{w W:World}(I:MLt M w)(h:Adv M M w W):MLt M W:=fun b H=>AbS (I b H) h.kp.size
end
section
variable[Trk][Sg][Sf]{P:Program}[Se P]
theorem AGV{ρ:Nat->Value}{R:Nat->Option AR}{M:List Nat}{w:World}:∀{l:List (IntKind×Int)} {vs:List Value},OkL (P:=P) ρ R M w (l.map fun p=>.int p.1 p.2) vs->vs=(l.map fun p=>Value.int p.1 p.2)/\∀p∈l,InK p.1 p.2
 |[],vs,h=>⟨h,fun _ h=>by cases h⟩
 |p::l,vs,h=>by
  obtain⟨u,c,r,rfl,⟨rfl,hk⟩,H,U⟩:=h;obtain⟨rfl,J⟩:=AGV U;have H:#[Value.int p.1 p.2]=toArray c:=H;have:c=[Value.int p.1 p.2]:=by simpa using H.symm
  subst this;exact⟨rfl,fun q I=>(mem_cons.1 I).elim (fun e=>by subst e;exact hk) (J q)⟩
end
end Go.Rx
namespace Go.Sx
open Go Go.RowKit
variable[Trk]
theorem AJw{n:Nat}{P:Program}{N:Nat}{ops:Array Oper}{rest:List Oper}{ds:List Deferred}{L:A8}{w:World}{A B:A5}{X:Nat->A5}{Z:List PanicEntry->A5}{d e b o m:Nat}{x:Operand}{cs:List Value}{ty:TypeId}{pos:String}{af:Array Edge}(hx:ev L x=some (.pointer (some ⟨b,o,none⟩)))(V:Cells w b o cs)(U:∀w,(isAgg e).run P w=.ok true w)(I:cs.length=m)(H:∀w,(sizeOf e).run P w=.ok m w)(hN:blt d N=true)(h:Rgi n P N ops rest ds ((d,.agg cs.toArray)::L) w A B X Z):Rgi n P N ops (⟨some d,.load e x,ty,pos,af,none⟩::rest) ds L w A B X Z:=by
 subst I;refine Rgi.val _ rfl rfl hN rfl (fun a W=>?_) h;have:=run_loadCells_list (P:=P) w ⟨b,o,none⟩ cs (fun j v J=>by rw[add_none];exact V j v J);have C:=W.eval hx;simp[execOp,C,Instr.loadAt,Instr.sureAddr,loadVar,U,H,this]
end Go.Sx
namespace Go.Proofs.YtgioiejbphljoaaGreatDoor
open Go Go.Sx Go.Rx Go.RowKit
def AGW(d:Desk_99)(day:Int):List Dispute->Option (List (Dispute×Verdict))
 |[]=>some []
 |x::l=>(F9 d x day).bind fun r=>(AGW d day l).bind fun ys=>some (if 3<=r.1 then(x,r.2)::ys else ys)
variable{α:Type}{M:List Nat}{w:World}{d:Desk_99}{day:Int}
theorem AGX{l:List α}{i:Nat}(h:i<l.length):l.drop i=l[i]::l.drop (i+1):=Acv h
theorem AWO:GxOk prog { gxb with fs:=[(57,ctr57)] }:=B1 ⟨⟨ok57,call57⟩,trivial⟩
theorem AMk{l:List α}{n:Nat}{x:α}(h:l[n]?=some x):l.take (n+1)=l.take n++[x]:=by
 rw[Acy,h];rfl
def AS9(d:Desk_99)(day:Int)(l:List Dispute)(i:Int):List (Nat×SV):=[(1,.rp (.str 10 d) 0),(2,.rp (.int .i64 day) 0),(10,.dat (.sl (.st 2)) l),(12,.int .i64 i)]
theorem AFp(n:Nat)(hM:MLt M w)(hg:GlOk (P:=prog) M w){v1 v2:Value}(h1:Ok (P:=prog) (fun _=>undef) (fun _=>none) M w (.rp (.str 10 d) 0) v1)(h2:Ok (P:=prog) (fun _=>undef) (fun _=>none) M w (.rp (.int .i64 day) 0) v2){ys:List (Dispute×Verdict)}(hd:AGW d day d.desk.disputes=some ys)(val:α->Dispute×Verdict)(zs:List α)(O:zs.map val=ys):
  SeqStopsK Fence.wide n prog 84 #[v1,v2] (fun x=>#[M9 (.st 2) (val x).1,M9 (.st 12) (val x).2]) (KI M w.heap.size) (fun ys=>ys=zs) (fun pre=>pre <+: zs) zs.length w:=by
 intro lp J Jx W hW hJ _ hY h0
 have hE:Ext w W:=ACX hW (fun h=>h)
 have hA0:Adv M M w W:=Adv.of_ext hE
 subst O
 obtain⟨b,o0,u,vs,rfl,hc,hu,hcu⟩:=id h1
 obtain⟨v10,X,K⟩:∃v10,vs[4]?=some v10/\Ok (P:=prog) (fun _=>undef) (fun _=>none) M w (.dat (.sl (.st 2)) d.desk.disputes) v10:=by
  rcases AFO (G:=gxb) (t:=25) (o:=4) (v:=.str 10 d) (s:=.dat (.sl (.st 2)) d.desk.disputes) rfl hu with⟨_,y,D,h4⟩|⟨n,cs,D,_⟩
  . rw[hcu]at D;exact⟨y,D,h4⟩
  . cases D
 have hds:=OkD.rds K.2
 obtain⟨a10,c10,hv,hlen,hle⟩:=hds.shape
 subst hv
 refine callsIn_wide.2 ?_
 let R:Ending->World->Prop:=fun e W'=>(∃v,e=.returned v)/\((∃xs,xs=zs/\J xs W')\/(∃pre,pre <+: zs/\Jx pre W'))
 have f:∀(pre:List α) (L:Sx.A8) (W':World),pre <+: zs->Jx pre W'->ABh prog f84 R [] L W':=fun pre L W' h1 h2=>H4 (rs:=[]) (vs:=[]) rfl .nil rfl ⟨⟨_,rfl⟩,.inr ⟨pre,h1,h2⟩⟩
 refine C1 (l:=[.func (.yield lp) #[] #[],.pointer (some ⟨b,o0+0,none⟩),v2]) (fn:=f84) func84 rfl rfl rfl ?_
 refine A3 ?_
 refine A7 ?_
 refine M7 rfl underlying99 rfl sizeOf28 rfl ?_
 refine M7 rfl underlying28 rfl sizeOf25 rfl ?_
 refine K4 rfl ((hc.adv hA0).cells.at 4 X) isAgg25 rfl ?_
 refine AFv rfl underlying25 rfl ?_
 refine E9 rfl rfl ?_
 refine Reg.nil ?_
 refine C8 ?_
 let ls:=d.desk.disputes
 have hlen_:InK .i64 ((ls.length:Nat):Int):=hds.inK
 refine AAj (ι:=A8×Nat×Nat) (fun q=>q.1) (fun q W'=>(Sx.A6 q.1 0=some (.func (.yield lp) #[] #[])/\Sx.A6 q.1 1=some (.pointer (some ⟨b,o0+0,none⟩))/\Sx.A6 q.1 2=some v2/\Sx.A6 q.1 10=some (.slice a10 ls.length c10)/\Sx.A6 q.1 11=some (.int .i64 (ls.length:Nat))/\Sx.A6 q.1 12=some (.int .i64 (q.2.1:Nat)))/\q.2.1<=ls.length/\AGW d day (ls.drop q.2.1)=some ((zs.drop q.2.2).map val)/\q.2.2<=zs.length/\J (zs.take q.2.2) W'/\Adv M M w W') (fun q=>ls.length-q.2.1) (_,0,0) ⟨⟨rfl,rfl,rfl,rfl,rfl,rfl⟩,Abe _,by simpa using hd,Abe _,by simpa using h0,hA0⟩ (Sub.refl _) ?_
 rintro⟨L,i,k⟩ W1 ⟨⟨l0,l1,l2,l10,l11,l12⟩,hi,H,hk,A,C⟩
 dsimp only at l0 l1 l2 l10 l11 l12 hi H hk A ⊢
 refine A3 ?_
 refine A7 ?_
 refine AE4 l12 l11 rfl ?_
 refine Reg.nil ?_
 refine A3 ?_
 refine U2 (by show Sx.A6 ((13,_)::L) 13=_;rw[look_cons,AbO rfl]) (fun V=>?_) (fun hge=>?_)
 . have V:i<ls.length:=by simpa using V
   rw[AGX V]at H
   obtain⟨r,hr,H⟩:=C7 H
   obtain⟨ys',E,H⟩:=C7 H
   have H:=AbA H
   refine E7 ?_
   refine A3 ?_
   refine C8 ?_
   have c:Holds (P:=prog) W1 [] M ⟨AS9 d day ls i,[],[],[]⟩ ((13,.bool (decide ((i:Int)<(ls.length:Int))))::L) W1:=by
    refine Holds.start (AUR hM C) (fun t s I=>?_) ⟨trivial,hg.adv C⟩;unfold AS9 at I;rw[fnd_cons]at I;split at I
    . rename_i e;subst e;cases I;exact⟨_,(by rw[look_cons,if_neg (by decide)];exact l1),Ok.adv C _ h1⟩
    rw[fnd_cons]at I;split at I
    . rename_i e;subst e;cases I;exact⟨_,(by rw[look_cons,if_neg (by decide)];exact l2),Ok.adv C _ h2⟩
    rw[fnd_cons]at I;split at I
    . rename_i e;subst e;cases I;exact⟨_,(by rw[look_cons,if_neg (by decide)];exact l10),Ok.adv C _ K⟩
    rw[fnd_cons]at I;split at I
    . rename_i e;subst e;cases I;exact⟨_,(by rw[look_cons,if_neg (by decide)];exact l12),rfl,InK.i64.2 (by rw[InK.i64]at hlen_;omega)⟩
    cases I
   have hix:ixo ls (i:Int)=some ls[i]:=AIZ (AbI V)
   refine A3 ?_
   refine ABt AWO c hix rfl rfl fun L2 W2 hE2 F=>?_
   refine A3 ?_
   refine ABt AWO F hr rfl rfl fun L3 W3 hE3 N=>?_
   obtain⟨S,ρ,γ,μ,ι,Y⟩:=N
   have hex:Ext W1 W3:=Y.hp.kp
   obtain⟨v5,l5,b5,hb5,rfl⟩:=Y.env 5 (.ptr 5 0) rfl
   obtain⟨v7,l7,b7,hb7,rfl⟩:=Y.env 7 (.ptr 7 0) rfl
   obtain⟨v6,l6,rfl,hk6⟩:=Y.env 6 (.int .u8 r.1) rfl
   obtain⟨c5,hc5,j,ho5,_⟩:=Y.rowAt (i:=5) rfl
   obtain⟨c7,hc7,g,ho7,_⟩:=Y.rowAt (i:=7) rfl
   rw[hb5]at hc5;cases hc5
   rw[hb7]at hc7;cases hc7
   obtain⟨hg5,_⟩:=AGV (l:=[(.i64,ls[i].id),(.i64,ls[i].report),(.i64,ls[i].day)]) ho5
   obtain⟨hg7,_⟩:=AGV (l:=[(.i64,r.2.day),(.u8,r.2.is_),(.i64,r.2.by_.id),(.i64,r.2.by_.dispute),(.i64,r.2.by_.day),(.u8,r.2.by_.says),(.i64,r.2.by_.about),(.i64,r.2.by_.cents)]) ho7
   rw[hg5]at j
   rw[hg7]at g
   have hJ3:J (zs.take k) W3:=hJ _ _ _ none A (Ext.grownBy hex) (fun r hr=>by cases hr)
   have hA3:Adv M M w W3:=C.trans (Adv.of_ext hex)
   have look3:∀t,t∉[5,6,7,13,14,15,16,17,18,19,20,21,22]->Sx.A6 L3 t=Sx.A6 L t:=fun t I=>by
    rw[hE3 t (fun h=>I ((by decide:∀u∈C6 _,u∈[5,6,7,13,14,15,16,17,18,19,20,21,22]) t h)),hE2 t (fun h=>I ((by decide:∀u∈C6 _,u∈[5,6,7,13,14,15,16,17,18,19,20,21,22]) t h)),look_cons,if_neg (fun e=>I (by subst e;decide))]
   have q0:=(look3 0 (by decide)).trans l0
   have q1:=(look3 1 (by decide)).trans l1
   have q2:=(look3 2 (by decide)).trans l2
   have q10:=(look3 10 (by decide)).trans l10
   have q11:=(look3 11 (by decide)).trans l11
   have q12:=(look3 12 (by decide)).trans l12
   clear look3 hE2 hE3 Y F c
   clear_value ls
   have add1:InK .i64 ((i:Int)+1):=InK.i64.2 (by rw[InK.i64]at hlen_;omega)
   refine A3 ?_
   refine AJX n ?_
   refine Rgi.val (.int .u8 r.1) rfl rfl rfl rfl (fun a U=>by simp[execOp,U.eval (x:=.tmp 6) l6]) ?_
   refine Rgi.val (.bool (decide (3<=r.1))) rfl rfl rfl rfl (fun a U=>by
    have B:=U.eval (x:=.tmp 23) (v:=.int .u8 r.1) rfl;have h8:=U.eval (x:=.const (.int .u8 3)) (v:=.int .u8 3) rfl;simp[execOp,B,h8,eqGuard_geq,binOp_geq]) ?_
   refine Rgi.val (.bool (decide (3<=r.1))) rfl rfl rfl rfl (fun a U=>by
    simp[execOp,U.eval (x:=.tmp 24) (v:=.bool (decide (3<=r.1))) rfl]) ?_
   have look4:∀{p q u:Value} (t:Nat),t∉[23,24,25]->Sx.A6 ((25,p)::(24,q)::(23,u)::L3) t=Sx.A6 L3 t:=fun t I=>by
    rw[look_cons,if_neg (fun e=>I (by subst e;decide)),look_cons,if_neg (fun e=>I (by subst e;decide)),look_cons,if_neg (fun e=>I (by subst e;decide))]
   have m0:=(look4 (p:=.bool (decide (3<=r.1))) (q:=.bool (decide (3<=r.1))) (u:=.int .u8 r.1) 0 (by decide)).trans q0
   have m1:=(look4 (p:=.bool (decide (3<=r.1))) (q:=.bool (decide (3<=r.1))) (u:=.int .u8 r.1) 1 (by decide)).trans q1
   have m2:=(look4 (p:=.bool (decide (3<=r.1))) (q:=.bool (decide (3<=r.1))) (u:=.int .u8 r.1) 2 (by decide)).trans q2
   have m5:=(look4 (p:=.bool (decide (3<=r.1))) (q:=.bool (decide (3<=r.1))) (u:=.int .u8 r.1) 5 (by decide)).trans l5
   have m7:=(look4 (p:=.bool (decide (3<=r.1))) (q:=.bool (decide (3<=r.1))) (u:=.int .u8 r.1) 7 (by decide)).trans l7
   have m10:=(look4 (p:=.bool (decide (3<=r.1))) (q:=.bool (decide (3<=r.1))) (u:=.int .u8 r.1) 10 (by decide)).trans q10
   have m11:=(look4 (p:=.bool (decide (3<=r.1))) (q:=.bool (decide (3<=r.1))) (u:=.int .u8 r.1) 11 (by decide)).trans q11
   have m12:=(look4 (p:=.bool (decide (3<=r.1))) (q:=.bool (decide (3<=r.1))) (u:=.int .u8 r.1) 12 (by decide)).trans q12
   have m25:Sx.A6 ((25,Value.bool (decide (3<=r.1)))::(24,.bool (decide (3<=r.1)))::(23,.int .u8 r.1)::L3) 25=some (.bool (decide (3<=r.1))):=by rw[look_cons,AbO rfl]
   generalize ((25,Value.bool (decide (3<=r.1)))::(24,.bool (decide (3<=r.1)))::(23,.int .u8 r.1)::L3)=L4 at m0 m1 m2 m5 m7 m10 m11 m12 m25
   by_cases D:3<=r.1
   . rw[AbL D]at m25
     rw[AbO D]at H
     obtain⟨z,hz,O,Q⟩:∃z,zs[k]?=some z/\val z=(ls[i],r.2)/\ys'=(zs.drop (k+1)).map val:=by
      rcases AbR k zs.length with h|h
      . rw[AGX h,AbV,Ac5]at H;exact⟨zs[k],AbI h,H.1.symm,H.2⟩
      . rw[List.drop_of_length_le h]at H;cases H
     have m:k<zs.length:=(List.getElem?_eq_some_iff.1 hz).1
     have Z:=AMk hz
     have T:=hY (zs.take k) z W3 hJ3 (by rw[Abq];omega)
     dsimp only at T
     rw[O]at T
     refine Rgi.take (t:=25) rfl m25 ?_
     refine Rgi.val (.func (.yield lp) #[] #[]) rfl rfl rfl rfl (fun a U=>by simp[execOp,U.eval (x:=.tmp 0) m0]) ?_
     refine Rgi.take (t:=25) rfl m25 ?_
     refine AJw m5 j.rd.cells isAgg53 rfl sizeOf53 rfl ?_
     refine Rgi.take (t:=25) rfl m25 ?_
     refine AJw m7 g.rd.cells isAgg111 rfl sizeOf111 rfl ?_
     refine Rgi.take (t:=25) rfl m25 ?_
     refine AJD rfl rfl rfl rfl T ?_
     rintro e W4 (⟨rfl,hJ4,hk4⟩|⟨rfl,hJx4⟩)
     . refine⟨_,rfl,?_⟩
       refine Rgi.take (t:=25) rfl m25 ?_
       refine Rgi.val (.bool false) rfl rfl rfl rfl (fun a U=>by simp[execOp,U.eval (x:=.tmp 29) rfl,Op.unary]) ?_
       refine Rgi.val (.bool false) rfl rfl rfl rfl (fun a U=>by
        have B:=U.eval (x:=.tmp 25) (v:=.bool true) m25;simp[execOp,B,U.eval (x:=.tmp 30) rfl,asBool]) ?_
       refine Rgi.nil ?_
       refine ABM rfl ?_
       refine E7 ?_
       refine A7 ?_
       refine AIT m12 rfl rfl add1 ?_
       refine E9 rfl rfl ?_
       refine Reg.nil ⟨rfl,(_,i+1,k+1),?_,Sub.refl _,by dsimp only;omega⟩
       exact⟨⟨m0,m1,m2,m10,m11,rfl⟩,V,by rw[<-Q];exact E,m,by rw[Z];exact hJ4,AQq id hA3 hk4⟩
     . refine⟨_,rfl,?_⟩
       refine Rgi.take (t:=25) rfl m25 ?_
       refine Rgi.val (.bool true) rfl rfl rfl rfl (fun a U=>by simp[execOp,U.eval (x:=.tmp 29) rfl,Op.unary]) ?_
       refine Rgi.val (.bool true) rfl rfl rfl rfl (fun a U=>by
        have B:=U.eval (x:=.tmp 25) (v:=.bool true) m25;simp[execOp,B,U.eval (x:=.tmp 30) rfl,asBool]) ?_
       refine Rgi.nil ?_
       refine ABw rfl ?_
       refine C4 ?_
       exact f _ _ _ (Z▸List.take_prefix _ _) hJx4
   . rw[AbK D]at m25
     rw[if_neg D]at H
     refine Rgi.pass (t:=25) rfl rfl m25 rfl ?_
     refine Rgi.pass (t:=25) rfl rfl m25 rfl ?_
     refine Rgi.pass (t:=25) rfl rfl m25 rfl ?_
     refine Rgi.pass (t:=25) rfl rfl m25 rfl ?_
     refine Rgi.pass (t:=25) rfl rfl m25 rfl ?_
     refine Rgi.val (.bool false) rfl rfl rfl rfl (fun a U=>by
      have B:=U.eval (x:=.tmp 25) (v:=.bool false) m25;have h8:=U.eval (x:=.const (.bool false)) (v:=.bool false) rfl;simp[execOp,B,h8,asBool]) ?_
     refine Rgi.nil ?_
     refine ABM rfl ?_
     refine E7 ?_
     refine A7 ?_
     refine AIT m12 rfl rfl add1 ?_
     refine E9 rfl rfl ?_
     refine Reg.nil ⟨rfl,(_,i+1,k),?_,Sub.refl _,by dsimp only;omega⟩
     exact⟨⟨m0,m1,m2,m10,m11,rfl⟩,V,by rw[<-H];exact E,hk,hJ3,hA3⟩
 . have hge:¬i<ls.length:=by simpa using hge
   obtain rfl:i=ls.length:=by omega
   rw[List.drop_length]at H
   have H:=AbA H
   have Q:zs.length<=k:=by
    have:=AbJ List.length H;simp at this;omega
   refine U1 (K2 ?_)
   refine H4 (rs:=[]) (vs:=[]) rfl .nil rfl ⟨⟨_,rfl⟩,.inl ⟨zs,rfl,?_⟩⟩
   rwa [Abv Q]at A
theorem C45(E:MLt M w){vd:Value}(U:OkD (P:=prog) M w (.st 10) d vd)(W:InK .i64 day):Calls prog 45 (toArray [vd,.int .i64 day]) w fun e w'=>∃p1 p2,e=.returned (.func (.func 84) #[] #[p1,p2])/\Ok (P:=prog) (fun _=>undef) (fun _=>none) M w' (.rp (.str 10 d) 0) p1/\Ok (P:=prog) (fun _=>undef) (fun _=>none) M w' (.rp (.int .i64 day) 0) p2/\Ext w w':=by
 have J:=U;obtain⟨cs,O,K⟩:=U;obtain rfl:vd=.agg (toArray cs):=K.elim (fun h=>h.2) fun h=>by cases h.1
 refine C1 (l:=[.agg (toArray cs),.int .i64 day]) (fn:=f45) func45 rfl rfl rfl ?_;have F:=Hp.start (Mu:=[]) E;refine A3 ?_;refine A7 ?_;refine S9 F rfl rfl rfl ?_;intro b w2 H x2;have D:=H.freezeRow 0 rfl;have H:=H.erase 0;refine S9 H rfl rfl rfl ?_;intro b3 w3 V x3;have C:=V.freezeRow 0 rfl;have I:=V.erase 0;have x3':Adv (mm [] M) (mm [] M) w2 w3:=x3.trans (E8 (σ:=[_]) 0);refine C9 rfl rfl ?_;refine Reg.nil ?_;refine A3 ?_;refine A7 ?_;refine AEI (xs:=[.tmp 2,.tmp 3]) rfl rfl ?_;refine C9 rfl rfl ?_;refine Reg.nil ?_;refine C4 ?_;exact H4 (rs:=[.tmp 4]) (vs:=[_]) rfl (.cons (.tmp rfl) .nil) rfl ⟨.pointer (some ⟨b,0,none⟩),.pointer (some ⟨b3,0,none⟩),rfl,⟨b,0,_,_,rfl,D.adv x3',OkD.adv J (Adv.of_ext I.kp),rfl⟩,⟨b3,0,_,_,rfl,C,⟨rfl,W⟩,rfl⟩,I.kp⟩
open Classical in
def D5(d:Desk_99)(day:Int):Option (List (Dispute×Verdict)):=(AGW d day d.desk.disputes).bind fun ys=>if ∀y∈ys,AEN [.st 2,.st 12] y then some ys else none
def AYi:Ctr:=⟨[.d (.st 10),.d (.int .i64)],[.it [.st 2,.st 12]],fun a=>D5 a.1 a.2.1⟩
theorem ok45:Ctr.ok prog 45 AYi:=by
 refine⟨by decide,fun M w a vals r B Y A U=>?_⟩;obtain⟨d,day,_⟩:=a;obtain⟨vd,_,rfl,I,vk,_,rfl,E,rfl⟩:=A;have I:OkD (P:=prog) M w (.st 10) d vd:=I;have U:D5 d day=some r:=U;obtain⟨rfl,K⟩:vk=.int .i64 day/\InK .i64 day:=by
  have h:OkD (P:=prog) M w (.int .i64) day vk:=E;exact E3 (ρ:=fun _=>undef) (R:=fun _=>none) (.int .i64) h
 unfold D5 at U;obtain⟨ys,D,U⟩:=C7 U;split at U
 . rename_i F;cases U
   have V:=I;obtain⟨cs,Z,X⟩:=I;obtain rfl:vd=.agg (toArray cs):=X.elim (fun h=>h.2) fun h=>by cases h.1
   refine C1 (l:=[.agg (toArray cs),.int .i64 day]) (fn:=f45) func45 rfl rfl rfl ?_;have G:=Hp.start (Mu:=[]) B;refine A3 ?_;refine A7 ?_;refine S9 G rfl rfl rfl ?_;intro b w2 J x2;have T:=J.freezeRow 0 rfl;have J:=J.erase 0;refine S9 J rfl rfl rfl ?_;intro b3 w3 W x3;have Q:=W.freezeRow 0 rfl;have H:=W.erase 0;have x3':Adv (mm [] M) (mm [] M) w2 w3:=x3.trans (E8 (σ:=[_]) 0);refine C9 rfl rfl ?_;refine Reg.nil ?_;refine A3 ?_;refine A7 ?_;refine AEI (xs:=[.tmp 2,.tmp 3]) rfl rfl ?_;refine C9 rfl rfl ?_;refine Reg.nil ?_;refine C4 ?_;refine H4 (rs:=[.tmp 4]) (vs:=[_]) rfl (.cons (.tmp rfl) .nil) rfl ⟨[_],rfl,⟨_,rfl,⟨_,_,rfl,call84,F,fun M1 w1 hA O α val zs C=>?_⟩,rfl,rfl⟩,H.kp⟩;exact AFp 2 O ((Y.adv (Adv.of_ext H.kp)).adv hA) (v1:=.pointer (some ⟨b,0,none⟩)) (v2:=.pointer (some ⟨b3,0,none⟩)) ⟨b,0,_,_,rfl,(T.adv x3').adv hA,OkD.adv V ((Adv.of_ext H.kp).trans hA),rfl⟩ ⟨b3,0,_,_,rfl,Q.adv hA,⟨rfl,K⟩,rfl⟩ D val zs C
 . cases U
def bwN(l:List Asked):Nat->List (Int×Asked)
 |0=>[]
 |n+1=>match l[n]? with
  |some x=>((n:Int),x)::bwN l n
  |none=>bwN l n
theorem AJx(n:Nat){M:List Nat}{w:World}(hM:MLt M w)(hg:GlOk (P:=prog) M w){l:List Asked}{v1:Value}(f:Ok (P:=prog) (fun _=>undef) (fun _=>none) M w (.rp (.dat (.sl (.st 5)) l) 0) v1){α:Type}(val:α->Int×Asked)(zs:List α)(G:zs.map val=bwN l l.length):
  SeqStopsK Fence.wide n prog 85 #[v1] (fun x=>#[M9 (.int .i64) (val x).1,M9 (.st 5) (val x).2]) (KI M w.heap.size) (fun ys=>ys=zs) (fun pre=>pre <+: zs) zs.length w:=by
 intro lp J Jx W t hJ _ s h0
 have y:Ext w W:=ACX t (fun h=>h)
 have B:Adv M M w W:=Adv.of_ext y
 obtain⟨b,o0,u,vs,rfl,o,p,N⟩:=id f
 have V:=OkD.rds p.2
 obtain⟨a10,c10,rfl,j,r⟩:=V.shape
 obtain rfl:vs=[.slice a10 l.length c10]:=by
  have h:#[Value.slice a10 l.length c10]=toArray vs:=N;simpa using h.symm
 have hlen_:InK .i64 ((l.length:Nat):Int):=V.inK
 rw[InK.i64]at hlen_
 refine callsIn_wide.2 ?_
 let R:Ending->World->Prop:=fun e W'=>(∃v,e=.returned v)/\((∃xs,xs=zs/\J xs W')\/(∃pre,pre <+: zs/\Jx pre W'))
 have O:∀(pre:List α) (L:Sx.A8) (W':World),pre <+: zs->Jx pre W'->ABh prog f85 R [] L W':=fun pre L W' f h2=>H4 (rs:=[]) (vs:=[]) rfl .nil rfl ⟨⟨_,rfl⟩,.inr ⟨pre,f,h2⟩⟩
 refine C1 (l:=[.func (.yield lp) #[] #[],.pointer (some ⟨b,o0+0,none⟩)]) (fn:=f85) func85 rfl rfl rfl ?_
 refine A3 ?_
 refine A7 ?_
 refine K4 rfl ((o.adv B).cells.at 0 rfl) isAgg29 rfl ?_
 refine AFv rfl underlying29 rfl ?_
 refine AOQ rfl rfl rfl (InK.i64.2 (by omega)) ?_
 refine C9 rfl rfl ?_
 refine Reg.nil ?_
 refine C8 ?_
 refine AAj (ι:=A8×Nat×Nat) (fun q=>q.1) (fun q W'=>(Sx.A6 q.1 0=some (.func (.yield lp) #[] #[])/\Sx.A6 q.1 1=some (.pointer (some ⟨b,o0+0,none⟩))/\Sx.A6 q.1 3=some (.int .i64 ((q.2.1:Nat)-1:Int)))/\q.2.1<=l.length/\bwN l q.2.1=(zs.drop q.2.2).map val/\q.2.2<=zs.length/\J (zs.take q.2.2) W'/\Adv M M w W') (fun q=>q.2.1) (_,l.length,0) ⟨⟨rfl,rfl,rfl⟩,AbQ _,by simpa using G.symm,Abe _,by simpa using h0,B⟩ (Sub.refl _) ?_
 rintro⟨L,i,k⟩ W1 ⟨⟨l0,l1,l3⟩,hi,H,hk,D,E⟩
 dsimp only at l0 l1 l3 hi H hk D ⊢
 refine A3 ?_
 refine A3 ?_
 refine A7 ?_
 refine E9 l3 rfl ?_
 refine AON rfl rfl rfl ?_
 refine Reg.nil ?_
 refine U2 rfl (fun Q=>?_) (fun Y=>?_)
 . have Q:0<i:=by have:=AbH Q;omega
   obtain⟨m,rfl⟩:∃m,i=m+1:=⟨i-1,by omega⟩
   have e3:(((m+1:Nat):Int)-1)=(m:Int):=by omega
   rw[e3]at l3
   have hx:l[m]?=some l[m]:=AbI (by omega)
   simp only[bwN,hx]at H
   obtain⟨z,g,F,U⟩:∃z,zs[k]?=some z/\val z=((m:Int),l[m])/\bwN l m=(zs.drop (k+1)).map val:=by
    rcases AbR k zs.length with h|h
    . rw[AGX h,AbV,Ac5]at H;exact⟨zs[k],AbI h,H.1.symm,H.2⟩
    . rw[List.drop_of_length_le h]at H;cases H
   have T:k<zs.length:=(List.getElem?_eq_some_iff.1 g).1
   have K:=AMk g
   have C:=s (zs.take k) z W1 D (by rw[Abq];omega)
   dsimp only at C
   rw[F]at C
   obtain⟨b4,o4,c4,cs4,X,_,_,S,d⟩:=(V.adv E).at m (AbS (Acb m) hi)
   cases X
   obtain⟨rfl,_⟩:=(AID (x:=l[m])).1 S
   refine E7 ?_
   refine A3 ?_
   refine C8 ?_
   refine A3 ?_
   refine AJX n ?_
   refine Rgi.val (.func (.yield lp) #[] #[]) rfl rfl rfl rfl (fun a I=>by simp[execOp,I.eval (x:=.tmp 0) l0]) ?_
   refine Rgi.val (.int .i64 (m:Int)) rfl rfl rfl rfl (fun a I=>by simp[execOp,I.eval (x:=.tmp 3) l3]) ?_
   refine Rgi.val (.slice (some ⟨b4,o4,none⟩) l.length c10) rfl rfl rfl rfl (fun a I=>by
    have h9:=I.eval (x:=.tmp 1) l1;simp[execOp,h9,Instr.loadAt,Instr.sureAddr,loadVar,isAgg29,show W1.cell? ⟨b,o0,none⟩=some (.slice (some ⟨b4,o4,none⟩) l.length c10) from(o.adv E).cells.at 0 rfl]) ?_
   refine Rgi.val (.int .i64 (m:Int)) rfl rfl rfl rfl (fun a I=>by simp[execOp,I.eval (x:=.tmp 3) l3]) ?_
   refine Rgi.val (.pointer (some ⟨b4,o4+m*4,none⟩)) rfl rfl rfl rfl (fun a I=>by
    have h7:=I.eval (x:=.tmp 13) (v:=.slice (some ⟨b4,o4,none⟩) l.length c10) rfl;have h8:=I.eval (x:=.tmp 14) (v:=.int .i64 (m:Int)) rfl;have h3:(m:Int)<(l.length:Int):=by omega
    simp[execOp,h7,h8,Instr.indexAt,asIntOf,run_underlying underlying29,sizeOf47,add_none];try (intro h9_;exact absurd h9_ (by omega))) ?_
   refine AJw rfl d isAgg47 rfl sizeOf47 rfl ?_
   refine AJD rfl rfl rfl rfl C ?_
   rintro e W4 (⟨rfl,c,Z⟩|⟨rfl,A⟩)
   . refine⟨_,rfl,?_⟩
     refine Rgi.val (.bool false) rfl rfl rfl rfl (fun a I=>by simp[execOp,I.eval (x:=.tmp 17) rfl,Op.unary]) ?_
     refine Rgi.nil ?_
     refine ABM rfl ?_
     refine E7 ?_
     refine A7 ?_
     refine E9 l3 rfl ?_
     refine AOQ rfl rfl rfl (InK.i64.2 (by omega)) ?_
     refine C9 rfl rfl ?_
     refine Reg.nil ⟨rfl,(_,m,k+1),?_,Sub.refl _,by dsimp only;omega⟩
     exact⟨⟨l0,l1,rfl⟩,Nat.le_of_succ_le hi,U,T,by rw[K];exact c,AQq id E Z⟩
   . refine⟨_,rfl,?_⟩
     refine Rgi.val (.bool true) rfl rfl rfl rfl (fun a I=>by simp[execOp,I.eval (x:=.tmp 17) rfl,Op.unary]) ?_
     refine Rgi.nil ?_
     refine ABw rfl ?_
     refine C4 ?_
     exact O _ _ _ (K▸List.take_prefix _ _) A
 . have Y:¬(0:Int)<=(i:Int)-1:=by simpa using Y
   obtain rfl:i=0:=by omega
   have U:zs.length<=k:=by
    have:=AbJ List.length H;simp[bwN]at this;omega
   refine U1 (K2 ?_)
   refine H4 (rs:=[]) (vs:=[]) rfl .nil rfl ⟨⟨_,rfl⟩,.inl ⟨zs,rfl,?_⟩⟩
   rwa [Abv U]at D
theorem C47{M:List Nat}{w:World}(V:MLt M w){l:List Asked}{vd:Value}(J:OkD (P:=prog) M w (.sl (.st 5)) l vd):Calls prog 47 (toArray [vd]) w fun e w'=>∃p1,e=.returned (.func (.func 85) #[] #[p1])/\Ok (P:=prog) (fun _=>undef) (fun _=>none) M w' (.rp (.dat (.sl (.st 5)) l) 0) p1/\Ext w w':=by
 have I:=J;obtain⟨sa,c,hv,_⟩:=(OkD.rds J);subst hv;refine C1 (l:=[_]) (fn:=Tryz.f47) func47 rfl rfl rfl ?_;have W:=Hp.start (Mu:=[]) V;refine A3 ?_;refine A7 ?_;refine S9 W rfl rfl rfl ?_;intro b w2 H x2;have U:=H.freezeRow 0 rfl;have H:=H.erase 0;refine C9 rfl rfl ?_;refine Reg.nil ?_;refine A3 ?_;refine A7 ?_;refine AEI (xs:=[.tmp 1]) rfl rfl ?_;refine C9 rfl rfl ?_;refine Reg.nil ?_;refine C4 ?_;exact H4 (rs:=[.tmp 2]) (vs:=[_]) rfl (.cons (.tmp rfl) .nil) rfl ⟨.pointer (some ⟨b,0,none⟩),rfl,⟨b,0,_,_,rfl,U,⟨rfl,OkD.adv I (Adv.of_ext H.kp)⟩,rfl⟩,H.kp⟩
open Classical in
def X4(l:List Asked):Option (List (Int×Asked)):=if ∀y∈bwN l l.length,AEN [.int .i64,.st 5] y then some (bwN l l.length) else none
def N2(_:Unit)(n:Int):Option (List Report):=if 0<=n/\n*64<=140737488355328 then some [] else none
def ctr120:Ctr:=⟨[.nl,.d (.int .i64)],[.own (.sl 45 (.st 1))],fun a=>N2 a.1 a.2.1⟩
theorem AUS(M:List Nat)(w:World)(n:Nat)(O:n*64<=140737488355328):Calls prog 120 #[.slice none 0 0,.int .i64 n] w fun e w'=>∃v,e=.returned v/\(Sx.Own ReportE 45 0 M w' v ([]:List Report)/\∀b∈ob v,w.heap.size<=b)/\Ext w w':=by
 rcases Nat.eq_zero_or_pos n with rfl|K
 . have h:=Any8.slices_Grow_room AF7 none 0 0 0 w (AbQ _) (by decide) (by decide) (AbQ _);change Calls prog 120 _ _ _ at h;refine h.mono ?_;rintro e w' ⟨rfl,rfl⟩;exact⟨_,rfl,⟨.inl ⟨none,rfl,rfl⟩,fun b I=>by cases I⟩,Kp.refl _ _⟩
 . obtain⟨i0,z,F,E,D,C,W⟩:=rsl24.info;have h:=Any8.slices_Grow_grow AF7 i0 z F E (by rw[D];decide) none 0 0 n [] w (AbQ _) (by omega) (by rw[C];omega) (by omega) (by simp) (fun _=>rfl) (fun a U=>by cases U);change Calls prog 120 _ _ _ at h;refine h.mono ?_;have V:=grownCap_ge w (0+n) 0 45;have H:=grownCap_le_maxLen w (0+n) 0 45 (by unfold maxLen;omega);change ∀e w',e=Ending.returned (.slice (some ⟨w.heap.size,0,none⟩) 0 (grownCap w (0+n) 0 45))/\w'=w.drew.alloc (.cells (([]:List Value).toArray++Builtin.zeroCells z.cells (0+n-0)++Builtin.zeroCells z.cells (grownCap w (0+n) 0 45-(0+n))) 45)->_;generalize grownCap w (0+n) 0 45=G at V H;rintro e w' ⟨rfl,rfl⟩;obtain⟨c,rfl⟩:∃c,G=c+1:=⟨G-1,by omega⟩;have J:z.cells.size=8:=W;refine⟨_,rfl,⟨.inr ⟨w.heap.size,c,_,rfl,Abe _,heap_alloc_new w.drew _,Abe _,H,?_,?_⟩,fun b I=>?_⟩,?_⟩
   . simp only[Array.size_append,List.size_toArray,size_zeroCells,J,List.length_nil];show _=(c+1)*8;omega
   . simp[Chunks]
   . have:b=w.heap.size:=by simpa[ob] using I
     omega
   . exact⟨rfl,rfl,rfl,by simp,fun k hk _=>Below.heap_alloc w.drew _ k hk,fun _=>Nat.le_succ _⟩
theorem ok120:Ctr.ok prog 120 ctr120:=by
 refine⟨by decide,fun M w a vals r E _ H I=>?_⟩;obtain⟨v,q,rfl,hv,H⟩:=H;have hv:v=.slice none 0 0:=hv;subst hv;obtain⟨v2,q2,rfl,J,H⟩:=H;have H:q2=[]:=H;subst H;obtain⟨cs,hi,V|⟨_,rfl⟩⟩:=J
 . cases V.1
 have key:∀m:Int,[v2]=[Value.int .i64 m]->N2 () m=some r->Calls prog 120 #[.slice none 0 0,v2] w fun e w'=>∃vs,e=.returned (ACa vs)/\KsOk (P:=prog) M (obK ctr120.rs vs++M) w w' ctr120.rs r vs/\Ext w w':=fun m U I=>by
  obtain rfl:v2=Value.int .i64 m:=by simpa using U
  unfold N2 at I;split at I
  . rename_i D;cases I
    obtain⟨n,rfl⟩:∃n:Nat,m=n:=⟨m.toNat,by omega⟩;refine(AUS M w n (by omega)).mono ?_;rintro e w' ⟨v,rfl,C,W⟩;exact⟨[v],rfl,⟨v,rfl,AL0 C⟩,W⟩
  . cases I
 exact key _ hi.1 I
def J2(d:Desk)(day:Int):Option (Desk_99×Int):=(Q8 d).bind fun (r1,r2)=>Option.bind (α:=Bool) (cond (decide (r2=0)) ((E0 (0:Int) (100000:Int) ([day])).bind fun r4=>some (!r4)) (some false)) ((fun x5=>Option.bind (α:=Int) (cond (x5) (some (2:Int)) (some r2)) ((fun x6=>some (r1,x6)))))
def AaJ:An:=.nd .x (.nd .x (.nd (.nd (.jn [.norm ⟨[(.slot 20,.d .bool)],[6,4]⟩] .x) (.jn [.norm ⟨[(.slot 7,.d (.int .i64))],[6,4]⟩] .x)) .x))
def ctr40:Ctr:=⟨[.d (.st 4),.d (.int .i64)],[.d (.st 10),.d (.int .i64)],fun a=>J2 a.1 a.2.1⟩
theorem ok40:Ctr.ok prog 40 ctr40:=B0 (G:={ gxb with fs:=[(44,ctr44),(70,ctr70)] }) (an:=AaJ) (B1 ⟨⟨ok44,call44⟩,⟨ok70,call70⟩,trivial⟩) func40 rfl rfl rfl rfl (fun a=>by kernel_rfl)
def V7(slices:(List (List Report))):Option (List Report):=(B6 (S:=(Int×Int)) (R:=Int) (fun (x6,x7)=>cond (decide (x6<(slices.length:Int))) ((ixo slices x6).bind fun y8=>(chk .i64 (x7+(y8.length:Int))).bind fun n9=>cond (decide (n9<0)) (none) ((chk .i64 (x6+1)).bind fun n10=>some (Sum.inl (n10,n9)))) (some (Sum.inr x7))) ((0:Int),(0:Int))).bind ((fun x11=>(N2 () x11).bind fun r12=>(B6 (S:=(Int×(List Report))) (R:=((List Report))) (fun (x18,x19)=>cond (decide (x18<(slices.length:Int))) ((ixo slices x18).bind fun y20=>(appo 64 x19 y20).bind fun l21=>(chk .i64 (x18+1)).bind fun n22=>some (Sum.inl (n22,l21))) (some (Sum.inr x19))) ((0:Int),r12)).bind ((fun x23=>some x23))))
def AaK:An:=.nd .x (.nd .x (.nd (.nd .x (.lp ⟨[(.slot 11,.d (.int .i64)),(.slot 3,.d (.int .i64))],[]⟩ [.exit 0 ⟨[(.slot 3,.d (.int .i64))],[]⟩] .x)) (.nd .x (.nd (.nd .x (.lp ⟨[(.slot 27,.d (.int .i64)),(.slot 6,.own (.sl 45 (.st 1)))],[]⟩ [.exit 2 ⟨[(.slot 6,.own (.sl 45 (.st 1)))],[]⟩] .x)) .x))))
def ctr80:Ctr:=⟨[.d (.sl (.sl (.st 1)))],[.own (.sl 45 (.st 1))],fun a=>V7 a.1⟩
theorem ok80:Ctr.ok prog 80 ctr80:=B0 (G:={ gxb with fs:=[(120,ctr120)] }) (an:=AaK) (B1 ⟨⟨ok120,call120⟩,trivial⟩) func80 rfl rfl rfl rfl (fun a=>by kernel_rfl)
def V8(l:List Report)(day:Int):Option (A4 Int Report):=(M3 l day).bind fun (r1,r2)=>(B6 (S:=(Int×(A4 Int Report))) (R:=((A4 Int Report))) (fun (x10,x11)=>cond (decide (x10<(r1.length:Int))) ((ixo r1 x10).bind fun y12=>(chk .i64 (x10+1)).bind fun n13=>some (Sum.inl (n13,(B4 x11 y12.id y12)))) (some (Sum.inr x11))) ((0:Int),(fnone:(A4 Int Report)))).bind ((fun x14=>some x14))
def AaL:An:=.nd .x (.nd .x (.nd .x (.nd (.nd .x (.lp ⟨[(.slot 19,.d (.int .i64)),(.cont 10,.own (.mp 3 (.int .i64) (.st 1)))],[14,10]⟩ [.exit 0 ⟨[(.cont 10,.own (.mp 3 (.int .i64) (.st 1)))],[10]⟩] .x)) .x)))
def ctr46:Ctr:=⟨[.d (.sl (.st 1)),.d (.int .i64)],[.own (.mp 3 (.int .i64) (.st 1))],fun a=>V8 a.1 a.2.1⟩
theorem ok46:Ctr.ok prog 46 ctr46:=B0 (G:={ gxb with fs:=[(29,ctr29)] }) (an:=AaL) (B1 ⟨⟨ok29,call29⟩,trivial⟩) func46 rfl rfl rfl rfl (fun a=>by kernel_rfl)
def P6(d:Desk)(day:Int):Option ((List Int)×Int):=(J2 d day).bind fun (r1,r2)=>cond ((!decide (r2=0))) (some (([]:List Int),r2)) ((P8 r1.desk.disputes).bind fun r3=>(H6 ([(60:Nat),(61:Nat)]) r3).bind fun (_,m4)=>(B6 (S:=(Int×(List Int))) (R:=((List Int))) (fun (x13,x14)=>cond (decide (x13<(m4.length:Int))) ((ixo m4 x13).bind fun y15=>(F9 r1 y15 day).bind fun (r16,r17)=>Option.bind (α:=((List Int))) (cond (decide (r16=1)) ((appo 8 x14 ([y15.id])).bind fun l18=>some l18) (some x14)) ((fun x19=>(chk .i64 (x13+1)).bind fun n20=>some (Sum.inl (n20,x19))))) (some (Sum.inr x14))) ((0:Int),([]:List Int))).bind ((fun x21=>some (x21,(0:Int)))))
def AaM:An:=.nd .x (.nd .x (.nd .x (.nd .x (.nd (.nd .x (.lp ⟨[(.slot 29,.d (.int .i64)),(.slot 8,.own (.sl 3 (.int .i64)))],[25,6]⟩ [.exit 0 ⟨[(.slot 8,.own (.sl 3 (.int .i64)))],[]⟩] (.nd .x (.nd .x (.nd (.nd .x (.nd .x (.nd .x (.jn [.norm ⟨[(.slot 8,.own (.sl 3 (.int .i64)))],[25,6]⟩] .x)))) .x))))) .x))))
def ctr24:Ctr:=⟨[.d (.st 4),.d (.int .i64)],[.own (.sl 3 (.int .i64)),.d (.int .i64)],fun a=>P6 a.1 a.2.1⟩
theorem ok24:Ctr.ok prog 24 ctr24:=B0 (G:={ gxb with fs:=[(40,ctr40),(57,ctr57),(59,ctr59),(60,ctr60),(61,ctr61)],fm:=[(58,ctrm58)] }) (an:=AaM) (ACP ⟨⟨ok40,call40⟩,⟨ok57,call57⟩,⟨ok59,call59⟩,⟨ok60,call60⟩,⟨ok61,call61⟩,trivial⟩ trivial ⟨⟨okm58,call58⟩,trivial⟩) func24 rfl rfl rfl rfl (fun a=>by kernel_rfl)
def AAX(d:Desk)(id:Int)(day:Int):Option (Int×Int×Int):=(J2 d day).bind fun (r1,r2)=>cond ((!decide (r2=0))) (some ((0:Int),(0:Int),r2)) ((Y0 r1.desk.disputes (fun a3=>AAN a3 id)).bind fun r4=>cond (decide (r4<0)) (some ((0:Int),(0:Int),(6:Int))) ((ixo r1.desk.disputes r4).bind fun y5=>(F9 r1 y5 day).bind fun (r6,r7)=>some (r6,r7.day,(0:Int))))
def AaN:An:=.x
def ctr23:Ctr:=⟨[.d (.st 4),.d (.int .i64),.d (.int .i64)],[.d (.int .u8),.d (.int .i64),.d (.int .i64)],fun a=>AAX a.1 a.2.1 a.2.2.1⟩
theorem ok23:Ctr.ok prog 23 ctr23:=B0 (G:={ gxb with fs:=[(40,ctr40),(55,ctr55),(56,ctr56),(57,ctr57)] }) (an:=AaN) (B1 ⟨⟨ok40,call40⟩,⟨ok55,call55⟩,⟨ok56,call56⟩,⟨ok57,call57⟩,trivial⟩) func23 rfl rfl rfl rfl (fun a=>by kernel_rfl)
def AAt(id:Int)(day:Int)(where_:Int)(decided:Int):Option Bool:=(AAh).bind fun r1=>(AAX r1 id day).bind fun (r2,r3,r4)=>Option.bind (α:=Bool) (cond (decide (r4=0)) (cond (decide (r2=where_)) (some (decide (r3=decided))) (some false)) (some false)) ((fun x5=>some x5))
def AaO:An:=.nd .x (.nd .x (.nd (.jn [.norm ⟨[(.slot 8,.d .bool)],[]⟩] .x) .x))
def ctr31:Ctr:=⟨[.d (.int .i64),.d (.int .i64),.d (.int .u8),.d (.int .i64)],[.d .bool],fun a=>AAt a.1 a.2.1 a.2.2.1 a.2.2.2.1⟩
theorem ok31:Ctr.ok prog 31 ctr31:=B0 (G:={ gxb with fs:=[(23,ctr23),(33,ctr33)] }) (an:=AaO) (B1 ⟨⟨ok23,call23⟩,⟨ok33,call33⟩,trivial⟩) func31 rfl rfl rfl rfl (fun a=>by kernel_rfl)
def Q9(d:Desk)(report:Int)(day:Int):Option (Int×Int):=(J2 d day).bind fun (r1,r2)=>cond ((!decide (r2=0))) (some ((0:Int),r2)) (cond ((!((r1.facts report).isSome))) (some ((0:Int),(6:Int))) ((B6 (S:=(Int×Int)) (R:=Int) (fun (x20,x21)=>cond (decide (x21<(r1.desk.disputes.length:Int))) (Option.bind (α:=((Int)⊕(Int))) ((ixo r1.desk.disputes x21).bind fun y22=>cond ((!decide (y22.report=report))) (some (Sum.inl x20)) ((F9 r1 y22 day).bind fun (r23,r24)=>cond (decide (r23=1)) (some (Sum.inr r23)) (Option.bind (α:=Bool) (cond (decide (r23=2)) ((chk .i64 (day-r24.day)).bind fun n25=>some (decide (n25<=r1.desk.terms.mark))) (some false)) ((fun x26=>Option.bind (α:=Int) (cond (x26) (some r23) (some x20)) ((fun x27=>some (Sum.inl x27)))))))) ((Sum.elim (fun x28=>(chk .i64 (x21+1)).bind fun n29=>some (Sum.inl (x28,n29))) (fun x30=>some (Sum.inr x30))))) (some (Sum.inr x20))) ((0:Int),(0:Int))).bind ((fun x31=>some (x31,(0:Int))))))
def AaP:An:=.nd .x (.nd .x (.nd .x (.nd .x (.nd .x (.nd .x (.nd (.nd .x (.lp ⟨[(.slot 12,.d (.int .u8)),(.slot 39,.d (.int .i64))],[8]⟩ [.exit 0 ⟨[(.slot 12,.d (.int .u8))],[]⟩] (.nd .x (.nd .x (.nd (.jn [.norm ⟨[(.slot 12,.d (.int .u8))],[8]⟩,.exit 0 ⟨[(.slot 12,.d (.int .u8))],[]⟩] (.nd .x (.nd .x (.nd .x (.nd .x (.nd .x (.nd (.jn [.norm ⟨[(.slot 58,.d .bool)],[8]⟩] .x) (.jn [.norm ⟨[(.slot 12,.d (.int .u8))],[8]⟩] .x)))))))) .x))))) .x))))))
def ctr28:Ctr:=⟨[.d (.st 4),.d (.int .i64),.d (.int .i64)],[.d (.int .u8),.d (.int .i64)],fun a=>Q9 a.1 a.2.1 a.2.2.1⟩
theorem ok28:Ctr.ok prog 28 ctr28:=B0 (G:={ gxb with fs:=[(40,ctr40),(57,ctr57)] }) (an:=AaP) (B1 ⟨⟨ok40,call40⟩,⟨ok57,call57⟩,trivial⟩) func28 rfl rfl rfl rfl (fun a=>by kernel_rfl)
def R0(id:Int)(day:Int)(mark:Int):Option Bool:=(AAh).bind fun r1=>(Q9 r1 id day).bind fun (r2,r3)=>Option.bind (α:=Bool) (cond (decide (r3=0)) (some (decide (r2=mark))) (some false)) ((fun x4=>some x4))
def AaQ:An:=.nd .x (.nd .x (.nd (.jn [.norm ⟨[(.slot 6,.d .bool)],[]⟩] .x) .x))
def ctr32:Ctr:=⟨[.d (.int .i64),.d (.int .i64),.d (.int .u8)],[.d .bool],fun a=>R0 a.1 a.2.1 a.2.2.1⟩
theorem ok32:Ctr.ok prog 32 ctr32:=B0 (G:={ gxb with fs:=[(28,ctr28),(33,ctr33)] }) (an:=AaQ) (B1 ⟨⟨ok28,call28⟩,⟨ok33,call33⟩,trivial⟩) func32 rfl rfl rfl rfl (fun a=>by kernel_rfl)
end Go.Proofs.YtgioiejbphljoaaGreatDoor
namespace Go.Proofs.YtgioiejbphljoaaGreatDoor
open Go Go.Sx Go.Rx
namespace S
def ATA{α:Type}(l:List α)(id:α->Option Int)(right:α->Option Bool):Option Bool:=(B6 (S:=(Int×(A4 Int Bool))) (R:=(Unit⊕Bool)) (fun (x16,x17)=>cond (decide (x16<(l.length:Int))) ((ixo l x16).bind fun y18=>Option.bind (α:=Bool) ((right y18).bind fun y19=>cond ((!y19)) (some true) ((id y18).bind fun y20=>some ((x17 y20).getD false))) ((fun x21=>cond (x21) (some (Sum.inr (Sum.inr false))) ((id y18).bind fun y22=>(chk .i64 (x16+1)).bind fun n23=>some (Sum.inl (n23,(B4 x17 y22 true))))))) (some (Sum.inr (Sum.inl ())))) ((0:Int),(fnone:(A4 Int Bool)))).bind ((Sum.elim (fun _=>some true) (fun r24=>some r24)))
variable{α:Type}{k:α->Int}{D:Desk_99}
theorem AYj{l:List α}(h:(l.map k).Nodup){n:Nat}(H:n<l.length):∀x∈l.take n,k x≠k l[n]:=fun x hx=>by
 rw[List.Nodup,AcU,AcE]at h;obtain⟨i,hi,rfl⟩:=List.mem_take_iff_getElem.1 hx;exact h i n (by omega) H (by omega)
theorem ANv{l:List α}{id:α->Option Int}{right:α->Option Bool}(hl:l.length<=1000000)(U:∀x∈l,right x=some true)(I:∀x,id x=some (k x))(J:(l.map k).Nodup):ATA l id right=some true:=by
 refine Ret.eq ?_;unfold ATA;refine Ret.bind (C3 l.length (fun n (t:Int×A4 Int Bool)=>t.1=n/\∀i,(∀x∈l.take n,k x≠i)->t.2 i=none) ⟨rfl,fun i _=>rfl⟩ ?_ ?_)
 . rintro n H ⟨_,m⟩ ⟨rfl,hm⟩;dsimp only at hm;refine Ret.condT (Y8 H) (Ret.bind (K1 H (Ret.bind (Y7 (U _ (AbX H)) (Ret.condF rfl (Y7 (I _) (Ret.ok ?_)))))));rw[hm _ (AYj J H)];refine Ret.condF rfl (Y7 (I _) (Ret.bind (Ret.chk (by omega) (Ret.next ⟨by dsimp only;omega,fun i hi=>?_⟩))));dsimp only[B4];rw[if_neg (fun e=>hi l[n] ((G1 H).2 (.inr rfl)) e.symm)];exact hm i fun x hx=>hi x ((G1 H).2 (.inl hx))
 . rintro⟨_,m⟩ ⟨rfl,hm⟩;exact Ret.condF (Y9 (AbQ _)) (Ret.done (Ret.elimL (Ret.ok rfl)))
def Fc(d:Desk)(f:A4 Int Report):Prop:=∀i,f i=fct d.reports i
theorem AGY{l:List Report}(J:APB l){i:Int}{r:Report}:fct l i=some r↔r∈l/\r.kind<=7/\r.id=i:=by
 constructor
 . intro h;obtain⟨I,H,U⟩:=ABc h;exact⟨I,U,H⟩
 . rintro⟨I,H,rfl⟩;exact AWI J I H
theorem AYl{d:Desk}(V:VL d.reports):Ret (V6 d) (Fc d):=by
 have hl:=V.len;unfold V6;refine Ret.bind (C3 d.reports.length (fun n (t:Int×A4 Int Report)=>t.1=n/\∀i r,t.2 i=some r↔r∈d.reports.take n/\r.kind<=7/\r.id=i) ⟨rfl,fun i r=>by simp[fnone]⟩ ?_ ?_)
 . rintro n H ⟨_,m⟩ ⟨rfl,hm⟩;dsimp only at hm;refine Ret.condT (Y8 H) (Ret.bind (K1 H (Ret.bind (Ret.cond (fun h=>?_) fun h=>?_))))
   . have h:=AbH h;refine Ret.ok (Ret.bind (Ret.chk (by omega) (Ret.next ⟨by dsimp only;omega,fun i r=>?_⟩)));rw[G1 H];dsimp only[B4];by_cases e:i=d.reports[n].id
     . subst e;rw[AbO rfl];constructor
       . intro h;cases h;exact⟨.inr rfl,h,rfl⟩
       . rintro⟨I|I,J,U⟩
         . rw[V.cons r (Acr I) _ (AbX H) U]
         . rw[I]
     . rw[if_neg e,hm];constructor
       . rintro⟨I,J⟩;exact⟨.inl I,J⟩
       . rintro⟨I|rfl,J,U⟩
         . exact⟨I,J,U⟩
         . exact absurd U.symm e
   . have h:=AbM h;refine Ret.ok (Ret.bind (Ret.chk (by omega) (Ret.next ⟨by dsimp only;omega,fun i r=>?_⟩)));rw[G1 H,hm];constructor
     . rintro⟨I,J⟩;exact⟨.inl I,J⟩
     . rintro⟨I|rfl,J,U⟩
       . exact⟨I,J,U⟩
       . exact absurd J h
 . rintro⟨_,m⟩ ⟨rfl,hm⟩;dsimp only at hm;rw[Abf]at hm;refine Ret.condF (Y9 (AbQ _)) (Ret.done (Ret.ok fun i=>?_));apply Ac7;intro r;rw[hm,AGY V.cons]
def An(d:Desk)(h:A4 Int (List Answer)):Prop:=∀i,(h i).getD []=d.answers.filter fun a=>decide (a.dispute=i)
theorem ANw:∀(l pre:List Answer) (h:A4 Int (List Answer)),(∀i,(h i).getD []=pre.filter fun a=>decide (a.dispute=i))->pre.length+l.length<=1000000->∃I,AJv l h=some I/\∀i,(I i).getD []=(pre++l).filter fun a=>decide (a.dispute=i)
 |[],pre,h,H,_=>⟨h,rfl,by simpa using H⟩
 |a::l,pre,h,H,hl=>by
  have U:((h a.dispute).getD []).length<=pre.length:=by rw[H];exact Ab1 ..
  have W:pre.length+l.length+1<=1000000:=by simpa[Nat.add_assoc] using hl
  have e:appo 48 ((h a.dispute).getD []) [a]=some ((h a.dispute).getD []++[a]):=AAH (by simp only[List.length_singleton];omega) (by simp only[List.length_singleton];omega);have V:∀i,(B4 h a.dispute ((h a.dispute).getD []++[a]) i).getD []=(pre++[a]).filter fun a=>decide (a.dispute=i):=fun i=>by
   dsimp only[B4];rw[AcQ];by_cases e:i=a.dispute
   . subst e;rw[AbO rfl];simp[H]
   . rw[if_neg e,H];have e2:¬a.dispute=i:=fun h=>e h.symm;simp[e2]
  obtain⟨I,e',J⟩:=ANw l (pre++[a]) (B4 h a.dispute ((h a.dispute).getD []++[a])) V (by simp;omega);refine⟨I,?_,fun i=>by rw[J,Abs];rfl⟩;unfold AJv;rw[e,bindS,e']
theorem AYm(h:TV D.desk.terms):O1 D=some 0:=by
 obtain⟨t1,t2,t3⟩:=h;unfold O1;rw[d_in1,d_in2,AAr t1,AAr t2,AAr t3];rfl
theorem AYn(h:VL D.desk.reports):O2 D=some 0:=by
 unfold O2;rw[AHE h];rfl
theorem AYo(h:Vd D.desk)(C:Fc D.desk D.facts):O3 D=some 0:=by
 obtain⟨⟨t1,t2,t3⟩,V,hx,_⟩:=h;have hl:=V.len;have W:=hx.len;refine Ret.eq ?_;unfold O3;refine Ret.bind (C3 D.desk.reports.length (fun n (t:Int×A4 Int Bool)=>t.1=n/\∀i,(∀x∈D.desk.reports.take n,x.id≠i)->t.2 i=none) ⟨rfl,fun i _=>rfl⟩ ?_ ?_)
 . rintro n H ⟨_,m⟩ ⟨rfl,hm⟩;dsimp only at hm;refine Ret.condT (Y8 H) (Ret.bind (K1 H (Ret.bind (Ret.chk (by omega) (Ret.next ⟨by dsimp only;omega,fun i hi=>?_⟩)))));dsimp only[B4];rw[if_neg (fun e=>hi _ ((G1 H).2 (.inr rfl)) e.symm)];exact hm i fun x hx=>hi x ((G1 H).2 (.inl hx))
 rintro⟨_,m⟩ ⟨rfl,hm⟩;dsimp only at hm;rw[Abf]at hm;refine Ret.condF (Y9 (AbQ _)) (Ret.done (Ret.bind (Ret.condF (AbK (by omega)) ?_)));have U:Z7 D.desk.disputes (fun a16=>T8 a16) (fun a17=>N5 a17 D m)=some true:=ANv (k:=(·.id)) (by omega) (fun x I=>?_) (fun _=>rfl) hx.nd
 . rw[U];exact Ret.ok (Ret.ok rfl)
 . obtain⟨v1,v2,f,J,v3,v4⟩:=hx.v x I;refine Ret.eq ?_;unfold N5;rw[C,J];have v2:=hm x.id v2;refine Ret.bind (Ret.condT rfl ?_);dsimp only[Option.getD_some];rw[d_in1,AAr v1,bindS,v2];refine Ret.condT rfl (Ret.condT rfl (Ret.bind (Ret.chk (by omega) (Ret.bind (Ret.chk (by omega) ?_)))));rw[d_in1,AAr (show _/\_ from⟨v3,by omega⟩)];exact Ret.ok (Ret.ok rfl)
theorem AYp(h:Vd D.desk)(Q:Fc D.desk D.facts):O4 D=some 0:=by
 obtain⟨⟨t1,t2,t3⟩,W,hx,U⟩:=h;have K:=hx.len;have O:=U.len;have F:Z8 D.desk.answers (fun a4=>T9 a4) (fun a5=>N6 a5 D)=some true:=ANv (k:=(·.id)) (by omega) (fun a C=>?_) (fun _=>rfl) U.nd
 . unfold O4;rw[AbK (by omega),F];rfl
 . obtain⟨v1,v2,v3,x,I,v4,v5,v6⟩:=U.v a C;refine Ret.eq ?_;unfold N6;refine Ret.bind ?_;refine(AED (s:=D.desk.disputes) (f:=fun a1=>P3 a1 a) (fun _ _=>rfl) (by omega) (fun h=>?_) fun k hk h Y=>?_:Ret (AIE _ _) _)
   . have:=AbM (h x I);exact absurd v4 this
   have h:=AbH h;have V:D.desk.disputes[k]=x:=by
    have hnd:=hx.nd;rw[List.Nodup,AcU,AcE]at hnd;obtain⟨j,E,rfl⟩:=AcJ I;rcases AdF k j with e|e|e
    . exact absurd (h.trans v4.symm) (hnd k j hk E e)
    . subst e;rfl
    . exact absurd (v4.trans h.symm) (hnd j k E hk e)
   refine Ret.bind (Ret.condF (AbK (by omega)) ?_);have vab:0<=a.about/\a.about<=100000:=by
    by_cases e:a.says=2
    . obtain⟨_,_,f,H,_⟩:=hx.v x I;exact(v6 e f H).1
    . have:=(v5 e).1;omega
   rw[d_in1,AAr v1,bindS];refine Ret.condF rfl ?_;rw[d_in2,AAr v2,AAr vab,bindS];refine Ret.ok (Ret.condF rfl (Ret.bind (K1 hk ?_)));rw[V];by_cases e:a.says=2
   . obtain⟨_,_,f,H,_⟩:=hx.v x I;refine Ret.bind (Ret.condF (AbK (by omega)) (Ret.ok ?_));rw[AbK (show ¬a.says=3 by omega)];refine Ret.condF rfl (Ret.condT (AbL e) ?_);rw[Q,H];obtain⟨w1,w2,w3⟩:=v6 e f H;have J:=ABc H;obtain⟨u1,u2,u3,u4,u5,u6,u7,u8,u9,u10,u11⟩:=W.v f J.1;rw[AHE (l:=[_]) ⟨by simp,fun r W=>?_,fun a U b T _=>?_⟩,bindS]
     . exact Ret.ok rfl
     . rw[mem_singleton.1 W];exact⟨u1,u2,u3,u4,u5,u6,w1,⟨w2,w3⟩,u9,u10,fun h=>by have:=J.2.2;dsimp only[Option.getD_some]at h;omega⟩
     . rw[mem_singleton.1 U,mem_singleton.1 T]
   . obtain⟨w1,w2⟩:=v5 e;refine Ret.bind (Ret.val (a:=true) ?_ (Ret.condT rfl (Ret.bind (Ret.condT (AbL w1) (Ret.ok (Ret.ok (AbL w2)))))));by_cases e1:a.says=1
     . rw[AbL e1];rfl
     . rw[AbK e1,AbL (show a.says=3 by omega)];rfl
structure Dw(d:Desk)(D:Desk_99):Prop where
 d:D.desk=d
 f:Fc D.desk D.facts
 a:An D.desk D.answers
theorem AUT{d:Desk}(h:Vd d):∃D,Q8 d=some (D,0)/\Dw d D:=by
 obtain⟨f,U,H⟩:=AYl h.r;have J:=h.a.len;obtain⟨V,e',I⟩:=ANw d.answers [] fnone (fun i=>rfl) (by simp;omega);refine⟨⟨d,f,V⟩,?_,rfl,H,I⟩;unfold Q8;rw[U,bindS];have s1:=AYm (D:=⟨d,f,fnone⟩) h.t;have s2:=AYn (D:=⟨d,f,fnone⟩) h.r;have s3:=AYo (D:=⟨d,f,fnone⟩) h H;have s4:=AYp (D:=⟨d,f,fnone⟩) h H;have:ACQ ⟨d,f,fnone⟩ 0 4=some 0:=by
  show (O1 _).bind _=_;rw[s1,bindS,AbO rfl];show (O2 _).bind _=_;rw[s2,bindS,AbO rfl];show (O3 _).bind _=_;rw[s3,bindS,AbO rfl];show (O4 _).bind _=_;rw[s4,bindS,AbO rfl];rfl
 rw[this,bindS,AbO rfl,e'];rfl
theorem ADj{d:Desk}(h:Vd d){day:Int}(hd:0<=day/\day<=100000):∃D,J2 d day=some (D,0)/\Dw d D:=by
 obtain⟨D,I,H⟩:=AUT h;refine⟨D,?_,H⟩;unfold J2;rw[I,bindS,d_in1,AAr hd];rfl
end S
namespace S
def Q2(x y:Int):Int:=if x<y then -1 else if y<x then 1 else 0
theorem p_cmp{x y:Int}:D8 x y=some (Q2 x y):=by
 unfold D8 AAT Q2;by_cases h:x<y
 . simp[h]
 . by_cases H:y<x
   . simp[h,H]
   . simp[h,H]
theorem p_Or{a b:Int}:AAg [a,b]=some (if a=0 then b else a):=by
 refine Ret.eq ?_;unfold AAg;refine Ret.bind (Ret.loop (fun t:Int=>t=0\/t=1/\a=0\/t=2/\a=0/\b=0) (fun t=>2-t.toNat) (.inl rfl) ?_);rintro _ (rfl|⟨rfl,rfl⟩|⟨rfl,rfl,rfl⟩)
 . refine Ret.condT rfl (Ret.bind (Ret.val (show ixo [a,b] 0=some a from rfl) ?_));by_cases c:a=0
   . rw[AbL c];exact Ret.condF rfl (Ret.bind (Ret.chk (by omega) (Ret.next ⟨.inr (.inl ⟨rfl,c⟩),by decide⟩)))
   . rw[AbK c];exact Ret.condT rfl (Ret.done (Ret.elimR (Ret.ok (by rw[if_neg c]))))
 . refine Ret.condT rfl (Ret.bind (Ret.val (show ixo [0,b] 1=some b from rfl) ?_));by_cases c:b=0
   . rw[AbL c];exact Ret.condF rfl (Ret.bind (Ret.chk (by omega) (Ret.next ⟨.inr (.inr ⟨rfl,rfl,c⟩),by decide⟩)))
   . rw[AbK c];exact Ret.condT rfl (Ret.done (Ret.elimR (Ret.ok (by rw[AbO rfl]))))
 . exact Ret.condF rfl (Ret.done (Ret.elimL (Ret.ok (by simp))))
def alt(a b:Answer):Bool:=decide (a.day<b.day\/a.day=b.day/\a.id<b.id)
theorem p_first{a b:Answer}:M5 a b=some (alt a b):=by
 unfold M5;rw[p_cmp,bindS,p_cmp,bindS,p_Or,bindS];congr 1;unfold alt Q2;rw[Bool.eq_iff_iff,decide_eq_true_iff,decide_eq_true_iff];split<;>split<;>(try split)<;>(try split)<;>omega
def win(x:Dispute)(last:Int)(a:Answer):Bool:=inB x.day last a.day
def AFc(x:Dispute)(last:Int)(v:Verdict)(a:Answer):Verdict:=if win x last a&&(decide (v.is_=5)||alt a v.by_) then⟨a.day,a.says+1,a⟩ else v
def zeroA:Answer:=Answer.mk 0 0 0 0 0 0
def APO(x:Dispute)(A:Int)(l:List Answer):Verdict:=l.foldl (AFc x (x.day+A)) ⟨x.day+A+1,5,zeroA⟩
def dec(d:Desk)(x:Dispute):Verdict:=APO x d.terms.answer (d.answers.filter fun a=>decide (a.dispute=x.id))
theorem ASF{s:Int}(h:1<=s/\s<=3):(AHC s).getD 0=s+1:=by
 have:s=1\/s=2\/s=3:=by omega
 rcases this with rfl|rfl|rfl<;>rfl
theorem AJF{α β:Type}{f:β->α->β}{b:β}{l:List α}{n:Nat}(h:n<l.length):(l.take (n+1)).foldl f b=f ((l.take n).foldl f b) l[n]:=by
 rw[Q3 h,Acz];rfl
theorem ASG{d:Desk}{D:Desk_99}(hD:Dw d D)(hv:Vd d){x:Dispute}(hx:x∈d.disputes):P4 D x=some (dec d x):=by
 have U:=hv.x.v x hx;have T:=hv.t.1;obtain⟨_,_,f,O,x1,x2⟩:=U;have K:=(hv.r.v f (ABc O).1).2.2.2.2.2.1;have V:=hv.a.len;have hd:=hD.d;refine Ret.eq ?_;unfold P4;rw[hD.a,hd];let aa:=d.answers.filter fun a=>decide (a.dispute=x.id);have C:aa.length<=40:=AbP (Ab1 ..) V;have has:∀a∈aa,1<=a.says/\a.says<=3:=fun a Q=>(hv.a.v a (List.mem_filter.1 Q).1).2.2.1;show Ret (Option.bind _ _) (·=APO x d.terms.answer aa);refine Ret.bind (Ret.chk (by omega) (Ret.bind (Ret.chk (by omega) (Ret.bind (C3 aa.length (fun n (t:Int×Int×Int×Int×Int×Int×Int×Int×Int)=>∃v:Verdict,v=(aa.take n).foldl (AFc x (x.day+d.terms.answer)) ⟨x.day+d.terms.answer+1,5,zeroA⟩/\t=((n:Int),v.day,v.is_,v.by_.id,v.by_.dispute,v.by_.day,v.by_.says,v.by_.about,v.by_.cents)) ⟨_,rfl,rfl⟩ ?_ ?_)))))
 . rintro n I _ ⟨v,H,rfl⟩;have F:=has _ (AbX I);refine Ret.condT (Y8 I) (Ret.bind (Ret.val (a:=aa[n]) (AIZ (AbI I)) (Ret.bind ?_)));rw[d_in1,bindS];have key:∀b:Bool,b=(win x (x.day+d.terms.answer) aa[n]&&(decide (v.is_=5)||alt aa[n] v.by_))->Ret (Option.bind (α:=(Int×Int×Int×Int×Int×Int×Int×Int)) (cond b (some (aa[n].day,((AHC aa[n].says).getD 0),aa[n].id,aa[n].dispute,aa[n].day,aa[n].says,aa[n].about,aa[n].cents)) (some (v.day,v.is_,v.by_.id,v.by_.dispute,v.by_.day,v.by_.says,v.by_.about,v.by_.cents))) ((fun (x52,x53,x54,x55,x56,x57,x58,x59)=>(chk .i64 ((n:Int)+1)).bind fun n60=>some (Sum.inl (n60,x52,x53,x54,x55,x56,x57,x58,x59))))) (Nxt (fun (t:Int×Int×Int×Int×Int×Int×Int×Int×Int)=>∃v:Verdict,v=(aa.take (n+1)).foldl (AFc x (x.day+d.terms.answer)) ⟨x.day+d.terms.answer+1,5,zeroA⟩/\t=(((n+1:Nat):Int),v.day,v.is_,v.by_.id,v.by_.dispute,v.by_.day,v.by_.says,v.by_.about,v.by_.cents)) (fun (r:Int×Int×Int×Int×Int×Int×Int×Int)=>Ret (some (Verdict.mk r.1 r.2.1 (Answer.mk r.2.2.1 r.2.2.2.1 r.2.2.2.2.1 r.2.2.2.2.2.1 r.2.2.2.2.2.2.1 r.2.2.2.2.2.2.2))) (·=APO x d.terms.answer aa))):=fun b E=>by
    cases b with
    |true=>
     refine Ret.bind (Ret.condT rfl (Ret.ok (Ret.bind (Ret.chk (by omega) (Ret.next ⟨_,rfl,?_⟩)))))
     rw[AJF I,<-H]
     unfold AFc
     rw[AbO E.symm,ASF F]
     rfl
    |false=>
     refine Ret.bind (Ret.condF rfl (Ret.ok (Ret.bind (Ret.chk (by omega) (Ret.next ⟨_,rfl,?_⟩)))))
     rw[AJF I,<-H]
     unfold AFc
     rw[if_neg (by rw[<-E];decide)]
     rfl
   refine Ret.cond (fun J=>?_) fun J=>Ret.ok (key _ (by rw[show win x (x.day+d.terms.answer) aa[n]=false from J];rfl));have J:win x (x.day+d.terms.answer) aa[n]=true:=J;refine Ret.cond (fun W=>Ret.ok (key _ (by rw[J,W];rfl))) fun W=>?_;have e:(Answer.mk v.by_.id v.by_.dispute v.by_.day v.by_.says v.by_.about v.by_.cents)=v.by_:=rfl;rw[e,p_first,bindS];exact Ret.ok (key _ (by rw[J,W];rfl))
 . rintro _ ⟨v,H,rfl⟩;refine Ret.condF (Y9 (AbQ _)) (Ret.done (Ret.ok ?_));rw[Abf]at H;show _=List.foldl _ _ _;rw[<-H]
structure DecL(x:Dispute)(A:Int)(l:List Answer)(v:Verdict):Prop where
 is5:v.is_=5->v=⟨x.day+A+1,5,zeroA⟩/\∀a∈l,win x (x.day+A) a=false
 by_:v.is_≠5->v=⟨v.by_.day,v.by_.says+1,v.by_⟩/\v.by_∈l/\win x (x.day+A) v.by_=true/\∀a∈l,win x (x.day+A) a=true->alt a v.by_=false
variable{x:Dispute}{d:Desk}{day:Int}{α:Type}{n:Nat}
theorem AUU{a b c:Answer}(H:alt a b=true)(I:alt c b=false):alt c a=false:=by
 unfold alt at *;rw[decide_eq_true_iff]at H;rw[decide_eq_false_iff_not]at *;omega
theorem AaR{A:Int}:∀(l:List Answer),(∀a∈l,1<=a.says/\a.says<=3)->DecL x A l (APO x A l):=by
 have key:∀(l p:List Answer) (v:Verdict),(∀a∈l,1<=a.says/\a.says<=3)->DecL x A p v->DecL x A (p++l) (l.foldl (AFc x (x.day+A)) v):=by
  intro l;induction l with
  |nil=>intro p v _ h;simpa using h
  |cons a l ih=>
   intro p v U h
   have:p++a::l=(p++[a])++l:=by simp
   rw[this]
   refine ih _ _ (fun b H=>U b (AbC _ H)) ?_
   have V:=U a (AbF ..)
   unfold AFc
   by_cases c:(win x (x.day+A) a&&(decide (v.is_=5)||alt a v.by_))=true
   . rw[AbO c]
     rw[Bool.and_eq_true,Bool.or_eq_true]at c
     refine⟨fun I=>?_,fun _=>⟨rfl,mem_append.2 (.inr (mem_singleton.2 rfl)),c.1,fun b H J=>?_⟩⟩
     . have I:a.says+1=5:=I
       omega
     . show alt b a=false
       rcases mem_append.1 H with H|H
       . by_cases c5:v.is_=5
         . rw[(h.is5 c5).2 b H]at J;cases J
         . rcases c.2 with c2|c2
           . exact absurd (AbH c2) c5
           . exact AUU c2 ((h.by_ c5).2.2.2 b H J)
       . rw[mem_singleton.1 H]
         unfold alt
         exact AbK (by omega)
   . rw[if_neg c]
     refine⟨fun I=>⟨(h.is5 I).1,fun b H=>?_⟩,fun I=>⟨(h.by_ I).1,mem_append.2 (.inl (h.by_ I).2.1),(h.by_ I).2.2.1,fun b H J=>?_⟩⟩
     . rcases mem_append.1 H with H|H
       . exact(h.is5 I).2 b H
       . rw[mem_singleton.1 H]
         rw[AbL I,Bool.true_or,Bool.and_true]at c
         simpa using c
     . rcases mem_append.1 H with H|H
       . exact(h.by_ I).2.2.2 b H J
       . rw[mem_singleton.1 H]at J ⊢
         rw[J,AbK I,Bool.false_or,Bool.true_and]at c
         simpa using c
 intro l hl;have:=key l [] ⟨x.day+A+1,5,zeroA⟩ hl ⟨fun _=>⟨rfl,fun a V=>by cases V⟩,fun h=>absurd rfl h⟩;rw[Abb]at this;exact this
theorem AEz(hv:Vd d)(x:Dispute):DecL x d.terms.answer (d.answers.filter fun a=>decide (a.dispute=x.id)) (dec d x):=AaR _ fun a H=>(hv.a.v a (List.mem_filter.1 H).1).2.2.1
theorem AUV(hv:Vd d):x.day<=(dec d x).day/\(dec d x).day<=x.day+d.terms.answer+1:=by
 have J:=hv.t.1;have h:=AEz hv x;by_cases c:(dec d x).is_=5
 . rw[(h.is5 c).1];show _<=x.day+d.terms.answer+1/\x.day+d.terms.answer+1<=_;omega
 . obtain⟨I,_,H,_⟩:=h.by_ c;have H:=H2 H;rw[I];show _<=(dec d x).by_.day/\(dec d x).by_.day<=_;omega
theorem AGZ(hv:Vd d)(hx:x∈d.disputes):0<=(dec d x).day/\(dec d x).day<=100000:=by
 obtain⟨_,_,f,I,x1,x2⟩:=hv.x.v x hx;have H:=(hv.r.v f (ABc I).1).2.2.2.2.2.1;have:=AUV hv (x:=x);omega
theorem ASH(hv:Vd d)(x:Dispute):2<=(dec d x).is_/\(dec d x).is_<=5:=by
 by_cases c:(dec d x).is_=5
 . omega
 . obtain⟨I,H,_⟩:=(AEz hv x).by_ c;have:=(hv.a.v _ (List.mem_filter.1 H).1).2.2.1;rw[I];show 2<=(dec d x).by_.says+1/\(dec d x).by_.says+1<=5;omega
def wh(d:Desk)(x:Dispute)(day:Int):Int:=if (dec d x).day<=day then(dec d x).is_ else if x.day<=day then 1 else 0
theorem AHG{D:Desk_99}(hD:Dw d D)(hv:Vd d)(hx:x∈d.disputes):F9 D x day=some (wh d x day,dec d x):=by
 unfold F9 wh;rw[ASG hD hv hx,bindS];by_cases c:(dec d x).day<=day
 . rw[AbL c,condT,AbO c]
 . rw[AbK c,condF,if_neg c];by_cases c2:x.day<=day
   . rw[AbL c2,condT,AbO c2]
   . rw[AbK c2,condF,if_neg c2]
theorem AQr{l:List α}{k:α->Int}(h:(l.map k).Nodup){x:α}(hx:x∈l)(H:n<l.length)(J:k l[n]=k x):l[n]=x:=by
 rw[List.Nodup,AcU,AcE]at h;obtain⟨j,I,rfl⟩:=AcJ hx;rcases AdF n j with e|e|e
 . exact absurd J (h n j H I e)
 . subst e;rfl
 . exact absurd J.symm (h j n I H e)
theorem AUW(hv:Vd d)(hx:x∈d.disputes)(hd:0<=day/\day<=100000):AAX d x.id day=some (wh d x day,(dec d x).day,0):=by
 obtain⟨D,I,hD⟩:=ADj hv hd;have H:=hv.x.len;refine Ret.eq ?_;unfold AAX;rw[I,bindS];refine Ret.condF (by decide) (Ret.bind ?_);rw[hD.d];refine(AED (s:=d.disputes) (f:=fun a3=>AAN a3 x.id) (fun _ _=>rfl) (by omega) (fun h=>?_) fun k hk h J=>?_:Ret (AIE _ _) _)
 . exact absurd rfl (AbM (h x hx))
 . refine Ret.condF (AbK (by omega)) (Ret.bind (K1 hk ?_));rw[AQr hv.x.nd hx hk (AbH h),AHG hD hv hx];exact Ret.ok rfl
def isO(d:Desk)(report day:Int)(x:Dispute):Bool:=decide (x.report=report)&&decide (wh d x day=1)
def isS(d:Desk)(report day:Int)(x:Dispute):Bool:=decide (x.report=report)&&(decide (wh d x day=2)&&decide (day-(dec d x).day<=d.terms.mark))
def AC5(d:Desk)(report day:Int):Int:=if d.disputes.any (isO d report day) then 1 else if d.disputes.any (isS d report day) then 2 else 0
theorem AFd{l:List α}{p:α->Bool}(h:n<l.length):(l.take (n+1)).any p=((l.take n).any p||p l[n]):=by
 rw[Q3 h,List.any_append];simp
theorem AMl(hv:Vd d){report day:Int}(hd:0<=day/\day<=100000):Q9 d report day=some (if (fct d.reports report).isSome then(AC5 d report day,0) else(0,6)):=by
 obtain⟨D,W,hD⟩:=ADj hv hd;have U:=hv.x.len;refine Ret.eq ?_;unfold Q9;rw[W,bindS];refine Ret.condF (by decide) ?_;rw[hD.f,hD.d];cases C:fct d.reports report with
 |none=>exact Ret.condT rfl (Ret.ok rfl)
 |some f=>
  refine Ret.condF rfl ?_
  refine Ret.bind (C3 d.disputes.length (fun n (t:Int×Int)=>t.2=n/\(d.disputes.take n).any (isO d report day)=false/\t.1=if (d.disputes.take n).any (isS d report day) then 2 else 0) ⟨rfl,rfl,rfl⟩ ?_ ?_)
  . rintro n H ⟨m,_⟩ ⟨rfl,I,hm⟩
    dsimp only at hm
    have hx:=AbX H
    refine Ret.condT (Y8 H) (Ret.bind (Ret.bind (K1 H (Ret.cond (fun c=>?_) fun c=>?_))))
    . have c:decide (d.disputes[n].report=report)=false:=by simpa using c
      refine Ret.ok (Ret.elimL (Ret.bind (Ret.chk (by omega) (Ret.next ⟨by dsimp only;omega,?_,?_⟩))))
      . rw[AFd H,I];unfold isO;rw[c];rfl
      . dsimp only;rw[AFd H,hm];unfold isS;rw[c,Bool.false_and,Bool.or_false]
    . have c:decide (d.disputes[n].report=report)=true:=by simpa using c
      rw[AHG hD hv hx,bindS]
      refine Ret.cond (fun c1=>?_) fun c1=>?_
      . refine Ret.ok (Ret.elimR (Ret.done (Ret.ok ?_)))
        have:d.disputes.any (isO d report day)=true:=List.any_eq_true.2 ⟨_,hx,by unfold isO;rw[c,c1];rfl⟩
        unfold AC5
        rw[AbO this,AbH c1]
        rfl
      . refine Ret.bind ?_
        have key:∀b:Bool,b=(decide (wh d d.disputes[n] day=2)&&decide (day-(dec d d.disputes[n]).day<=d.terms.mark))->Ret (Option.bind (α:=Int) (cond b (some (wh d d.disputes[n] day)) (some m)) fun x27=>some (Sum.inl x27:Int⊕Int)) fun a=>Ret (Sum.elim (fun x28=>(chk .i64 ((n:Int)+1)).bind fun n29=>some (Sum.inl (x28,n29))) (fun x30=>some (Sum.inr x30)) a) (Nxt (fun (t:Int×Int)=>t.2=((n+1:Nat):Int)/\(d.disputes.take (n+1)).any (isO d report day)=false/\t.1=if (d.disputes.take (n+1)).any (isS d report day) then 2 else 0) fun a=>Ret (some (a,(0:Int))) (·=if (some f).isSome then(AC5 d report day,0) else(0,6))):=fun b J=>by
         have eo:(d.disputes.take (n+1)).any (isO d report day)=false:=by rw[AFd H,I];unfold isO;rw[c,c1];rfl
         have es:(d.disputes.take (n+1)).any (isS d report day)=((d.disputes.take n).any (isS d report day)||b):=by rw[AFd H,J];unfold isS;rw[c,Bool.true_and]
         cases b with
         |true=>
          refine Ret.bind (Ret.condT rfl (Ret.ok (Ret.ok (Ret.elimL (Ret.bind (Ret.chk (by omega) (Ret.next ⟨by dsimp only;omega,eo,?_⟩)))))))
          rw[es,Bool.or_true,AbO rfl]
          symm at J
          rw[Bool.and_eq_true]at J
          exact AbH J.1
         |false=>
          refine Ret.bind (Ret.condF rfl (Ret.ok (Ret.ok (Ret.elimL (Ret.bind (Ret.chk (by omega) (Ret.next ⟨by dsimp only;omega,eo,?_⟩)))))))
          rw[es,Bool.or_false]
          exact hm
        have V:=AGZ hv hx
        refine Ret.cond (fun c2=>Ret.bind (Ret.chk (by omega) (Ret.ok (key _ ?_)))) fun c2=>Ret.ok (key _ ?_)
        . rw[c2,Bool.true_and]
        . rw[c2];rfl
  . rintro⟨m,_⟩ ⟨rfl,I,hm⟩
    dsimp only at hm
    rw[Abf]at I hm
    refine Ret.condF (Y9 (AbQ _)) (Ret.done (Ret.ok ?_))
    rw[AbO (show(some f).isSome=true from rfl)]
    unfold AC5
    rw[if_neg (by rw[I];decide),hm]
end S
namespace S
def AK3{α:Type}(D:Nat->α->Option Int)(a b:α)(a2_:List Nat):Option Int:=(B6 (S:=Int) (R:=(Unit⊕Int)) (fun x7=>cond (decide (x7<(a2_.length:Int))) ((ixo a2_ x7).bind fun y8=>(D y8 a).bind fun y9=>(D y8 b).bind fun y10=>(D8 y9 y10).bind fun r11=>cond ((!decide (r11=0))) (some (Sum.inr (Sum.inr r11))) ((chk .i64 (x7+1)).bind fun n12=>some (Sum.inl n12))) (some (Sum.inr (Sum.inl ())))) (0:Int)).bind ((Sum.elim (fun _=>some (0:Int)) (fun r13=>some r13)))
def cf2{α:Type}(k1 k2:α->Int)(a b:α):Int:=if Q2 (k1 a) (k1 b)=0 then Q2 (k2 a) (k2 b) else Q2 (k1 a) (k1 b)
variable{x:Int}{y:Int}{α:Type}{k1:α->Int}{k2:α->Int}{a:α}{b:α}
theorem ANx:Q2 x y<0↔x<y:=by unfold Q2;split<;>(try split)<;>omega
theorem AMm:Q2 x y=0↔x=y:=by unfold Q2;split<;>(try split)<;>omega
theorem AE0:cf2 k1 k2 a b<0↔k1 a<k1 b\/k1 a=k1 b/\k2 a<k2 b:=by
 unfold cf2;split
 . rename_i h;rw[AMm]at h;rw[ANx];omega
 . rename_i h;rw[AMm]at h;rw[ANx];omega
theorem AHH{D:Nat->α->Option Int}{i j:Nat}(I:∀y,D i y=some (k1 y))(H:∀y,D j y=some (k2 y)):AK3 D a b [i,j]=some (cf2 k1 k2 a b):=by
 refine Ret.eq ?_;unfold AK3;refine Ret.bind (Ret.loop (fun t:Int=>t=0\/t=1/\Q2 (k1 a) (k1 b)=0\/t=2/\Q2 (k1 a) (k1 b)=0/\Q2 (k2 a) (k2 b)=0) (fun t=>2-t.toNat) (.inl rfl) ?_);rintro _ (rfl|⟨rfl,e⟩|⟨rfl,e,e2⟩)
 . refine Ret.condT rfl (Ret.bind (Ret.val (show ixo [i,j] 0=some i from rfl) ?_));rw[I,I,bindS,bindS,p_cmp,bindS];by_cases c:Q2 (k1 a) (k1 b)=0
   . rw[AbL c];exact Ret.condF rfl (Ret.bind (Ret.chk (by omega) (Ret.next ⟨.inr (.inl ⟨rfl,c⟩),by decide⟩)))
   . rw[AbK c];exact Ret.condT rfl (Ret.done (Ret.elimR (Ret.ok (by unfold cf2;rw[if_neg c]))))
 . refine Ret.condT rfl (Ret.bind (Ret.val (show ixo [i,j] 1=some j from rfl) ?_));rw[H,H,bindS,bindS,p_cmp,bindS];by_cases c:Q2 (k2 a) (k2 b)=0
   . rw[AbL c];exact Ret.condF rfl (Ret.bind (Ret.chk (by omega) (Ret.next ⟨.inr (.inr ⟨rfl,e,c⟩),by decide⟩)))
   . rw[AbK c];exact Ret.condT rfl (Ret.done (Ret.elimR (Ret.ok (by unfold cf2;rw[AbO e]))))
 . exact Ret.condF rfl (Ret.done (Ret.elimL (Ret.ok (by unfold cf2;rw[AbO e,e2]))))
def le2{α:Type}(k1 k2:α->Int)(a b:α):Prop:=k1 a<k1 b\/k1 a=k1 b/\k2 a<=k2 b
theorem AJG{x:List α}{cmp:α->α->Option Int}(E:∀a b,cmp a b=some (cf2 k1 k2 a b))(one:∀a b,a∈x->b∈x->k1 a=k1 b->k2 a=k2 b->a=b)(hl:x.length<=1000000):Ret (AC1 x cmp) fun out=>out.Perm x/\out.Pairwise (le2 k1 k2):=by
 have W:AMe x cmp (cf2 k1 k2):=by
  refine⟨fun a b _ _=>E a b,⟨fun a=>?_,fun a b c H U=>?_,fun a b c H U=>?_⟩,fun a b D C H U=>?_⟩
  . show decide (cf2 k1 k2 a.1 a.1<0)=false;rw[decide_eq_false_iff_not,AE0];omega
  . have H:=AbH H;have U:=AbH U;refine AbL ?_;rw[AE0]at *;omega
  . have H:=AbM H;have U:=AbM U;refine AbK ?_;rw[AE0]at *;omega
  . rw[AE0]at H U;exact one a b D C (by omega) (by omega)
 have J:x.length<4611686018427387904/\∃cf,AMe x cmp cf:=⟨by omega,_,W⟩;have F:AC1 x cmp=some (x.mergeSort fun a b=>!decide (J.2.choose b a<0)):=by
  unfold AC1;rw[dif_pos J]
 refine Ret.val F ⟨List.mergeSort_perm _ _,?_⟩;have V:=J.2.choose_spec.1;have hm:=List.map_mergeSort (r:=fun a b=>!decide (J.2.choose b a<0)) (s:=fun a b=>!decide (cf2 k1 k2 b a<0)) (f:=id) (l:=x) fun a D b C=>by
  have H:=V b a C D;rw[E]at H;rw[<-AbA H];rfl
 simp only[List.map_id]at hm;rw[hm];have I:∀a b:α,(!decide (cf2 k1 k2 b a<0))=true↔le2 k1 k2 a b:=fun a b=>by
  rw[Bool.not_eq_true',decide_eq_false_iff_not,AE0];unfold le2;omega
 refine(List.pairwise_mergeSort (fun a b c H U=>?_) (fun a b=>?_) x).imp fun h=>(I _ _).1 h
 . rw[I]at *;unfold le2 at *;omega
 . rw[Bool.or_eq_true,I,I];unfold le2;omega
theorem AB7{l1 l2:List α}(J:l1.Perm l2)(C:l1.Pairwise (le2 k1 k2))(W:l2.Pairwise (le2 k1 k2))(one:∀a b,a∈l1->b∈l1->k1 a=k1 b->k2 a=k2 b->a=b):l1=l2:=by
 refine List.Perm.eq_of_pairwise (fun a b V U I H=>?_) C W J;unfold le2 at I H;exact one a b V (J.mem_iff.2 U) (by omega) (by omega)
theorem V9{l:List α}{k:α->Int}(h:(l.map k).Nodup):∀a b,a∈l->b∈l->k a=k b->a=b:=fun a b I H e=>by
 obtain⟨i,hi,rfl⟩:=AcJ I;exact AQr h H hi e
def AJy(d:Desk)(day:Int)(out:List Int):Prop:=∃m:List Dispute,m.Perm d.disputes/\m.Pairwise (le2 (·.day) (·.id))/\out=(m.filter fun y=>decide (wh d y day=1)).map (·.id)
theorem APP{d:Desk}(hv:Vd d){day:Int}(hd:0<=day/\day<=100000):Ret (P6 d day) fun r=>r.2=0/\AJy d day r.1:=by
 obtain⟨D,Q,hD⟩:=ADj hv hd;have C:=hv.x.len;unfold P6;rw[Q,bindS];refine Ret.condF (by decide) ?_;rw[hD.d];have E:P8 d.disputes=some d.disputes:=by
  unfold P8;have O:appo 24 ([]:List Dispute) d.disputes=some d.disputes:=AAH (xs:=([]:List Dispute)) (by simp;omega) (by simp;omega);refine AKA (fun h=>?_) ?_
  . rw[h];rfl
  . show (appo 24 ([]:List Dispute) d.disputes).bind (fun l7=>some l7)=some d.disputes;rw[O,bindS]
 rw[E,bindS];have V:=AJG (x:=d.disputes) (cmp:=fun a b=>J9 a b [60,61]) (k1:=(·.day)) (k2:=(·.id)) (fun a b=>AHH (D:=fd130.D) (fun _=>rfl) (fun _=>rfl)) (fun a b K F _ e=>V9 hv.x.nd a b K F e) (by omega);refine Ret.bind (Ret.bind (V.mono fun m hm=>Ret.ok ?_));obtain⟨I,J⟩:=hm;have W:m.length=d.disputes.length:=I.length_eq;refine Ret.bind (C3 m.length (fun n (t:Int×List Int)=>t.1=n/\t.2=((m.take n).filter fun y=>decide (wh d y day=1)).map (·.id)) ⟨rfl,rfl⟩ ?_ ?_)
 . rintro n H ⟨_,o⟩ ⟨rfl,rfl⟩;have hx:m[n]∈d.disputes:=I.mem_iff.1 (AbX H);refine Ret.condT (Y8 H) (Ret.bind (K1 H ?_));rw[AHG hD hv hx,bindS];have U:(((m.take n).filter fun y=>decide (wh d y day=1)).map (·.id)).length<=n:=by
    rw[Abd];exact AbP (Ab1 ..) (by rw[Abq];omega)
   refine Ret.bind (Ret.cond (fun c=>?_) fun c=>?_)
   . refine Ret.bind (Ret.appo (by simp only[List.length_singleton];omega) (by simp only[List.length_singleton];omega) (Ret.ok (Ret.bind (Ret.chk (by omega) (Ret.next ⟨by dsimp only;omega,?_⟩)))));dsimp only;rw[Q3 H,AcQ,AbT];congr 1;rw[Ab4,AbO c];rfl
   . refine Ret.ok (Ret.bind (Ret.chk (by omega) (Ret.next ⟨by dsimp only;omega,?_⟩)));dsimp only;rw[Q3 H,AcQ,AbT,Ab4,if_neg (by rw[c];decide)];simp
 . rintro⟨_,o⟩ ⟨rfl,rfl⟩;refine Ret.condF (Y9 (AbQ _)) (Ret.done (Ret.ok ⟨rfl,m,I,J,?_⟩));dsimp only;rw[Abf]
end S
namespace S
def Aim(K:List Report)(r o:Report):Prop:=o∈K/\o.id=r.of_/\o.source=r.source/\o.account=r.account
def Wd(K:List Report)(i:Int)(r:Report):Prop:=r∈K/\r.kind=9/\r.of_=i/\∃o,Aim K r o/\o.kind≠9
def Least(p:Report->Prop)(l:List Report):Option Int->Prop
 |none=>∀r∈l,¬p r
 |some z=>∃r∈l,p r/\r.id=z/\∀s∈l,p s->z<=s.id
def Latest(p:Report->Prop)(l:List Report):Option Report->Prop
 |none=>∀r∈l,¬p r
 |some r=>r∈l/\p r/\∀s∈l,p s->s.made<r.made\/s.made=r.made/\s.id<=r.id
def WdR(K:List Report)(i:Int)(z:Option Int):Prop:=Least (Wd K i) K z
def Co(K:List Report)(o r:Report):Prop:=r.kind=8/\Aim K r o/\(0<=r.cents/\r.cents<=most o.kind)/\WdR K r.id none
structure Ok(K:List Report):Prop where
 v:∀r∈K,V r
 nd:(K.map (·.id)).Nodup
 len:K.length<=60
variable{p:Report->Prop}{a:Option Int}{q:Report->Prop}
theorem Ok.one{K:List Report}(h:Ok K){a b:Report}(I:a∈K)(H:b∈K)(e:a.id=b.id):a=b:=by
 exact V9 h.nd a b I H e
theorem Least.uniq{l:List Report}{a b:Option Int}(U:Least p l a)(J:Least p l b):a=b:=by
 cases a with
 |none=>
  cases b with
  |none=>rfl
  |some y=>obtain⟨r,H,I,_⟩:=J;exact absurd I (U r H)
 |some x=>
  cases b with
  |none=>obtain⟨r,H,I,_⟩:=U;exact absurd I (J r H)
  |some y=>
   obtain⟨r,H,I,rfl,hx⟩:=U
   obtain⟨s,V,W,rfl,hy⟩:=J
   have:=hx s V W
   have:=hy r H I
   rw[show r.id=s.id by omega]
theorem Least.congr{l l':List Report}(h:Least p l a)(e:∀r,r∈l/\p r↔r∈l'/\q r):Least q l' a:=by
 cases a with
 |none=>
  intro r H I
  obtain⟨U,J⟩:=(e r).2 ⟨H,I⟩
  exact h r U J
 |some x=>
  obtain⟨r,H,W,hx,hm⟩:=h
  obtain⟨U,J⟩:=(e r).1 ⟨H,W⟩
  exact⟨r,U,J,hx,fun s V I=>by
   obtain⟨D,C⟩:=(e s).2 ⟨V,I⟩;exact hm s D C⟩
theorem Latest.congr{l l':List Report}{a:Option Report}(h:Latest p l a)(e:∀r,r∈l/\p r↔r∈l'/\q r):Latest q l' a:=by
 cases a with
 |none=>
  intro r H I
  obtain⟨U,J⟩:=(e r).2 ⟨H,I⟩
  exact h r U J
 |some x=>
  obtain⟨H,W,hm⟩:=h
  obtain⟨U,J⟩:=(e x).1 ⟨H,W⟩
  exact⟨U,J,fun s V I=>by
   obtain⟨D,C⟩:=(e s).2 ⟨V,I⟩;exact hm s D C⟩
theorem Latest.uniq{K:List Report}(hK:Ok K){a b:Option Report}(I:Latest p K a)(H:Latest p K b):a=b:=by
 cases a with
 |none=>
  cases b with
  |none=>rfl
  |some y=>exact absurd H.2.1 (I y H.1)
 |some x=>
  cases b with
  |none=>exact absurd I.2.1 (H x I.1)
  |some y=>
   obtain⟨hx,px,mx⟩:=I
   obtain⟨hy,py,my⟩:=H
   have:=mx y hy py
   have:=my x hx px
   rw[hK.one hx hy (by omega)]
theorem Least.push{l:List Report}{z:Option Int}(h:Least p l z)(x:Report):(¬p x->Least p (l++[x]) z)/\(p x->(z=none\/∃y,z=some y/\x.id<y)->Least p (l++[x]) (some x.id))/\(p x->∀y,z=some y->y<=x.id->Least p (l++[x]) z):=by
 have mem:∀s,s∈l++[x]↔s∈l\/s=x:=fun s=>by simp
 refine⟨fun hx=>?_,fun hx D=>?_,fun hx y hy C=>?_⟩
 . cases z with
   |none=>
    intro r J
    rcases (mem r).1 J with H|rfl
    . exact h r H
    . exact hx
   |some y=>
    obtain⟨r,J,V,W,hm⟩:=h
    exact⟨r,(mem r).2 (.inl J),V,W,fun s U I=>by
     rcases (mem s).1 U with H|rfl
     . exact hm s H I
     . exact absurd I hx⟩
 . refine⟨x,(mem x).2 (.inr rfl),hx,rfl,fun s U I=>?_⟩;rcases (mem s).1 U with H|rfl
   . rcases D with rfl|⟨y,rfl,E⟩
     . exact absurd I (h s H)
     . obtain⟨r,J,V,W,hm⟩:=h;have:=hm s H I;omega
   . exact Int.le_refl _
 . subst hy;obtain⟨r,J,V,W,hm⟩:=h;exact⟨r,(mem r).2 (.inl J),V,W,fun s U I=>by
    rcases (mem s).1 U with H|rfl
    . exact hm s H I
    . exact C⟩
theorem Latest.push{l:List Report}{z:Option Report}(h:Latest p l z)(x:Report):(¬p x->Latest p (l++[x]) z)/\(p x->(z=none\/∃y,z=some y/\(y.made<x.made\/y.made=x.made/\y.id<x.id))->Latest p (l++[x]) (some x))/\(p x->∀y,z=some y->¬(y.made<x.made\/y.made=x.made/\y.id<x.id)->Latest p (l++[x]) z):=by
 have mem:∀s,s∈l++[x]↔s∈l\/s=x:=fun s=>by simp
 refine⟨fun hx=>?_,fun hx W=>?_,fun hx y hy D=>?_⟩
 . cases z with
   |none=>
    intro r U
    rcases (mem r).1 U with H|rfl
    . exact h r H
    . exact hx
   |some y=>
    obtain⟨U,V,hm⟩:=h
    exact⟨(mem y).2 (.inl U),V,fun s J I=>by
     rcases (mem s).1 J with H|rfl
     . exact hm s H I
     . exact absurd I hx⟩
 . refine⟨(mem x).2 (.inr rfl),hx,fun s J I=>?_⟩;rcases (mem s).1 J with H|rfl
   . rcases W with rfl|⟨y,rfl,C⟩
     . exact absurd I (h s H)
     . have:=h.2.2 s H I;omega
   . omega
 . subst hy;obtain⟨U,V,hm⟩:=h;exact⟨(mem y).2 (.inl U),V,fun s J I=>by
    rcases (mem s).1 J with H|rfl
    . exact hm s H I
    . omega⟩
def Z0:List Report->Int->List Report
 |[],_=>[]
 |r::l,k=>if r.made<=k/\r∉Z0 l k then r::Z0 l k else Z0 l k
theorem kn_mem:∀{l:List Report} {k:Int} {r:Report},r∈Z0 l k↔r∈l/\r.made<=k
 |[],k,r=>by simp[Z0]
 |x::l,k,r=>by
  unfold Z0;split
  . rename_i h;rw[Abc,Abc,kn_mem];constructor
    . rintro (rfl|H)
      . exact⟨.inl rfl,h.1⟩
      . exact⟨.inr H.1,H.2⟩
    . rintro⟨rfl|H,I⟩
      . exact .inl rfl
      . exact .inr ⟨H,I⟩
  . rename_i h;rw[Abc,kn_mem];constructor
    . rintro⟨H,I⟩;exact⟨.inr H,I⟩
    . rintro⟨rfl|H,I⟩
      . exact kn_mem.1 (Acw fun J=>h ⟨I,J⟩)
      . exact⟨H,I⟩
theorem kn_nd:∀{l:List Report} {k:Int},(Z0 l k).Nodup
 |[],k=>AcW
 |x::l,k=>by
  unfold Z0;split
  . rename_i h;exact List.nodup_cons.2 ⟨h.2,kn_nd⟩
  . exact kn_nd
theorem AQs:∀{l:List Report} {k:Int},(Z0 l k).length<=l.length
 |[],k=>AbQ _
 |x::l,k=>by
  unfold Z0;have:=AQs (l:=l) (k:=k);split
  . simp only[List.length_cons];omega
  . simp only[List.length_cons];omega
theorem AAu{l:List Report}(h:VL l)(k:Int):Ok (Z0 l k):=by
 refine⟨fun r I=>h.v r (kn_mem.1 I).1,?_,AbP AQs h.len⟩;rw[List.Nodup,AcU];exact List.Pairwise.imp_of_mem (fun {a b} U J H e=>H (h.cons a (kn_mem.1 U).1 b (kn_mem.1 J).1 e)) kn_nd
def Rep(K:List Report)(m:A4 Int Report):Prop:=∀i r,m i=some r↔r∈K/\r.id=i
theorem ABf{S β:Type}{f:S->β->Option S}(I:List β->S->Prop):∀(l pre:List β) (s:S),I pre s->(∀pre x s,x∈l->I pre s->∃s',f s x=some s'/\I (pre++[x]) s')->∃s',l.foldlM f s=some s'/\I (pre++l) s'
 |[],pre,s,h,_=>⟨s,rfl,by simpa using h⟩
 |x::l,pre,s,h,H=>by
  obtain⟨s1,W,V⟩:=H pre x s (AbF ..) h;obtain⟨s2,U,J⟩:=ABf I l (pre++[x]) s1 V fun pre y s hy=>H pre y s (AbC _ hy);refine⟨s2,?_,by simpa using J⟩;rw[Ab9,W];exact U
theorem Rep.lists{K:List Report}(hK:Ok K){m:A4 Int Report}(h:Rep K m):Lists m (K.map fun r=>(r.id,r)):=by
 refine⟨?_,fun a y=>?_⟩
 . rw[Abl];exact hK.nd
 . rw[h,AcO];constructor
   . rintro⟨r,H,e⟩;cases e;exact⟨H,rfl⟩
   . rintro⟨H,rfl⟩;exact⟨y,H,rfl⟩
theorem Rep.mem{K:List Report}{m:A4 Int Report}(h:Rep K m){l:List (Int×Report)}(hl:Lists m l)(r:Report):r∈l.map (·.2)↔r∈K:=by
 rw[AcO];constructor
 . rintro⟨⟨a,y⟩,hy,rfl⟩;exact((h a y).1 ((hl.2 a y).1 hy)).1
 . intro H;exact⟨(r.id,r),(hl.2 _ _).2 ((h _ _).2 ⟨H,rfl⟩),rfl⟩
theorem AGb{S κ α R:Type}{f:S->κ×α->Option S}{m:A4 κ α}{l0:List (κ×α)}(J:Lists m l0){s0:S}(Spec:S->Prop)(H:∀l,Lists m l->∃s,l.foldlM f s0=some s/\Spec s)(uniq:∀s s',Spec s->Spec s'->s=s'){K:S->Option R}{Q:R->Prop}(h:∀s,Spec s->Ret (K s) Q):Ret (X6 m fun l=>(l.foldlM f s0).bind K) Q:=by
 obtain⟨r,D,I⟩:=H _ J;obtain⟨a,V,U⟩:=h r I;refine⟨a,AJS J fun l hl=>?_,U⟩;obtain⟨s,C,W⟩:=H l hl;rw[C,bindS,uniq s r W I,V]
theorem AWP{m:A4 Int Report}{r:Report}(h:m r.of_=none):F3 (Store.mk m) r=some (Report.mk 0 0 0 0 0 0 0 0,false):=by
 unfold F3;simp[h]
theorem AWQ{m:A4 Int Report}{r o:Report}(h:m r.of_=some o):F3 (Store.mk m) r=some (o,decide (o.source=r.source/\o.account=r.account)):=by
 unfold F3;by_cases c1:o.source=r.source
 . simp[h,c1];rw[<-c1]
 . simp[h,c1]
section
variable{K:List Report}(hK:Ok K){m:A4 Int Report}(hm:Rep K m)
include hK hm
theorem ATB{r:Report}{Q:Report×Bool->Prop}(W:∀o,Aim K r o->Q (o,true))(V:∀o',(∀o,¬Aim K r o)->Q (o',false)):Ret (F3 (Store.mk m) r) Q:=by
 rcases I:m r.of_ with _|o
 . rw[AWP I];refine Ret.ok (V _ fun o H=>?_);rw[(hm _ o).2 ⟨H.1,H.2.1⟩]at I;cases I
 . obtain⟨J,U⟩:=(hm _ o).1 I;rw[AWQ I];by_cases c:o.source=r.source/\o.account=r.account
   . rw[AbL c];exact Ret.ok (W o ⟨J,U,c.1,c.2⟩)
   . rw[AbK c];exact Ret.ok (V _ fun o' H=>c (by rw[<-hK.one H.1 J (by rw[H.2.1,U])];exact⟨H.2.2.1,H.2.2.2⟩))
end
def Co'(K:List Report)(i:Int)(r:Report):Prop:=∃o∈K,o.id=i/\o.kind<=7/\WdR K i none/\Co K o r
structure Dk(K:List Report)(d:Desk_139):Prop where
 reports:Rep K d.store.reports
 gone:∀i,WdR K i (d.gone i)
 fixed:∀i,∃z:Option Report,d.fixed i=z.map (·.id)/\Latest (Co' K i) K z
theorem AQt{l:List Report}(hv:VL l){known:Int}{Q:Desk_139->Prop}(h:∀d,Dk (Z0 l known) d->Q d):Ret (Q5 l known) Q:=by
 have hK:Ok (Z0 l known):=AAu hv known;have hC:=hv.cons;have hl:=hv.len;generalize hKe:Z0 l known=K at h hK;unfold Q5;refine Ret.bind (C3 l.length (fun n (t:Int×A4 Int Report)=>t.1=n/\∀i r,t.2 i=some r↔(r∈l.take n/\r.made<=known)/\r.id=i) ⟨rfl,fun i r=>by simp[fnone]⟩ ?_ ?_)
 . rintro n O ⟨_,m⟩ ⟨rfl,hm⟩;dsimp only at hm;refine Ret.condT (Y8 O) (Ret.bind (K1 O (Ret.bind (Ret.cond (fun c=>?_) fun c=>?_))))
   . have c:=AbH c;refine Ret.ok (Ret.bind (Ret.chk (by omega) (Ret.next ⟨by dsimp only;omega,fun i r=>?_⟩)));rw[G1 O];show B4 m l[n].id l[n] i=some r↔_;unfold B4;by_cases e:i=l[n].id
     . subst e;simp only[if_true];constructor
       . intro H;have:=AbA H;exact⟨⟨.inr this.symm,by rw[<-this];exact c⟩,by rw[<-this]⟩
       . rintro⟨⟨H|H,X⟩,B⟩
         . rw[hC r (Acr H) l[n] (AbX O) B]
         . rw[H]
     . simp only[e,if_false];rw[hm];constructor
       . rintro⟨⟨H,X⟩,B⟩;exact⟨⟨.inl H,X⟩,B⟩
       . rintro⟨⟨H|H,X⟩,B⟩
         . exact⟨⟨H,X⟩,B⟩
         . exact absurd (by rw[<-B,H]) e
   . have c:=AbM c;refine Ret.ok (Ret.bind (Ret.chk (by omega) (Ret.next ⟨by dsimp only;omega,fun i r=>?_⟩)));rw[G1 O];dsimp only;rw[hm];constructor
     . rintro⟨⟨H,X⟩,B⟩;exact⟨⟨.inl H,X⟩,B⟩
     . rintro⟨⟨H|H,X⟩,B⟩
       . exact⟨⟨H,X⟩,B⟩
       . exact absurd (H▸X) c
 rintro⟨_,m⟩ ⟨rfl,hm⟩;dsimp only at hm;rw[Abf]at hm;refine Ret.condF (Y9 (AbQ _)) (Ret.done ?_);have hm:Rep K m:=fun i r=>by rw[hm,<-hKe,kn_mem]
 have j:=hm.lists hK;have mem1:∀{lx:List (Int×Report)},Lists m lx->∀x∈lx,x.2∈K:=fun V x hx=>(hm.mem V x.2).1 (mem_map.2 ⟨x,hx,rfl⟩);refine AGb j (fun s:A4 Int Int=>∀i,WdR K i (s i)) (fun lx V=>?_) (fun s s' u N=>funext fun i=>(u i).uniq (N i)) fun g hg=>?_
 . refine Exists.imp (fun s (h:_/\_)=>⟨h.1,fun i=>(h.2 i).congr fun r=>by rw[Abb,hm.mem V]⟩) (ABf (fun (pre:List (Int×Report)) (s:A4 Int Int)=>∀i,Least (Wd K i) (pre.map (·.2)) (s i)) lx [] (fnone:A4 Int Int) (fun i r P=>by simp at P) (fun pre x s hx D=>?_))
   . obtain⟨xk,r⟩:=x;have P:r∈K:=mem1 V _ hx;have no:(∀i,¬Wd K i r)->∀i,Least (Wd K i) ((pre++[(xk,r)]).map (·.2)) (s i):=fun L i=>by rw[AbT];exact((D i).push r).1 (L i)
     show Ret _ fun s':A4 Int Int=>∀i,Least (Wd K i) ((pre++[(xk,r)]).map (·.2)) (s' i);refine Ret.bind (ATB hK hm (fun o T=>?_) fun o' S=>?_)
     . dsimp only;by_cases c1:r.kind=9
       . rw[AbL c1];by_cases c2:o.kind=9
         . rw[AbL c2];refine Ret.bind (Ret.condT rfl (Ret.condT rfl (Ret.ok (Ret.bind (Ret.condF rfl (Ret.ok (Ret.ok (no fun i A=>?_))))))));obtain⟨_,_,R,o2,G,H⟩:=A;exact H (by rw[hK.one G.1 T.1 (by rw[G.2.1,T.2.1])];exact c2)
         . rw[AbK c2];have A:Wd K o.id r:=⟨P,c1,T.2.1.symm,o,T,c2⟩;have oth:∀i,i≠o.id->¬Wd K i r:=fun i hi A=>hi (by rw[T.2.1,A.2.2.1]);refine Ret.bind (Ret.condT rfl (Ret.condT rfl (Ret.ok (Ret.bind (Ret.condT rfl (Ret.bind ?_))))));have put:(s o.id=none\/∃y,s o.id=some y/\r.id<y)->∀i,Least (Wd K i) ((pre++[(xk,r)]).map (·.2)) (B4 s o.id r.id i):=fun C i=>by
            rw[AbT];unfold B4;by_cases e:i=o.id
            . subst e;rw[AbO rfl];exact((D _).push r).2.1 A C
            . rw[if_neg e];exact((D i).push r).1 (oth i e)
           cases C:s o.id with
           |none=>exact Ret.condT rfl (Ret.ok (Ret.bind (Ret.condT rfl (Ret.ok (Ret.ok (Ret.ok (put (.inl C))))))))
           |some y=>
            refine Ret.condF rfl (Ret.ok ?_)
            by_cases c3:r.id<y
            . rw[AbL (show r.id<(some y).getD 0 from c3)]
              exact Ret.bind (Ret.condT rfl (Ret.ok (Ret.ok (Ret.ok (put (.inr ⟨y,C,c3⟩))))))
            . rw[AbK (show ¬r.id<(some y).getD 0 from c3)]
              refine Ret.bind (Ret.condF rfl (Ret.ok (Ret.ok (Ret.ok fun i=>?_))))
              rw[AbT]
              by_cases e:i=o.id
              . subst e;exact((D _).push r).2.2 A y C (by omega)
              . exact((D i).push r).1 (oth i e)
       . rw[AbK c1];exact Ret.bind (Ret.condF rfl (Ret.ok (Ret.bind (Ret.condF rfl (Ret.ok (Ret.ok (no fun i A=>c1 A.2.1)))))))
     . dsimp only;have L:∀i,¬Wd K i r:=fun i A=>by
        obtain⟨_,_,_,o2,G,_⟩:=A;exact S o2 G
       refine Ret.bind (Ret.cond (fun _=>Ret.condF rfl (Ret.ok ?_)) fun _=>Ret.ok ?_)<;>exact Ret.bind (Ret.condF rfl (Ret.ok (Ret.ok (no L))))
 refine AGb j (fun s:A4 Int Int=>∀i,∃z:Option Report,s i=z.map (·.id)/\Latest (Co' K i) K z) (fun lx V=>?_) (fun s s' u N=>funext fun i=>?_) fun f hf=>?_
 . refine Exists.imp (fun s (h:_/\_)=>⟨h.1,fun i=>(by
    obtain⟨z,C,I⟩:=h.2.2 i;exact⟨z,C,I.congr fun r=>by rw[Abb,hm.mem V]⟩)⟩) (ABf (fun (pre:List (Int×Report)) (s:A4 Int Int)=>(∀x∈pre,x.2∈K)/\∀i,∃z:Option Report,s i=z.map (·.id)/\Latest (Co' K i) (pre.map (·.2)) z) lx [] (fnone:A4 Int Int) ⟨(fun x hx=>by simp at hx),fun i=>⟨none,rfl,fun r P=>by simp at P⟩⟩ (fun pre x s hx D=>?_))
   . obtain⟨xk,r⟩:=x;have P:r∈K:=mem1 V _ hx;obtain⟨Z,D⟩:=D;have hpre':∀x∈pre++[(xk,r)],x.2∈K:=fun x hx=>by
      rcases mem_append.1 hx with H|H
      . exact Z x H
      . have:x=(xk,r):=by simpa using H
        rw[this];exact P
     have no:(∀i,¬Co' K i r)->(∀x∈pre++[(xk,r)],x.2∈K)/\∀i,∃z:Option Report,s i=z.map (·.id)/\Latest (Co' K i) ((pre++[(xk,r)]).map (·.2)) z:=fun L=>⟨hpre',fun i=>by
      obtain⟨z,C,I⟩:=D i;rw[AbT];exact⟨z,C,(I.push r).1 (L i)⟩⟩
     show Ret _ fun s':A4 Int Int=>(∀x∈pre++[(xk,r)],x.2∈K)/\∀i,∃z:Option Report,s' i=z.map (·.id)/\Latest (Co' K i) ((pre++[(xk,r)]).map (·.2)) z;refine Ret.bind (ATB hK hm (fun o T=>?_) fun o' S=>?_)
     . dsimp only;have hov:=hK.v o T.1;have one:∀{i o2},o2∈K->o2.id=i->Co K o2 r->o2=o:=fun E _ R=>hK.one E T.1 (by rw[R.2.1.2.1,T.2.1]);by_cases c1:r.kind=8
       . rw[AbL c1];refine Ret.bind (Ret.condF rfl (Ret.condF rfl ?_));unfold I3;refine Ret.bind (Ret.ok ?_);by_cases c2:o.kind<=7
         . refine Ret.condF (by simp;exact c2) ?_;rw[AQl hov.1,AGQ (by simp),bindS];by_cases c3:0<=r.cents/\r.cents<=most o.kind
           . refine Ret.condF (by simp[inB,c3]) ?_;unfold T2;refine Ret.bind (Ret.ok ?_);dsimp only;have gs:∀i,(g i).isSome=true↔¬WdR K i none:=fun i=>by
              cases k:g i with
              |none=>simp;have:=hg i;rw[k]at this;exact this
              |some y=>simp;intro H;have:=(hg i).uniq H;rw[k]at this;cases this
             by_cases c4:(g r.id).isSome=true
             . rw[c4];exact Ret.condT rfl (Ret.ok (Ret.condT rfl (Ret.ok (no fun i U=>by
                obtain⟨o2,_,_,_,_,W⟩:=U;exact(gs r.id).1 c4 W.2.2.2))))
             . have c4':(g r.id).isSome=false:=by simpa using c4
               rw[c4'];refine Ret.condF rfl (Ret.bind (Ret.ok ?_));by_cases c5:(g o.id).isSome=true
               . rw[c5];exact Ret.ok (Ret.condT rfl (Ret.ok (no fun i U=>by
                  obtain⟨o2,E,Y,_,h4,W⟩:=U;have:=one E Y W;subst this;exact(gs o2.id).1 c5 (Y▸h4))))
               . have c5':(g o.id).isSome=false:=by simpa using c5
                 rw[c5'];refine Ret.ok (Ret.condF rfl ?_);have w1:WdR K r.id none:=Acw fun H=>c4 ((gs r.id).2 H);have w2:WdR K o.id none:=Acw fun H=>c5 ((gs o.id).2 H);have U:Co' K o.id r:=⟨o,T.1,rfl,c2,w2,c1,T,c3,w1⟩;have oth:∀i,i≠o.id->¬Co' K i r:=fun i hi U=>by
                  obtain⟨o2,E,Y,_,_,W⟩:=U;exact hi (by rw[<-Y,one E Y W])
                 obtain⟨z,C,I⟩:=D o.id;have put:(z=none\/∃y,z=some y/\(y.made<r.made\/y.made=r.made/\y.id<r.id))->(∀x∈pre++[(xk,r)],x.2∈K)/\∀i,∃z:Option Report,(B4 s o.id r.id) i=z.map (·.id)/\Latest (Co' K i) ((pre++[(xk,r)]).map (·.2)) z:=fun H=>⟨hpre',fun i=>by
                  rw[AbT];unfold B4;by_cases e:i=o.id
                  . subst e;rw[AbO rfl];exact⟨some r,rfl,(I.push r).2.1 U H⟩
                  . rw[if_neg e];obtain⟨z',F,J⟩:=D i;exact⟨z',F,(J.push r).1 (oth i e)⟩⟩
                 have keep:∀y,z=some y->¬(y.made<r.made\/y.made=r.made/\y.id<r.id)->(∀x∈pre++[(xk,r)],x.2∈K)/\∀i,∃z:Option Report,s i=z.map (·.id)/\Latest (Co' K i) ((pre++[(xk,r)]).map (·.2)) z:=fun y hy H=>⟨hpre',fun i=>by
                  rw[AbT];by_cases e:i=o.id
                  . subst e;exact⟨z,C,(I.push r).2.2 U y hy H⟩
                  . obtain⟨z',F,J⟩:=D i;exact⟨z',F,(J.push r).1 (oth i e)⟩⟩
                 refine Ret.bind ?_;rw[C];cases z with
                 |none=>exact Ret.condT rfl (Ret.ok (Ret.bind (Ret.condT rfl (Ret.ok (Ret.ok (put (.inl rfl)))))))
                 |some y=>
                  have p:y∈K:=by
                   obtain⟨q,k,v⟩:=mem_map.1 I.1;rw[<-v];exact Z q k
                  have hmy:m y.id=some y:=(hm _ _).2 ⟨p,rfl⟩
                  refine Ret.condF rfl (Ret.bind (Ret.val p_cmp (Ret.bind (Ret.val p_cmp (Ret.bind (Ret.val p_Or ?_))))))
                  have M:((some y).map (·.id)).getD 0=y.id:=rfl
                  rw[M,hmy]
                  simp only[Option.getD_some]
                  have bd:∀a b:Int,-1<=Q2 a b/\Q2 a b<=1:=fun a b=>by unfold Q2;split<;>(try split)<;>omega
                  have b1:=bd y.made r.made
                  have b2:=bd y.id r.id
                  refine Ret.ok ?_
                  have key:decide ((if Q2 y.made r.made=0 then Q2 y.id r.id else Q2 y.made r.made)<0)=decide (y.made<r.made\/y.made=r.made/\y.id<r.id):=by
                   rw[decide_eq_decide];unfold Q2;by_cases E:y.made<r.made
                   . simp[E]
                   . by_cases Y:r.made<y.made
                     . simp[E,Y];omega
                     . have:y.made=r.made:=by omega
                       simp[this];by_cases R:y.id<r.id
                       . simp[R]
                       . simp[R];split<;>omega
                  rw[key]
                  by_cases c6:y.made<r.made\/y.made=r.made/\y.id<r.id
                  . rw[AbL c6]
                    exact Ret.bind (Ret.condT rfl (Ret.ok (Ret.ok (put (.inr ⟨y,rfl,c6⟩)))))
                  . rw[AbK c6]
                    exact Ret.bind (Ret.condF rfl (Ret.ok (Ret.ok (keep y rfl c6))))
           . have hx:([r.cents].all (inB 0 (most o.kind)))=false:=by simp only[List.all_cons,List.all_nil,Bool.and_true,inB];exact AbK c3
             rw[hx];exact Ret.condT rfl (Ret.ok (Ret.condT rfl (Ret.ok (no fun i U=>by
              obtain⟨o2,E,Y,_,_,W⟩:=U;rw[one E Y W]at W;exact c3 W.2.2.1))))
         . refine Ret.condT (by simp;omega) (Ret.ok (Ret.condT rfl (Ret.ok (no fun i U=>?_))));obtain⟨o2,E,Y,R,_,W⟩:=U;rw[one E Y W]at R;exact c2 R
       . rw[AbK c1];exact Ret.bind (Ret.condT rfl (Ret.ok (Ret.condT rfl (Ret.ok (no fun i U=>by
          obtain⟨o2,_,_,_,_,W⟩:=U;exact c1 W.1)))))
     . dsimp only;have L:∀i,¬Co' K i r:=fun i U=>by
        obtain⟨o2,_,_,_,_,W⟩:=U;exact S o2 W.2.1
       refine Ret.bind (Ret.cond (fun _=>Ret.ok ?_) fun _=>Ret.condT rfl (Ret.ok ?_))<;>exact Ret.condT rfl (Ret.ok (no L))
 . obtain⟨z,C,I⟩:=u i;obtain⟨z',F,J⟩:=N i;rw[C,F,Latest.uniq hK I J]
 . exact Ret.ok (h _ ⟨hm,hg,hf⟩)
end S
namespace S
def APQ(r o:Report):Bool:=decide (o.id=r.of_/\o.source=r.source/\o.account=r.account)
def wdB(K:List Report)(i:Int)(r:Report):Bool:=decide (r.kind=9/\r.of_=i)&&K.any fun o=>APQ r o&&decide (o.kind≠9)
def AFe(K:List Report)(i:Int):Bool:=K.any (wdB K i)
def coB(K:List Report)(o r:Report):Bool:=decide (r.kind=8/\0<=r.cents/\r.cents<=most o.kind)&&(APQ r o&&!AFe K r.id)
def AMp(K:List Report)(o:Report)(z:Option Report)(r:Report):Option Report:=if coB K o r then match z with
 |none=>some r
 |some y=>if y.made<r.made\/y.made=r.made/\y.id<r.id then some r else some y else z
def AGc(K:List Report)(o:Report):Option Report:=K.foldl (AMp K o) none
def fix(K:List Report)(o:Report):Report:=match AGc K o with
 |none=>o
 |some c=>Report.mk o.id o.source o.account o.made c.about o.kind c.cents o.of_
def T(K:List Report):List Report:=(K.filter fun o=>decide (o.kind<=7)&&!AFe K o.id).map (fix K)
theorem AN0{K:List Report}{i:Int}{r:Report}(V:r∈K):wdB K i r=true↔Wd K i r:=by
 unfold wdB Wd Aim APQ;rw[Bool.and_eq_true,decide_eq_true_iff,Ace];constructor
 . rintro⟨⟨U,J⟩,o,I,H⟩;rw[Bool.and_eq_true,decide_eq_true_iff,decide_eq_true_iff]at H;exact⟨V,U,J,o,⟨I,H.1⟩,H.2⟩
 . rintro⟨_,U,J,o,⟨I,H⟩,W⟩;exact⟨⟨U,J⟩,o,I,by rw[Bool.and_eq_true,decide_eq_true_iff,decide_eq_true_iff];exact⟨H,W⟩⟩
theorem AIH{K:List Report}{i:Int}:AFe K i=false↔WdR K i none:=by
 unfold AFe WdR Least;rw[List.any_eq_false];constructor
 . intro h r H I;exact h r H ((AN0 H).2 I)
 . intro h r H I;exact h r H ((AN0 H).1 I)
theorem AHI{K:List Report}{o r:Report}(V:o∈K):coB K o r=true↔Co K o r:=by
 unfold coB Co Aim APQ;rw[Bool.and_eq_true,Bool.and_eq_true,decide_eq_true_iff,decide_eq_true_iff,Bool.not_eq_true',AIH];constructor
 . rintro⟨⟨U,J⟩,I,H⟩;exact⟨U,⟨V,I⟩,J,H⟩
 . rintro⟨U,⟨_,I⟩,J,H⟩;exact⟨⟨U,J⟩,I,H⟩
theorem AAJ{K:List Report}{o:Report}(I:o∈K):Latest (Co K o) K (AGc K o):=by
 have key:∀(l p:List Report) (z:Option Report),Latest (Co K o) p z->Latest (Co K o) (p++l) (l.foldl (AMp K o) z):=by
  intro l;induction l with
  |nil=>intro p z h;simpa using h
  |cons r l ih=>
   intro p z h
   have:p++r::l=(p++[r])++l:=by simp
   rw[this]
   refine ih _ _ ?_
   obtain⟨p1,p2,p3⟩:=h.push r
   unfold AMp
   by_cases c:coB K o r=true
   . rw[AbO c]
     have c:=(AHI I).1 c
     cases z with
     |none=>exact p2 c (.inl rfl)
     |some y=>
      dsimp only
      split
      . rename_i H;exact p2 c (.inr ⟨y,rfl,H⟩)
      . rename_i H;exact p3 c y rfl H
   . rw[if_neg c]
     exact p1 fun H=>c ((AHI I).2 H)
 have:=key K [] none (fun r J=>by cases J);rw[Abb]at this;exact this
theorem AMq{K:List Report}(o:Report):(fix K o).id=o.id:=by
 unfold fix;split<;>rfl
theorem T_mem{K:List Report}{r:Report}:r∈T K↔∃o∈K,o.kind<=7/\WdR K o.id none/\r=fix K o:=by
 unfold T;rw[AcO];constructor
 . rintro⟨o,H,rfl⟩;rw[List.mem_filter,Bool.and_eq_true,decide_eq_true_iff,Bool.not_eq_true',AIH]at H;exact⟨o,H.1,H.2.1,H.2.2,rfl⟩
 . rintro⟨o,U,J,I,rfl⟩;exact⟨o,List.mem_filter.2 ⟨U,by rw[Bool.and_eq_true,decide_eq_true_iff,Bool.not_eq_true',AIH];exact⟨J,I⟩⟩,rfl⟩
theorem AGd{K:List Report}(hK:Ok K):((T K).map (·.id)).Nodup:=by
 unfold T;rw[Abl];have:(fun r:Report=>r.id) ∘ fix K=fun r=>r.id:=funext fun o=>AMq o;rw[this];exact(AcN _ Abu).nodup hK.nd
theorem AK4{K:List Report}(hK:Ok K):(T K).length<=60:=by
 unfold T;rw[Abd];exact AbP (Ab1 _ _) hK.len
theorem AUX{K:List Report}(hK:Ok K){o:Report}(H:o∈K){z:Option Report}(h:Latest (Co K o) K z):AGc K o=z:=Latest.uniq hK (AAJ H) h
def cv(d:Desk_139)(o:Report):Report:=match d.fixed o.id with
 |none=>o
 |some j=>Report.mk o.id o.source o.account o.made ((d.store.reports j).getD (Report.mk 0 0 0 0 0 0 0 0)).about o.kind ((d.store.reports j).getD (Report.mk 0 0 0 0 0 0 0 0)).cents o.of_
theorem ATC{α:Type}{p q:Prop}[Decidable p][Decidable q](h:p↔q){a b:α}:(if p then a else b)=if q then a else b:=by
 by_cases c:p
 . rw[AbO c,AbO (h.1 c)]
 . rw[if_neg c,if_neg fun c'=>c (h.2 c')]
theorem AJH{α β:Type}{f:α->β}{l:List α}(h:(l.map f).Nodup):l.Nodup:=(List.pairwise_map.1 h).imp fun h e=>h (AbJ f e)
theorem AMr:∀(l:List (Int×Report)) (pre:List Report),pre.length+l.length<=1000000->List.foldlM (m:=Option) (s:=((List Report))) (α:=Int×Report) (fun x37 (k38,v39)=>(appo 64 x37 ([v39])).bind fun l40=>some l40) pre l=some (pre++l.map (·.2))
 |[],pre,_=>by simp
 |x::l,pre,h=>by
  rw[Ab8]at h;obtain⟨k,v⟩:=x;rw[Ab9];dsimp only;rw[AAH (by simp;omega) (by simp;omega)];show List.foldlM _ (pre++[v]) l=_;rw[AMr l (pre++[v]) (by simp;omega)];simp
section
variable{K:List Report}(hK:Ok K){d:Desk_139}(hd:Dk K d)
include hK hd
theorem ATD{i:Int}:d.gone i=none↔WdR K i none:=by
 constructor
 . intro h;have:=hd.gone i;rwa [h]at this
 . intro h;exact(hd.gone i).uniq h
theorem AWR{o:Report}(H:o∈K)(J:o.kind<=7)(I:WdR K o.id none)(r:Report):Co' K o.id r↔Co K o r:=by
 constructor
 . rintro⟨o2,V,U,_,_,W⟩;rwa [<-hK.one V H U]
 . intro h;exact⟨o,H,rfl,J,I,h⟩
theorem ASI{o:Report}(I:o∈K)(J:o.kind<=7)(H:WdR K o.id none):∃z:Option Report,d.fixed o.id=z.map (·.id)/\Latest (Co K o) K z:=by
 obtain⟨z,V,U⟩:=hd.fixed o.id;exact⟨z,V,U.congr fun r=>and_congr_right fun _=>AWR hK hd I J H r⟩
theorem AQu{o:Report}(H:o∈K)(V:o.kind<=7)(J:WdR K o.id none):cv d o=fix K o:=by
 obtain⟨z,W,I⟩:=ASI hK hd H V J;unfold cv fix;rw[AUX hK H I,W];cases z with
 |none=>rfl
 |some c=>
  have U:c∈K:=I.1
  simp only[Option.map_some,(hd.reports c.id c).2 ⟨U,rfl⟩,Option.getD_some]
theorem AYq:Lists d.gone ((K.filter fun o=>(d.gone o.id).isSome).map fun o=>(o.id,(d.gone o.id).getD 0)):=by
 refine⟨?_,fun a y=>?_⟩
 . rw[Abl];exact(AcN _ Abu).nodup hK.nd
 . rw[AcO];constructor
   . rintro⟨o,H,e⟩;rw[List.mem_filter]at H;obtain⟨z,J⟩:=Option.isSome_iff_exists.1 H.2;cases e
     rw[J];rfl
   . intro h;have:=hd.gone a;rw[h]at this;obtain⟨r,_,⟨_,_,U,o,I,_⟩,_⟩:=this;have e:o.id=a:=by rw[I.2.1,U]
     refine⟨o,List.mem_filter.2 ⟨I.1,by rw[e,h];rfl⟩,by rw[e,h];rfl⟩
open Classical in
theorem AN1{Q:List Report->Prop}(h:∀out,out.Perm (T K)->out.Pairwise (le2 (·.about) (·.id))->Q out):Ret (J1 d) Q:=by
 have M:=hd.reports.lists hK;have v:=hK.len;unfold J1;refine Ret.bind ?_;unfold AAO;refine AGb M (fun s:A4 Int Report=>∀i r',s i=some r'↔∃o∈K,o.id=i/\o.kind<=7/\r'=cv d o) (fun lx W=>?_) (fun s s' P O=>funext fun i=>Ac7 fun r'=>(P i r').trans (O i r').symm) fun m1 Z=>?_
 . refine Exists.imp (fun s (h:_/\_)=>⟨h.1,fun i r'=>(h.2.2 i r').trans (by
    constructor
    . rintro⟨o,U,H⟩;exact⟨o,by rwa [Abb,hd.reports.mem W]at U,H⟩
    . rintro⟨o,U,H⟩;exact⟨o,by rwa [Abb,hd.reports.mem W],H⟩)⟩) (ABf (fun (pre:List (Int×Report)) (s:A4 Int Report)=>(∀x∈pre,x.2∈K)/\∀i r',s i=some r'↔∃o∈pre.map (·.2),o.id=i/\o.kind<=7/\r'=cv d o) lx [] (fnone:A4 Int Report) ⟨(fun x hx=>by simp at hx),fun i r'=>by simp[fnone]⟩ (fun pre x s hx B=>?_))
   obtain⟨xk,o⟩:=x;obtain⟨U,S⟩:=(hd.reports xk o).1 ((W.2 _ _).1 hx);subst S;obtain⟨E,B⟩:=B;have hpre':∀x∈pre++[(o.id,o)],x.2∈K:=fun x hx=>by
    rcases mem_append.1 hx with H|H
    . exact E x H
    . have:x=(o.id,o):=by simpa using H
      rw[this];exact U
   show Ret _ fun s':A4 Int Report=>(∀x∈pre++[(o.id,o)],x.2∈K)/\∀i r',s' i=some r'↔∃o'∈(pre++[(o.id,o)]).map (·.2),o'.id=i/\o'.kind<=7/\r'=cv d o';have fin:∀a c,cv d o=Report.mk o.id o.source o.account o.made a o.kind c o.of_->Ret ((I3 (Report.mk o.id o.source o.account o.made a o.kind c o.of_)).bind fun r19=>Option.bind (α:=((A4 Int Report))) (cond (r19) (some (B4 s o.id (Report.mk o.id o.source o.account o.made a o.kind c o.of_))) (some s)) ((fun x20=>some x20))) fun s':A4 Int Report=>(∀x∈pre++[(o.id,o)],x.2∈K)/\∀i r',s' i=some r'↔∃o'∈(pre++[(o.id,o)]).map (·.2),o'.id=i/\o'.kind<=7/\r'=cv d o':=fun a c e=>by
    rw[<-e];refine Ret.bind (Ret.val (show I3 (cv d o)=some (decide (o.kind<=7)) by rw[e];rfl) (Ret.bind (Ret.cond (fun V=>Ret.ok (Ret.ok ⟨hpre',fun i r'=>?_⟩)) fun V=>Ret.ok (Ret.ok ⟨hpre',fun i r'=>?_⟩))))
    . have V:=AbH V;rw[AbT];unfold B4;by_cases ei:i=o.id
      . subst ei;rw[AbO rfl];constructor
        . intro H;exact⟨o,mem_append.2 (.inr (by simp)),rfl,V,(AbA H).symm⟩
        . rintro⟨o',J,I,g,f⟩;have:o'=o:=by
           rcases mem_append.1 J with H|H
           . obtain⟨x,N,rfl⟩:=mem_map.1 H;exact hK.one (E x N) U I
           . simpa using H
          rw[f,this]
      . rw[if_neg ei,B];constructor
        . rintro⟨o',J,I⟩;exact⟨o',mem_append.2 (.inl J),I⟩
        . rintro⟨o',J,I⟩;rcases mem_append.1 J with H|H
          . exact⟨o',H,I⟩
          . have:o'=o:=by simpa using H
            exact absurd (by rw[<-I.1,this]) ei
    . have V:=AbM V;rw[AbT,B];constructor
      . rintro⟨o',J,I⟩;exact⟨o',mem_append.2 (.inl J),I⟩
      . rintro⟨o',J,I⟩;rcases mem_append.1 J with H|H
        . exact⟨o',H,I⟩
        . have:o'=o:=by simpa using H
          exact absurd (this▸I.2.1) V
   have e1:cv d o=Report.mk o.id o.source o.account o.made (if (d.fixed o.id).isSome then((d.store.reports ((d.fixed o.id).getD 0)).getD (Report.mk 0 0 0 0 0 0 0 0)).about else o.about) o.kind (if (d.fixed o.id).isSome then((d.store.reports ((d.fixed o.id).getD 0)).getD (Report.mk 0 0 0 0 0 0 0 0)).cents else o.cents) o.of_:=by
    unfold cv;cases d.fixed o.id with
    |none=>rfl
    |some j=>rfl
   refine Ret.bind ?_;cases k:d.fixed o.id with
   |none=>
    rw[k]at e1
    exact Ret.condF rfl (Ret.ok (fin _ _ e1))
   |some j=>
    rw[k]at e1
    exact Ret.condT rfl (Ret.ok (fin _ _ e1))
 refine AGb (AYq hK hd) (fun s:A4 Int Report=>∀i,s i=if (d.gone i).isSome then none else m1 i) (fun lx W=>?_) (fun s s' P O=>funext fun i=>(P i).trans (O i).symm) fun m2 L=>?_
 . classical
   refine Exists.imp (fun s (h:_/\_)=>⟨h.1,fun i=>(h.2 i).trans (ATC ?_)⟩) (ABf (fun (pre:List (Int×Int)) (s:A4 Int Report)=>∀i,s i=if ∃y,(i,y)∈pre then none else m1 i) lx [] m1 (fun i=>by simp) (fun pre x s hx B=>⟨_,rfl,fun i=>?_⟩))
   . unfold AAK;by_cases e:i=x.1
     . rw[AbO e,AbO ⟨x.2,mem_append.2 (.inr (by rw[e];simp))⟩]
     . rw[if_neg e,B];refine ATC (exists_congr fun y=>?_);rw[Abh];constructor
       . exact .inl
       . rintro (H|H)
         . exact H
         . have:(i,y)=x:=by simpa using H
           exact absurd (by rw[<-this]) e
   . rw[Abb,Option.isSome_iff_exists];exact exists_congr fun y=>W.2 i y
 have C:Lists m2 ((T K).map fun r=>(r.id,r)):=by
  refine⟨by rw[Abl];exact AGd hK,fun a y=>?_⟩;rw[L,AcO];constructor
  . rintro⟨r,q,e⟩;cases e
    obtain⟨o,U,Y,G,rfl⟩:=T_mem.1 q;rw[AMq,(ATD hK hd).2 G];exact(Z _ _).2 ⟨o,U,rfl,Y,(AQu hK hd U Y G).symm⟩
  . intro V;split at V
    . cases V
    rename_i J;obtain⟨o,U,rfl,Y,rfl⟩:=(Z _ _).1 V;have G:WdR K o.id none:=(ATD hK hd).1 (by simpa using J);rw[AQu hK hd U Y G];exact⟨fix K o,T_mem.2 ⟨o,U,Y,G,rfl⟩,by rw[AMq]⟩
 have X:∀l,Lists m2 l->(l.map (·.2)).Perm (T K):=fun l hl=>by
  have:l.Perm ((T K).map fun r=>(r.id,r)):=by
   refine(Abw ?_ ?_).2 fun p=>?_
   . exact AJH hl.1
   . exact AJH C.1
   . obtain⟨a,y⟩:=p;exact(hl.2 a y).trans (C.2 a y).symm
  have:=this.map (·.2);rwa [Abl,show((fun p:Int×Report=>p.2) ∘ fun r:Report=>(r.id,r))=id from rfl,List.map_id]at this
 have one:∀{l:List Report},l.Perm (T K)->∀a b,a∈l->b∈l->a.about=b.about->a.id=b.id->a=b:=fun A a b u t _ e=>V9 (AGd hK) a b (A.mem_iff.1 u) (A.mem_iff.1 t) e;have F:∀l,Lists m2 l->Ret ((List.foldlM (m:=Option) (s:=((List Report))) (α:=Int×Report) (fun x37 (k38,v39)=>(appo 64 x37 ([v39])).bind fun l40=>some l40) ([]:List Report) l).bind fun x42=>(D3 ([(107:Nat),(108:Nat)]) x42).bind fun (_,m43)=>some (m43,(m43.length:Int),(0:Int))) fun z=>(z.1.Perm (T K)/\z.1.Pairwise (le2 (·.about) (·.id)))/\z=(z.1,(z.1.length:Int),(0:Int)):=fun l hl=>by
  have A:=X l hl;have R:=A.length_eq;have:=AK4 hK;rw[Abd]at R;rw[AMr l [] (by simp;omega),Abb,bindS];have U:=AJG (x:=l.map (·.2)) (cmp:=fun a b=>F8 a b [107,108]) (k1:=(·.about)) (k2:=(·.id)) (fun a b=>AHH (D:=fd160.D) (fun _=>rfl) (fun _=>rfl)) (one A) (by rw[Abd];omega);exact Ret.bind (Ret.bind (U.mono fun m hm=>Ret.ok (Ret.ok ⟨⟨hm.1.trans A,hm.2⟩,rfl⟩)))
 obtain⟨z,V,⟨J,I⟩,g⟩:=F _ C;refine⟨z,AJS C fun l hl=>?_,?_⟩
 . obtain⟨z',f,⟨n,Y⟩,h8⟩:=F l hl;rw[f,g,h8,AB7 (n.trans J.symm) Y I (one n)]
 . rw[g];exact Ret.condT (by simp) (Ret.ok (h _ J I))
theorem AQv(I:∀r∈K,InR r){Q:List Report->Prop}(h:∀out,out.Perm (T K)->out.Pairwise (le2 (·.about) (·.id))->Q out):Ret (F7 d) Q:=by
 unfold F7;refine Ret.bind (AN1 hK hd fun out H J=>?_);have W:=H.length_eq;have:=AK4 hK;rw[AbO]
 . exact Ret.ok (h out H J)
 refine⟨by omega,fun r C=>?_⟩;obtain⟨o,V,F,E,rfl⟩:=T_mem.1 (H.mem_iff.1 C);have U:=AAJ (K:=K) V;unfold fix;have H:=I o V;cases D:AGc K o with
 |none=>exact H
 |some c=>
  rw[D]at U
  have J:=I c U.1
  exact⟨H.1,H.2.1,H.2.2.1,H.2.2.2.1,J.2.2.2.2.1,H.2.2.2.2.2.1,J.2.2.2.2.2.2.1,H.2.2.2.2.2.2.2⟩
end
theorem ASJ{r:Report}(h:V r):InR r:=by
 obtain⟨c1,c2,c3,c4,c5,c6,c7,c8,_⟩:=h;have hm:most r.kind<=1000000000000:=by unfold most;split<;>(try split)<;>omega
 exact⟨InK.i64.2 (by omega),InK.i64.2 (by omega),InK.i64.2 (by omega),InK.i64.2 (by omega),InK.i64.2 (by omega),InK.u8.2 (by omega),InK.i64.2 (by omega),InK.i64.2 (by omega)⟩
structure St(l:List Report)(known:Int)(out:List Report):Prop where
 perm:out.Perm (T (Z0 l known))
 ord:out.Pairwise (le2 (·.about) (·.id))
theorem APR{l:List Report}(h:VL l){known:Int}(hk:0<=known/\known<=100000):Ret (M3 l known) fun z=>z.2=0/\St l known z.1:=by
 unfold M3 W7;rw[AHE h];refine Ret.bind ?_;rw[bindS];refine Ret.condF (by decide) ?_;rw[AGQ (by simp),bindS,show([known].all (inB 0 100000))=true by simp[inB,hk]];refine Ret.condF rfl (Ret.ok (Ret.elimL (Ret.bind (AQt h fun D hD=>?_))));exact Ret.bind (AQv (AAu h known) hD (fun r H=>ASJ ((AAu h known).v r H)) fun out J I=>Ret.ok ⟨rfl,J,I⟩)
theorem St.uniq{l:List Report}(h:VL l){known:Int}{a b:List Report}(H:St l known a)(I:St l known b):a=b:=
 AB7 (H.perm.trans I.perm.symm) H.ord I.ord fun x y hx hy _ e=>V9 (AGd (AAu h known)) x y (H.perm.mem_iff.1 hx) (H.perm.mem_iff.1 hy) e
end S
end Go.Proofs.YtgioiejbphljoaaGreatDoor
namespace Go.Proofs.YtgioiejbphljoaaGreatDoor
open Go Go.Sx Go.Rx Go.RowKit
def Y1(d:Desk_99)(x:Dispute)(v:Verdict)(l:List Report):Option (List Report):=Option.bind (α:=(Int×Int×Int)) (cond (decide (v.is_=3)) (some (v.by_.about,(8:Int),v.by_.cents)) (some ((0:Int),(9:Int),(0:Int)))) ((fun (x1,x2,x3)=>(appo 64 l ([(Report.mk x.id (((d.facts x.report).getD (Report.mk 0 0 0 0 0 0 0 0)).source) (((d.facts x.report).getD (Report.mk 0 0 0 0 0 0 0 0)).account) v.day x1 x2 x3 (((d.facts x.report).getD (Report.mk 0 0 0 0 0 0 0 0)).id))])).bind fun l4=>some (l4)))
def AKf:An:=.nd .x (.nd .x (.nd (.nd .x (.jn [.norm ⟨[(.cell 10 4,.d (.int .i64)),(.cell 10 5,.d (.int .u8)),(.cell 10 6,.d (.int .i64))],[10,6,66]⟩] .x)) .x))
def ABK(d:Desk_99)(l:List Report):Option (List Report×Int):=(chk .i64 ((d.desk.reports.length:Int)+(l.length:Int))).bind fun n1=>cond (decide (60<n1)) (some (([]:List Report),(9:Int))) ((I1 ([(78:Nat),(79:Nat)]) l).bind fun (_,m2)=>(V7 ([d.desk.reports,m2])).bind fun r3=>some (r3,(0:Int)))
def AMs:An:=.x
end Go.Proofs.YtgioiejbphljoaaGreatDoor
end
