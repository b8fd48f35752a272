/-
  Part DisputeFollows 9 of the texts that the statement's proof stands on: what memory holds, how code is walked, what the functions reckon. In the order in which they build.
-/
import Derived.Shelf.Spec.SlicesGrow
import Derived.Test.YtgioiejbphljoaaGreatDoorFbDisputeFollows8
open List (mem_append mem_cons mem_map mem_of_getElem? mem_singleton toArray)
open Nat (blt)
open Go.Proofs.Tryz
set_option linter.unusedVariables false
set_option linter.unusedSectionVars false
set_option maxRecDepth 20000
set_option maxHeartbeats 4000000
noncomputable section
namespace Go.Proofs.YtgioiejbphljoaaGreatDoor
open Go Go.Sx Go.Rx Go.RowKit
def M7:Enc Value:=⟨1,Nat.one_pos,fun _ _ cs x=>cs=[x]/\x.oneCell'=true,fun h=>by rw[h.1];rfl,fun _ h=>h,fun _ h=>h,fun h u hu=>by rw[h.1]at hu;rw[mem_singleton.1 hu];exact h.2⟩
abbrev K3:Ky prog 3 Int:=X0 .i64 underlying3
def AFX(x:Answer):List Value:=[.int .i64 x.id,.int .i64 x.dispute,.int .i64 x.day,.int .u8 x.says,.int .i64 x.about,.int .i64 x.cents]
def InA(x:Answer):Prop:=InK .i64 x.id/\InK .i64 x.dispute/\InK .i64 x.day/\InK .u8 x.says/\InK .i64 x.about/\InK .i64 x.cents
theorem AXi{M:List Nat}{w:World}{x:Answer}(h:InA x):AnswerE.R M w (AFX x) x:=AnswerE_R.2 ⟨rfl,h⟩
noncomputable def r70:Code:=match f70.body with
 |some (.seq _ (.seq _ (.seq _ (.seq _ (.seq (.seq _ (.block _ (.loop (.seq _ (.seq _ (.seq (.block _ (.seq _ r)) _)))))) _)))))=>r
 |_=>.skip
def o70:List Oper:=match r70 with
 |.region _ l _=>l.toList
 |_=>[]
def ANY:List Nat:=[51,52,53,54,55,56,57,58,59,60,61,62]
def HA(w0 w:World)(M:List Nat)(σ σ':List Res)(W:World):Prop:=Hp w0 [] M σ' W/\Adv (mm σ M) (mm σ' M) w W
structure J70(w0 w1:World)(M:List Nat)(σ:List Res)(i jm b4 b11 bm:Nat)(v:Value)(l:List Answer)(a:Answer)(g:A2 Int Value)(L0:A5)(D:Nat->Bool)(L:A5)(W:World):Prop where
 base:∀t,t∉ANY->Sx.A4 L t=Sx.A4 L0 t
 f0:D 0=true->Sx.A4 L 51=some (.pointer (some ⟨b4,7,none⟩))
 f1:D 1=true->Sx.A4 L 52=some (.map (some bm))
 f2:D 2=true->Sx.A4 L 53=some (.pointer (some ⟨b11,1,none⟩))
 f3:D 3=true->Sx.A4 L 54=some (.int .i64 a.dispute)
 f4:D 4=true->Sx.A4 L 55=some (.pointer (some ⟨b4,7,none⟩))
 f5:D 5=true->Sx.A4 L 56=some (.map (some bm))
 f6:D 6=true->Sx.A4 L 57=some (.pointer (some ⟨b11,1,none⟩))
 f7:D 7=true->Sx.A4 L 58=some (.int .i64 a.dispute)
 f8:D 8=true->Sx.A4 L 59=some v
 f9:D 9=true->Sx.A4 L 60=some (.agg (toArray (AFX a)))
 r10:D 10=true->D 9=true
 r11:D 11=true->D 8=true/\D 9=true/\D 10=true
 r12:D 12=true->∀j,j<12->D j=true
 p0:D 11=false->HA w0 w1 M σ σ W
 p1:D 10=true->D 11=false->∃vb,Sx.A4 L 61=some vb/\RdS AnswerE (mm σ M) W vb [a]
 p2:D 11=true->D 12=false->∃v',Sx.A4 L 62=some v'/\v'.oneCell'=true/\HA w0 w1 M σ (σ.set i (ownR [] AnswerE 60 v' (l++[a]))) W
 p3:D 12=true->∃v',HA w0 w1 M σ ((σ.set i (ownR [] AnswerE 60 v' (l++[a]))).set jm (mapO K3 M7 false bm (B9 g a.dispute v'))) W
theorem ANZ{w0:World}{M:List Nat}{σ:List Res}{w:World}{L:A5}{i jm j4 j11 b4 b11 bm:Nat}{v:Value}{l:List Answer}{a:Answer}{g:A2 Int Value}{cs4:List Value}{A B:A3}{X:Nat->A3}{Z:List PanicEntry->A3}(x:Hp w0 [] M σ w)(hi:σ[i]?=some (ownR [] AnswerE 60 v l))(hm:σ[jm]?=some (mapO K3 M7 false bm g))(u:σ[j4]?=some (rowR 99 b4 cs4))(P:cs4[7]?=some (.map (some bm)))(c:σ[j11]?=some (rowR 60 b11 (AFX a)))(R:InA a)(hv:(g a.dispute).getD (.slice none 0 0)=v)(d1:i≠jm)(d2:i≠j4)(d3:i≠j11)(Y:(l.length+1)*48<=140737488355328)(l4:Sx.A4 L 4=some (.pointer (some ⟨b4,0,none⟩)))(l11:Sx.A4 L 11=some (.pointer (some ⟨b11,0,none⟩)))(hA:∀v' L' w',(∀t,t∉ANY->Sx.A4 L' t=Sx.A4 L t)->HA w0 w M σ ((σ.set i (ownR [] AnswerE 60 v' (l++[a]))).set jm (mapO K3 M7 false bm (B9 g a.dispute v'))) w'->A [] L' w'):CW prog 65 r70 [] L w A B X Z:=by
 refine AO0 (ops:=o70) gx_mix (by decide) (by decide) (J70 w0 w M σ i jm b4 b11 bm v l a g L) ?_ (AQO (by decide)) ?_ ?_
 . exact⟨fun _ _=>rfl,(fun h=>by cases h),(fun h=>by cases h),(fun h=>by cases h),(fun h=>by cases h),(fun h=>by cases h),(fun h=>by cases h),(fun h=>by cases h),(fun h=>by cases h),(fun h=>by cases h),(fun h=>by cases h),(fun h=>by cases h),(fun h=>by cases h),(fun h=>by cases h),(fun _=>⟨x.ext (Kp.drew _ _),Adv.of_ext (Kp.drew _ _)⟩),(fun h=>by cases h),(fun h=>by cases h),(fun h=>by cases h)⟩
 . intro D L' W k o H hk U I;have common:k<12->D 12=false/\Row 99 W b4 cs4/\Row 60 W b11 (AFX a):=fun q=>by
    have J:D 12=false:=by
     cases S:D 12 with
     |false=>rfl
     |true=>rw[H.r12 S k q]at hk;cases hk
    cases T:D 11 with
    |false=>exact⟨J,(H.p0 T).1.row j4 u,(H.p0 T).1.row j11 c⟩
    |true=>
     obtain⟨v',_,_,N⟩:=H.p2 T J
     exact⟨J,N.1.row j4 (by rw[AZA d2];exact u),N.1.row j11 (by rw[AZA d3];exact c)⟩
   match k,hk,U,I,common with
   |0,hk,U,I,common=>
    obtain⟨J,row4,row11⟩:=common (by decide)
    clear common
    have U:=AYS (show some _=some o from U)
    subst U
    refine ABc ((H.base 4 (by decide)).trans l4) underlying99 rfl sizeOf97 rfl ?_
    exact Reg.nil ⟨rfl,fun t V=>(by rw[look_cons,if_neg (fun e=>V (by subst e;decide))];exact H.base t V),fun _=>rfl,H.f1,H.f2,H.f3,H.f4,H.f5,H.f6,H.f7,H.f8,H.f9,H.r10,H.r11,fun h j C=>by rw[H.r12 h j C,Bool.or_true],H.p0,H.p1,H.p2,H.p3⟩
   |1,hk,U,I,common=>
    obtain⟨J,row4,row11⟩:=common (by decide)
    clear common
    have U:=AYS (show some _=some o from U)
    subst U
    refine W7 (H.f0 (I _ (AYU (i:=0) rfl) rfl)) (row4.rd.cells.at 7 P) isAgg97 rfl ?_
    exact Reg.nil ⟨rfl,fun t V=>(by rw[look_cons,if_neg (fun e=>V (by subst e;decide))];exact H.base t V),H.f0,fun _=>rfl,H.f2,H.f3,H.f4,H.f5,H.f6,H.f7,H.f8,H.f9,H.r10,H.r11,fun h j C=>by rw[H.r12 h j C,Bool.or_true],H.p0,H.p1,H.p2,H.p3⟩
   |2,hk,U,I,common=>
    obtain⟨J,row4,row11⟩:=common (by decide)
    clear common
    have U:=AYS (show some _=some o from U)
    subst U
    refine ABc ((H.base 11 (by decide)).trans l11) underlying60 rfl sizeOf3 rfl ?_
    exact Reg.nil ⟨rfl,fun t V=>(by rw[look_cons,if_neg (fun e=>V (by subst e;decide))];exact H.base t V),H.f0,H.f1,fun _=>rfl,H.f3,H.f4,H.f5,H.f6,H.f7,H.f8,H.f9,H.r10,H.r11,fun h j C=>by rw[H.r12 h j C,Bool.or_true],H.p0,H.p1,H.p2,H.p3⟩
   |3,hk,U,I,common=>
    obtain⟨J,row4,row11⟩:=common (by decide)
    clear common
    have U:=AYS (show some _=some o from U)
    subst U
    refine W7 (H.f2 (I _ (AYU (i:=0) rfl) rfl)) (row11.rd.cells.at 1 rfl) isAgg3 rfl ?_
    exact Reg.nil ⟨rfl,fun t V=>(by rw[look_cons,if_neg (fun e=>V (by subst e;decide))];exact H.base t V),H.f0,H.f1,H.f2,fun _=>rfl,H.f4,H.f5,H.f6,H.f7,H.f8,H.f9,H.r10,H.r11,fun h j C=>by rw[H.r12 h j C,Bool.or_true],H.p0,H.p1,H.p2,H.p3⟩
   |4,hk,U,I,common=>
    obtain⟨J,row4,row11⟩:=common (by decide)
    clear common
    have U:=AYS (show some _=some o from U)
    subst U
    refine ABc ((H.base 4 (by decide)).trans l4) underlying99 rfl sizeOf97 rfl ?_
    exact Reg.nil ⟨rfl,fun t V=>(by rw[look_cons,if_neg (fun e=>V (by subst e;decide))];exact H.base t V),H.f0,H.f1,H.f2,H.f3,fun _=>rfl,H.f5,H.f6,H.f7,H.f8,H.f9,H.r10,H.r11,fun h j C=>by rw[H.r12 h j C,Bool.or_true],H.p0,H.p1,H.p2,H.p3⟩
   |5,hk,U,I,common=>
    obtain⟨J,row4,row11⟩:=common (by decide)
    clear common
    have U:=AYS (show some _=some o from U)
    subst U
    refine W7 (H.f4 (I _ (AYU (i:=0) rfl) rfl)) (row4.rd.cells.at 7 P) isAgg97 rfl ?_
    exact Reg.nil ⟨rfl,fun t V=>(by rw[look_cons,if_neg (fun e=>V (by subst e;decide))];exact H.base t V),H.f0,H.f1,H.f2,H.f3,H.f4,fun _=>rfl,H.f6,H.f7,H.f8,H.f9,H.r10,H.r11,fun h j C=>by rw[H.r12 h j C,Bool.or_true],H.p0,H.p1,H.p2,H.p3⟩
   |6,hk,U,I,common=>
    obtain⟨J,row4,row11⟩:=common (by decide)
    clear common
    have U:=AYS (show some _=some o from U)
    subst U
    refine ABc ((H.base 11 (by decide)).trans l11) underlying60 rfl sizeOf3 rfl ?_
    exact Reg.nil ⟨rfl,fun t V=>(by rw[look_cons,if_neg (fun e=>V (by subst e;decide))];exact H.base t V),H.f0,H.f1,H.f2,H.f3,H.f4,H.f5,fun _=>rfl,H.f7,H.f8,H.f9,H.r10,H.r11,fun h j C=>by rw[H.r12 h j C,Bool.or_true],H.p0,H.p1,H.p2,H.p3⟩
   |7,hk,U,I,common=>
    obtain⟨J,row4,row11⟩:=common (by decide)
    clear common
    have U:=AYS (show some _=some o from U)
    subst U
    refine W7 (H.f6 (I _ (AYU (i:=0) rfl) rfl)) (row11.rd.cells.at 1 rfl) isAgg3 rfl ?_
    exact Reg.nil ⟨rfl,fun t V=>(by rw[look_cons,if_neg (fun e=>V (by subst e;decide))];exact H.base t V),H.f0,H.f1,H.f2,H.f3,H.f4,H.f5,H.f6,fun _=>rfl,H.f8,H.f9,H.r10,H.r11,fun h j C=>by rw[H.r12 h j C,Bool.or_true],H.p0,H.p1,H.p2,H.p3⟩
   |8,hk,U,I,common=>
    obtain⟨J,row4,row11⟩:=common (by decide)
    clear common
    have U:=AYS (show some _=some o from U)
    subst U
    have F:D 11=false:=by
     cases S:D 11 with
     |false=>rfl
     |true=>rw[(H.r11 S).1]at hk;cases hk
    refine ASm jm (H.p0 F).1 hm (H.f5 (I _ (AYU (i:=0) rfl) rfl)) (H.f7 (I _ (AYU (i:=1) rfl) rfl)) R.2.1 underlying97 zeroValue26 (z0:=.slice none 0 0) ⟨[_],⟨rfl,rfl⟩,.inr ⟨rfl,rfl⟩⟩ rfl fun v9 m=>?_
    have e9:v9=v:=by
     obtain⟨cs,⟨y,_⟩,⟨d,_⟩|⟨_,d⟩⟩:=m
     . cases d
     . rw[y]at d;rw[<-hv];exact(List.singleton_inj.1 d).symm
    subst e9
    exact Reg.nil ⟨rfl,fun t V=>(by rw[look_cons,if_neg (fun e=>V (by subst e;decide))];exact H.base t V),H.f0,H.f1,H.f2,H.f3,H.f4,H.f5,H.f6,H.f7,fun _=>rfl,H.f9,H.r10,fun h=>⟨rfl,(H.r11 h).2⟩,fun h j C=>by rw[H.r12 h j C,Bool.or_true],H.p0,H.p1,H.p2,H.p3⟩
   |9,hk,U,I,common=>
    obtain⟨J,row4,row11⟩:=common (by decide)
    clear common
    have U:=AYS (show some _=some o from U)
    subst U
    refine ABF ((H.base 11 (by decide)).trans l11) row11.rd.cells isAgg60 rfl sizeOf60 rfl ?_
    exact Reg.nil ⟨rfl,fun t V=>(by rw[look_cons,if_neg (fun e=>V (by subst e;decide))];exact H.base t V),H.f0,H.f1,H.f2,H.f3,H.f4,H.f5,H.f6,H.f7,H.f8,fun _=>rfl,fun _=>rfl,fun h=>⟨(H.r11 h).1,rfl,(H.r11 h).2.2⟩,fun h j C=>by rw[H.r12 h j C,Bool.or_true],H.p0,H.p1,H.p2,H.p3⟩
   |10,hk,U,I,common=>
    obtain⟨J,row4,row11⟩:=common (by decide)
    clear common
    have U:=AYS (show some _=some o from U)
    subst U
    have F:D 11=false:=by
     cases S:D 11 with
     |false=>rfl
     |true=>rw[(H.r11 S).2.2]at hk;cases hk
    refine AMl (E:=AnswerE) (xs:=[a]) rsl26 (H.p0 F).1 rfl (show Sx.evs L' [.tmp 60]=some [_] by simp only[Sx.evs,Sx.ev,H.f9 (I _ (mem_of_getElem? (i:=0) rfl) rfl)];rfl) (Cls.cons rfl Cls.nil) (Chs.cons (AXi R) Chs.nil) rfl rfl ?_
    intro vb w' O x'
    have r:=O.freeze 0 rfl
    have s:HA w0 w M σ σ w':=⟨O.erase 0,(H.p0 F).2.trans (x'.trans (G2 (σ:=_::σ) 0))⟩
    exact Reg.nil ⟨rfl,fun t V=>(by rw[look_cons,if_neg (fun e=>V (by subst e;decide))];exact H.base t V),H.f0,H.f1,H.f2,H.f3,H.f4,H.f5,H.f6,H.f7,H.f8,H.f9,fun _=>I _ (AYU (i:=0) rfl) rfl,fun h=>⟨(H.r11 h).1,(H.r11 h).2.1,rfl⟩,fun h j C=>by rw[H.r12 h j C,Bool.or_true],fun _=>s,fun _ _=>⟨vb,rfl,r⟩,(fun h=>by rw[show D 11=true from h]at F;cases F),(fun h=>by rw[show D 12=true from h]at J;cases J)⟩
   |11,hk,U,I,common=>
    obtain⟨J,row4,row11⟩:=common (by decide)
    clear common
    have U:=AYS (show some _=some o from U)
    subst U
    have hdep9:D 9=true:=H.r10 (I _ (AYU (i:=1) rfl) rfl)
    have Q:D 11=false:=hk
    obtain⟨vb,f,p⟩:=H.p1 (I _ (AYU (i:=1) rfl) rfl) Q
    refine AHK i rsl26 (H.p0 Q).1 hi (H.f8 (I _ (AYU (i:=0) rfl) rfl)) f p ⟨Y,AYk (AaA _ (by decide)) Y⟩ rfl ?_
    intro v' w' O x'
    have G:=O.ownAt i (by rw[AZi (List.getElem?_eq_some_iff.1 hi).1])
    exact Reg.nil ⟨rfl,fun t V=>(by rw[look_cons,if_neg (fun e=>V (by subst e;decide))];exact H.base t V),H.f0,H.f1,H.f2,H.f3,H.f4,H.f5,H.f6,H.f7,H.f8,H.f9,H.r10,fun _=>⟨(I _ (AYU (i:=0) rfl) rfl),hdep9,(I _ (AYU (i:=1) rfl) rfl)⟩,fun h j C=>by rw[H.r12 h j C,Bool.or_true],(fun h=>by cases h),(fun _ h=>by cases h),fun _ _=>⟨v',rfl,Own.oneC G,O,(H.p0 Q).2.trans x'⟩,(fun h=>by rw[show D 12=true from h]at J;cases J)⟩
   |12,hk,U,I,common=>
    clear common
    have U:=AYS (show some _=some o from U)
    subst U
    have e0:D 0=true:=(I _ (AYU (i:=4) rfl) rfl)
    have e1:D 1=true:=(I _ (AYU (i:=5) rfl) rfl)
    have e2:D 2=true:=(I _ (AYU (i:=6) rfl) rfl)
    have e3:D 3=true:=(I _ (AYU (i:=7) rfl) rfl)
    have e4:D 4=true:=(I _ (AYU (i:=8) rfl) rfl)
    have e5:D 5=true:=(I _ (AYU (i:=9) rfl) rfl)
    have e6:D 6=true:=(I _ (AYU (i:=10) rfl) rfl)
    have e7:D 7=true:=(I _ (AYU (i:=11) rfl) rfl)
    have e8:D 8=true:=(I _ (AYU (i:=12) rfl) rfl)
    have e9:D 9=true:=(I _ (AYU (i:=13) rfl) rfl)
    have e10:D 10=true:=(I _ (AYU (i:=14) rfl) rfl)
    have e11:D 11=true:=(I _ (AYU (i:=15) rfl) rfl)
    obtain⟨v',n,G,N⟩:=H.p2 e11 hk
    refine AMo (K:=K3) (E:=M7) (ag:=false) jm N.1 (by rw[AZA d1];exact hm) (H.f1 e1) (H.f3 e3) R.2.1 n (z:=v') ⟨[v'],⟨rfl,G⟩,.inr ⟨rfl,rfl⟩⟩ underlying97 ?_
    intro w' O x'
    refine Reg.nil ⟨rfl,H.base,H.f0,H.f1,H.f2,H.f3,H.f4,H.f5,H.f6,H.f7,H.f8,H.f9,H.r10,H.r11,fun _ j C=>?_,(fun h=>by rw[show D 11=false from h]at e11;cases e11),(fun _ h=>by rw[show D 11=false from h]at e11;cases e11),(fun _ h=>by cases h),fun _=>⟨v',O,N.2.trans x'⟩⟩
    have:D j=true:=by
     match j,C with
     |0,_=>exact e0
     |1,_=>exact e1
     |2,_=>exact e2
     |3,_=>exact e3
     |4,_=>exact e4
     |5,_=>exact e5
     |6,_=>exact e6
     |7,_=>exact e7
     |8,_=>exact e8
     |9,_=>exact e9
     |10,_=>exact e10
     |11,_=>exact e11
    rw[this,Bool.or_true]
   |_+13,_,U,_,_=>cases U
 . intro D L' W b H;obtain⟨v',h⟩:=H.p3 (b 12 (by decide));exact hA v' L' W H.base h
def AId:List Answer->A2 Int (List Answer)->Option (A2 Int (List Answer))
 |[],h=>some h
 |a::l,h=>(appo 48 ((h a.dispute).getD []) [a]).bind fun y=>AId l (B9 h a.dispute y)
noncomputable def AXj:Code:=match f70.body with
 |some (.seq _ (.seq _ (.seq _ (.seq _ (.seq c _)))))=>c
 |_=>.skip
def AQP:List Nat:=[44,45,46,47,48,49,50,11,51,52,53,54,55,56,57,58,59,60,61,62,63]
abbrev Os:=List (Int×Value×List Answer)
def M8(os:Os):List Res:=os.map fun o=>ownR [] AnswerE 60 o.2.1 o.2.2
theorem AJH{κ α:Type}{f:A2 κ α}{l:List (κ×α)}(h:Lists f l){i:Nat}{k:κ}{x:α}(hi:l[i]?=some (k,x)):f k=some x:=(h.2 k x).1 (AYU hi)
theorem AWN{w0:World}{M:List Nat}{S1:List Res}{W:World}{g:A2 Int Value}{f:A2 Int (List Answer)}{os:Os}(k:Int)(V:Lists g (os.map fun o=>(o.1,o.2.1)))(C:Lists f (os.map fun o=>(o.1,o.2.2)))(D:Hp w0 [] M (M8 os++S1) W):
  ∃(os1:Os) (i:Nat) (v:Value) (l:List Answer),Hp w0 [] M (M8 os1++S1) W/\Adv (mm (M8 os++S1) M) (mm (M8 os1++S1) M) W W/\os1[i]?=some (k,v,l)/\(g k).getD (.slice none 0 0)=v/\(f k).getD []=l/\∀v' l',Lists (B9 g k v') ((os1.set i (k,v',l')).map fun o=>(o.1,o.2.1))/\Lists (B9 f k l') ((os1.set i (k,v',l')).map fun o=>(o.1,o.2.2)):=by
 by_cases hk:∃o∈os,o.1=k
 . obtain⟨⟨k',v,l⟩,I,H⟩:=hk
   have H:k'=k:=H
   subst H
   obtain⟨i,hi⟩:=AY2 I
   have F:(os.map fun o=>(o.1,o.2.1))[i]?=some (k',v):=by rw[AY7,hi];rfl
   have E:(os.map fun o=>(o.1,o.2.2))[i]?=some (k',l):=by rw[AY7,hi];rfl
   refine⟨os,i,v,l,D,Adv.refl _ _,hi,by rw[AJH V F];rfl,by rw[AJH C E];rfl,fun v' l'=>⟨?_,?_⟩⟩
   . rw[List.map_set];exact V.set F v'
   . rw[List.map_set];exact C.set E l'
 . have J:∀x∈(os.map fun o=>(o.1,o.2.1)),x.1≠k:=fun x hx e=>by
    obtain⟨o,I,rfl⟩:=mem_map.1 hx;exact hk ⟨o,I,e⟩
   have U:∀x∈(os.map fun o=>(o.1,o.2.2)),x.1≠k:=fun x hx e=>by
    obtain⟨o,I,rfl⟩:=mem_map.1 hx;exact hk ⟨o,I,e⟩
   refine⟨(k,.slice none 0 0,[])::os,0,_,[],D.addNil AnswerE 60,D.addNilH AnswerE 60,rfl,by rw[V.none J];rfl,by rw[C.none U];rfl,fun v' l'=>⟨?_,?_⟩⟩
   . exact(V.push v' J).perm (by simp only[List.set_cons_zero,List.map_cons];exact(AZ4 _ _).symm)
   . exact(C.push l' U).perm (by simp only[List.set_cons_zero,List.map_cons];exact(AZ4 _ _).symm)
theorem AQR{w0:World}{M:List Nat}{S0:List Res}{w:World}{L:A5}{jm j4 j1 b4 b1 bm:Nat}{al:List Answer}{cs1 cs4:List Value}{va:Value}{h:A2 Int (List Answer)}{A B:A3}{X:Nat->A3}{Z:List PanicEntry->A3}(hI:Hp w0 [] M S0 w)(hm:S0[jm]?=some (mapO K3 M7 false bm fnone))(h4:S0[j4]?=some (rowR 99 b4 cs4))(b:cs4[7]?=some (.map (some bm)))(h1:S0[j1]?=some (rowR 28 b1 cs1))(c:cs1[5]?=some va)(C:RdS AnswerE (mm S0 M) w va al)(d4:j4≠jm)(hw:w0.heap.size<=w.heap.size)(l1:Sx.A4 L 1=some (.pointer (some ⟨b1,0,none⟩)))(l4:Sx.A4 L 4=some (.pointer (some ⟨b4,0,none⟩)))(hr:AId al fnone=some h)(hA:∀L' w' (g:A2 Int Value) (os:Os),(∀t,t∉AQP->Sx.A4 L' t=Sx.A4 L t)->Lists g (os.map fun o=>(o.1,o.2.1))->Lists h (os.map fun o=>(o.1,o.2.2))->HA w0 w M S0 (M8 os++S0.set jm (mapO K3 M7 false bm g)) w'->A [] L' w'):CW prog 65 AXj [] L w A B X Z:=by
 obtain⟨a45,c45,rfl,s,hle⟩:=C.shape;have hlen_:InK .i64 ((al.length:Nat):Int):=C.inK;rw[InK.i64]at hlen_;refine A6 ?_;refine A9 ?_;refine ABc l1 underlying28 rfl sizeOf26 rfl ?_;refine W7 rfl ((hI.row j1 h1).rd.cells.at 5 c) isAgg26 rfl ?_;refine AE1 rfl underlying26 rfl ?_;refine K4 rfl rfl ?_;refine Reg.nil ?_;refine G7 ?_;refine ABb (ι:=A5×Nat×A2 Int Value×A2 Int (List Answer)×Os) (fun q=>q.1) (fun q W=>((∀t,t∉AQP->Sx.A4 q.1 t=Sx.A4 L t)/\Sx.A4 q.1 45=some (.slice a45 al.length c45)/\Sx.A4 q.1 46=some (.int .i64 (al.length:Nat))/\Sx.A4 q.1 47=some (.int .i64 (q.2.1:Nat)))/\q.2.1<=al.length/\AId (al.drop q.2.1) q.2.2.2.1=some h/\Lists q.2.2.1 (q.2.2.2.2.map fun o=>(o.1,o.2.1))/\Lists q.2.2.2.1 (q.2.2.2.2.map fun o=>(o.1,o.2.2))/\HA w0 w M S0 (M8 q.2.2.2.2++S0.set jm (mapO K3 M7 false bm q.2.2.1)) W) (fun q=>al.length-q.2.1) (_,0,fnone,fnone,[]) ⟨⟨fun t J=>?_,rfl,rfl,rfl⟩,AY0 _,by simpa using hr,Lists.nil,Lists.nil,?_⟩ (Sub.refl _) ?_
 . show Sx.A4 (_::_::_::_::L) t=_;rw[look_cons,if_neg (fun e=>J (by subst e;decide)),look_cons,if_neg (fun e=>J (by subst e;decide)),look_cons,if_neg (fun e=>J (by subst e;decide)),look_cons,if_neg (fun e=>J (by subst e;decide))]
 . have e:M8 []++S0.set jm (mapO K3 M7 false bm fnone)=S0:=by
    show S0.set jm _=S0;exact AZM fun j=>by
     rw[AZy];split
     . rename_i e;subst e;rw[hm];rw[AYf (List.getElem?_eq_some_iff.1 hm).1]
     . rfl
   exact⟨by rw[e];exact hI,by rw[e];exact Adv.refl _ _⟩
 rintro⟨L1,i,g,f,os⟩ W1 ⟨⟨lb,l45,l46,l47⟩,hi,H,N,S,Q⟩;dsimp only at lb l45 l46 l47 hi H N S Q ⊢;refine A6 ?_;refine A9 ?_;refine AHE l47 l46 rfl ?_;refine Reg.nil ?_;refine A6 ?_;refine AA1 rfl (fun U=>?_) (fun O=>?_)
 . have U:i<al.length:=by have:=AYZ U;omega
   rw[AZ7 U]at H;obtain⟨y,hy,H⟩:=U2 H;obtain⟨F,rfl⟩:=AEK hy;have T:=C.adv Q.2;obtain⟨os1,i0,v,l,m,x1,r,R,P,V⟩:=AWN (al[i]).dispute N S Q.1;rw[P]at F H;refine R7 ?_;refine A6 ?_;refine G7 ?_;refine A6 ?_;refine A9 ?_;refine ASj l45 l47 T (z:=al[i]) (ADu (AYd U)) underlying26 sizeOf60 rfl ?_;intro b9 o9 cs9 d p;obtain⟨rfl,G⟩:=(AnswerE_R (x:=al[i])).1 d;obtain⟨q0,q1,q2,q3,q4,q5⟩:=G;refine ABF rfl p.cells isAgg60 rfl sizeOf60 rfl ?_;refine ACn m zeroValue60 rfl rfl ?_;intro b11 w5 k x5;refine ABd 0 k rfl rfl rfl rfl sizeOf60 rfl rfl (D5 rfl (D5 rfl (D5 rfl (D5 rfl (D5 rfl (D5 rfl ACj)))))) ?_;intro w6 D x6;have D:Hp w0 [] M (rowR 60 b11 (AFX al[i])::(M8 os1++S0.set jm (mapO K3 M7 false bm g))) w6:=D;have x6:Adv (mm (rowR 60 b11 [.int .i64 0,.int .i64 0,.int .i64 0,.int .u8 0,.int .i64 0,.int .i64 0]::(M8 os1++S0.set jm (mapO K3 M7 false bm g))) M) (mm (rowR 60 b11 (AFX al[i])::(M8 os1++S0.set jm (mapO K3 M7 false bm g))) M) w5 w6:=x6;refine Reg.nil ?_;have e4:M8 os1++S0.set jm (mapO K3 M7 false bm g)=M8 os1++S0.set jm (mapO K3 M7 false bm g):=rfl;have K:i0<os1.length:=(List.getElem?_eq_some_iff.1 r).1;have I:(M8 os1).length=os1.length:=by simp[M8]
   have Y:jm<S0.length:=(List.getElem?_eq_some_iff.1 hm).1;refine ANZ D (i:=i0+1) (jm:=os1.length+jm+1) (j4:=os1.length+j4+1) (j11:=0) (b4:=b4) (b11:=b11) (bm:=bm) (v:=v) (l:=l) (a:=al[i]) (g:=g) (cs4:=cs4) ?_ ?_ ?_ b rfl ⟨q0,q1,q2,q3,q4,q5⟩ R (by omega) (by omega) (by omega) F.1 ?_ rfl ?_
   . rw[AZt,AY5 (by rw[I];exact K)];simp only[M8,List.getElem?_map,r];rfl
   . rw[AZt,AZC (by rw[I];omega),I,AZS,AZi Y]
   . rw[AZt,AZC (by rw[I];omega),I,AZS,AZA (AaQ d4)];exact h4
   . exact(lb 4 (by decide)).trans l4
   . intro v' L5 w7 lb5 E;have e7:((rowR 60 b11 (AFX al[i])::(M8 os1++S0.set jm (mapO K3 M7 false bm g))).set (i0+1) (ownR [] AnswerE 60 v' (l++[al[i]]))).set (os1.length+jm+1) (mapO K3 M7 false bm (B9 g (al[i]).dispute v'))=rowR 60 b11 (AFX al[i])::(M8 (os1.set i0 ((al[i]).dispute,v',l++[al[i]]))++S0.set jm (mapO K3 M7 false bm (B9 g (al[i]).dispute v'))):=by
      rw[AaN,AaN,List.set_append_left _ _ (by rw[I];exact K),List.set_append_right _ _ (by rw[AZ3,I];omega),AZ3,I,AZS,List.set_set];simp only[M8,List.map_set]
     rw[e7]at E;have n:HA w0 w M S0 (M8 (os1.set i0 ((al[i]).dispute,v',l++[al[i]]))++S0.set jm (mapO K3 M7 false bm (B9 g (al[i]).dispute v'))) w7:=⟨E.1.erase 0,Q.2.trans (x1.trans (x5.trans (x6.trans (E.2.trans (G2 (σ:=_::_) 0)))))⟩;refine A9 ?_;refine AHF ((lb5 47 (by decide)).trans l47) rfl rfl (InK.i64.2 (by omega)) ?_;refine K4 rfl rfl ?_;refine Reg.nil ⟨rfl,(_,i+1,B9 g (al[i]).dispute v',B9 f (al[i]).dispute (l++[al[i]]),os1.set i0 ((al[i]).dispute,v',l++[al[i]])),?_,Sub.refl _,by dsimp only;omega⟩;refine⟨⟨fun t J=>?_,(lb5 45 (by decide)).trans l45,(lb5 46 (by decide)).trans l46,rfl⟩,U,H,(V v' _).1,(V v' _).2,n⟩;show Sx.A4 (_::_::L5) t=_;rw[look_cons,if_neg (fun e=>J (by subst e;decide)),look_cons,if_neg (fun e=>J (by subst e;decide)),lb5 t (fun e=>J ((by decide:∀u∈ANY,u∈AQP) t e))];show Sx.A4 (_::_::_::_::L1) t=_;rw[look_cons,if_neg (fun e=>J (by subst e;decide)),look_cons,if_neg (fun e=>J (by subst e;decide)),look_cons,if_neg (fun e=>J (by subst e;decide)),look_cons,if_neg (fun e=>J (by subst e;decide))];exact lb t J
 . have O:¬i<al.length:=by have:=AYb O;omega
   obtain rfl:i=al.length:=by omega
   rw[List.drop_length]at H;have H:=AYS H;subst H;refine ABZ (T8 ?_);exact hA _ W1 g os (fun t J=>by
    show Sx.A4 (_::L1) t=_;rw[look_cons,if_neg (fun e=>J (by subst e;decide))];exact lb t J) N S Q
variable{M:List Nat}{w:World}{x:Desk_99}{e:Int}
theorem AEo:∀{cs vs:List Value},cs.length=vs.length->C3 cs 0 vs=vs
 |[],[],_=>rfl
 |_::r,v::vs,h=>by
  show v::C3 r 0 vs=_;rw[AEo (by simpa using h)]
 |[],_::_,h=>by cases h
 |_::_,[],h=>by cases h
def ARC:Nat->Desk_99->Option Int
 |0=>C8
 |1=>D8
 |2=>D9
 |_=>F0
def stepG:Nat->Nat
 |0=>202
 |1=>203
 |2=>204
 |_=>208
def ABC(x:Desk_99)(i:Nat):Nat->Option Int
 |0=>some 0
 |n+1=>(ARC i x).bind fun e=>if e=0 then ABC x (i+1) n else some e
theorem ANa(i:Nat)(J:MLt M w)(I:GlOk (P:=prog) M w){v:Value}(hx:OkD (P:=prog) M w (.st 10) x v)(H:ARC i x=some e):
  CallsV prog (.func (.func (stepG i)) #[] #[]) [v] w fun en w'=>en=.returned (.int .i64 e)/\InK .i64 e/\Ext w w':=by
 have fin:∀{k:Nat} {c:Ctr},c.ps=[.d (.st 10)]->True:=fun _=>trivial
 have conv:∀{k:Nat},Calls prog k (toArray [v]) w (fun en w'=>∃vs,en=.returned (ACF vs)/\KsOk (P:=prog) M (obK [.d (.int .i64)] vs++M) w w' [.d (.int .i64)] e vs/\Ext w w')->(∀args w,(callFunc k args).run prog w=.ok (.enter k args) w)->CallsV prog (.func (.func k) #[] #[]) [v] w fun en w'=>en=.returned (.int .i64 e)/\InK .i64 e/\Ext w w':=fun {k} h V=>by
  refine⟨k,#[],rfl,V,?_⟩;refine Calls.mono (by simpa using h) ?_;rintro en w' ⟨vs,rfl,⟨u,rfl,U⟩,hx⟩;have U:OkD (P:=prog) M w' (.int .i64) e u:=U;obtain⟨rfl,hk⟩:=E5 (ρ:=fun _=>undef) (R:=fun _=>none) (.int .i64) U;exact⟨rfl,hk,hx⟩
 match i,H with
 |0,H=>exact conv (ok202.2 M w (x,()) [v] e J I ⟨v,[],rfl,hx,rfl⟩ H) call202
 |1,H=>exact conv (ok203.2 M w (x,()) [v] e J I ⟨v,[],rfl,hx,rfl⟩ H) call203
 |2,H=>exact conv (ok204.2 M w (x,()) [v] e J I ⟨v,[],rfl,hx,rfl⟩ H) call204
 |_+3,H=>exact conv (ok208.2 M w (x,()) [v] e J I ⟨v,[],rfl,hx,rfl⟩ H) call208
noncomputable def AXk:Code:=match f70.body with
 |some (.seq _ (.seq _ (.seq _ (.seq c _))))=>c
 |_=>.skip
def ANb:List Nat:=[32,33,34,35,8,36,37,38,9,39,40,41,42,3,43]
theorem ANc{L:A5}{b2 b4:Nat}{cs2 cs4:List Value}{A B:A3}{X:Nat->A3}{Z:List PanicEntry->A3}(hM:MLt M w)(hg:GlOk (P:=prog) M w)(K:RdC M w b4 0 cs4)(hx:(enc (P:=prog) (.st 10)).R M w cs4 x)(N:Row 99 w b2 cs2)(T:cs2.length=8)(l2:Sx.A4 L 2=some (.pointer (some ⟨b2,0,none⟩)))(l4:Sx.A4 L 4=some (.pointer (some ⟨b4,0,none⟩)))(m:ABC x 0 4=some e)(n:e=0->∀L' w',Ext w w'->(∀t,t∉ANb->Sx.A4 L' t=Sx.A4 L t)->A [] L' w')(G:e≠0->∀L' w' w'',Ext w w'->Kp [b2] w' w''->Row 99 w'' b2 cs4->InK .i64 e->(∀t,t∉ANb->Sx.A4 L' t=Sx.A4 L t)->Sx.A4 L' 3=some (.int .i64 e)->B [] L' w''):CW prog 65 AXk [] L w A B X Z:=by
 obtain⟨bg,og,ug,vg,eg,z,⟨vs',rfl,S⟩,j⟩:=hg 1 _ rfl (fun _=>undef) (fun _=>none);cases eg
 obtain rfl:vs'=vg:=by
  have h:toArray vs'=toArray vg:=j;simpa using h
 have J:cs4.length=8:=(enc (P:=prog) (.st 10)).len hx;have one4:∀u∈cs4,u.oneCell'=true:=(enc (P:=prog) (.st 10)).one hx;have ei:vs'=[.func (.func 202) #[] #[],.func (.func 203) #[] #[],.func (.func 204) #[] #[],.func (.func 208) #[] #[]]:=by
  have one:∀{g:Nat} {l:List SV} {vs:List Value},OkL (P:=prog) (fun _=>undef) (fun _=>none) M w (.fn g []::l) vs->∃r,vs=.func (.func g) #[] #[]::r/\OkL (P:=prog) (fun _=>undef) (fun _=>none) M w l r:=fun {g l vs} h=>by
   obtain⟨u,c,r,rfl,⟨ws,rfl,C⟩,hc,m⟩:=h;have C:ws=[]:=C;subst C;have hc:#[Value.func (.func g) #[] #[]]=toArray c:=hc;have:c=[Value.func (.func g) #[] #[]]:=by simpa using hc.symm
   subst this;exact⟨r,rfl,m⟩
  obtain⟨r1,rfl,h1⟩:=one S;obtain⟨r2,rfl,N⟩:=one h1;obtain⟨r3,rfl,h3⟩:=one N;obtain⟨r4,rfl,K⟩:=one h3;have K:r4=[]:=K;rw[K]
 subst ei;refine A6 ?_;refine A9 ?_;refine ABF rfl z.cells isAgg184 rfl sizeOf184 rfl ?_;refine K4 rfl rfl ?_;refine Reg.nil ?_;refine G7 ?_;refine ABb (ι:=A5×Nat) (fun q=>q.1) (fun q W=>((∀t,t∉ANb->Sx.A4 q.1 t=Sx.A4 L t)/\Sx.A4 q.1 32=some (.agg #[.func (.func 202) #[] #[],.func (.func 203) #[] #[],.func (.func 204) #[] #[],.func (.func 208) #[] #[]])/\Sx.A4 q.1 33=some (.int .i64 (q.2:Nat)))/\q.2<=4/\ABC x q.2 (4-q.2)=some e/\Ext w W) (fun q=>4-q.2) (_,0) ⟨⟨fun t H=>?_,rfl,rfl⟩,AY0 _,m,Kp.refl _ _⟩ (Sub.refl _) ?_
 . show Sx.A4 (_::_::L) t=_;rw[look_cons,if_neg (fun e=>H (by subst e;decide)),look_cons,if_neg (fun e=>H (by subst e;decide))]
 rintro⟨L1,i⟩ W1 ⟨⟨lb,l32,l33⟩,hi,I,F⟩;dsimp only at lb l32 l33 hi I ⊢;refine A6 ?_;refine A9 ?_;refine AHE l33 rfl rfl ?_;refine Reg.nil ?_;refine A6 ?_;refine AA1 rfl (fun D=>?_) (fun Y=>?_)
 . have D:i<4:=by have:=AYZ D;omega
   rw[show 4-i=(4-(i+1))+1 by omega]at I;obtain⟨e1,y,I⟩:=U2 I;refine R7 ?_;refine A6 ?_;refine G7 ?_;refine A6 ?_;refine A9 ?_;refine Reg.val (.func (.func (stepG i)) #[] #[]) rfl rfl rfl (fun a ha w' _=>?_) ?_
   . have h7:=ha.eval (x:=.tmp 32) l32;have h8:=ha.eval (x:=.tmp 33) l33;have s:i=0\/i=1\/i=2\/i=3:=by omega
     rcases s with rfl|rfl|rfl|rfl<;>simp[execOp,h7,h8,Instr.index,asIntOf,run_underlying underlying184,part,isAgg183,sizeOf183,stepG]
   refine H2 rfl rfl ?_;refine Reg.nil ?_;refine A6 ?_;refine A9 ?_;refine K4 rfl rfl ?_;refine ABF ((lb 4 (by decide)).trans l4) (K.adv (Adv.of_ext F)).cells isAgg99 J sizeOf99 rfl ?_;refine AFg (vs:=[.agg cs4.toArray]) rfl rfl rfl ?_;obtain⟨g9,c9,v9,hc9,hcall⟩:=ANa i (hM.ext F) (hg.adv (Adv.of_ext F)) (v:=.agg cs4.toArray) ⟨cs4,(enc (P:=prog) (.st 10)).adv hx (Adv.of_ext F),.inl ⟨rfl,rfl⟩⟩ y;refine⟨g9,c9,v9,hc9,hcall.mono ?_⟩;rintro _ W2 ⟨rfl,p,hE2⟩;refine⟨_,rfl,?_⟩;refine H2 rfl rfl ?_;refine Reg.nil ?_;refine A6 ?_;refine A9 ?_;refine K4 rfl rfl ?_;refine AQl rfl rfl rfl ?_;refine Reg.nil ?_;have lk9:∀{a b c d f g h k:Value} (t:Nat),t∉ANb->Sx.A4 ((40,a)::(39,b)::(9,c)::(38,d)::(37,f)::(36,g)::(8,h)::(35,k)::(34,.bool (decide ((i:Int)<4)))::L1) t=Sx.A4 L t:=fun t H=>by
    rw[look_cons,if_neg (fun e=>H (by subst e;decide)),look_cons,if_neg (fun e=>H (by subst e;decide)),look_cons,if_neg (fun e=>H (by subst e;decide)),look_cons,if_neg (fun e=>H (by subst e;decide)),look_cons,if_neg (fun e=>H (by subst e;decide)),look_cons,if_neg (fun e=>H (by subst e;decide)),look_cons,if_neg (fun e=>H (by subst e;decide)),look_cons,if_neg (fun e=>H (by subst e;decide)),look_cons,if_neg (fun e=>H (by subst e;decide))];exact lb t H
   have V:Ext w W2:=F.trans hE2;refine AA1 rfl (fun U=>?_) (fun E=>?_)
   . have U:e1≠0:=by simpa using U
     rw[if_neg U]at I;cases I
     refine A6 ?_;refine A9 ?_;refine ABF ((lk9 4 (by decide)).trans l4) (K.adv (Adv.of_ext V)).cells isAgg99 J sizeOf99 rfl ?_;refine K4 rfl rfl ?_;have hb2:b2<w.heap.size:=J6 N;refine APP (e:=99) (cs:=cs2) (vs:=cs4) ((lk9 2 (by decide)).trans l2) rfl rfl ((V.block b2 hb2 (by simp)).trans N) sizeOf99 J (by rw[T,J];rfl) one4 ?_;intro w3 Q o;refine H2 rfl rfl ?_;refine Reg.nil ?_;refine O6 ?_;have O:C3 cs2 0 cs4=cs4:=AEo (by rw[T,J]);rw[O]at Q;exact G U _ W2 w3 V o Q p (fun t H=>by
      show Sx.A4 (_::_::_::_) t=_;rw[look_cons,if_neg (fun e=>H (by subst e;decide)),look_cons,if_neg (fun e=>H (by subst e;decide)),look_cons,if_neg (fun e=>H (by subst e;decide))];exact lk9 t H) rfl
   . have E:e1=0:=by simpa using E
     rw[AYf E]at I;refine R7 ?_;refine A9 ?_;refine AHF l33 rfl rfl (InK.i64.2 (by omega)) ?_;refine K4 rfl rfl ?_;refine Reg.nil ⟨rfl,(_,i+1),?_,Sub.refl _,by dsimp only;omega⟩;refine⟨⟨fun t H=>?_,l32,rfl⟩,D,I,V⟩;show Sx.A4 (_::_::_) t=_;rw[look_cons,if_neg (fun e=>H (by subst e;decide)),look_cons,if_neg (fun e=>H (by subst e;decide))];exact lk9 t H
 . have Y:¬i<4:=by have:=AYb Y;omega
   obtain rfl:i=4:=by omega
   have he:e=0:=(AYS I).symm;refine ABZ (T8 ?_);exact n he _ W1 F (fun t H=>by
    show Sx.A4 (_::L1) t=_;rw[look_cons,if_neg (fun e=>H (by subst e;decide))];exact lb t H)
end Go.Proofs.YtgioiejbphljoaaGreatDoor
namespace Go.Rx
open Go Go.Sx Go.RowKit
section
variable[Trk][Sg][Sf]{P:Program}[Se P][Anch]{w0 w:World}{M:List Nat}{N:Nat}{ds:List Deferred}
theorem AO2[Sl (P:=P)]{G:Gx}(D:GxOk P G)(c:Code)(an:An){sh:Sh}{σ:AS}{x:N6 sh.cs}{L:A5}{w:World}{A B:A3}{X:Nat->A3}{Z:List PanicEntry->A3}(h:exec G N (fun _=>(none:Option Unit)) c an (I3 sh) (fun _ _=>none) (fun _=>none) σ=some x)(C:Holds (P:=P) w0 [] M σ L w)(hA:∀L' w',EnvS (D6 c++D4 an) L L'->Holds (P:=P) w0 [] M (C2 (D6 c++D4 an) sh σ x) L' w'->A ds L' w'):CW P N c ds L w A B X Z:=
 AAW (n:=3) (AC8 (I7 D c an _ _ _ _ _ _ _ _ _ _ _ _ _ h C (fun σ1 L1 w1 E V I H=>by
  obtain⟨S,ρ,γ,μ,ι,U⟩:=H;exact hA L1 w1 I (S9 U V E)) (fun i σ2 L2 w2 J=>by cases J) (fun r σ2 L2 w2 J F _ W=>by cases J) PZ.no))
end
section
variable[Trk][Sg][Sf]{P:Program}[Se P]{ρ:Nat->Value}{R:Nat->Option AR}{M:List Nat}{w:World}{l:List SV}{vs:List Value}
theorem ACi{k:IntKind}{x:Int}(h:OkL (P:=P) ρ R M w (.int k x::l) vs):∃r,vs=.int k x::r/\InK k x/\OkL (P:=P) ρ R M w l r:=by
 obtain⟨u,c,r,rfl,⟨rfl,hk⟩,H,I⟩:=h;have H:#[Value.int k x]=toArray c:=H;have:c=[Value.int k x]:=by simpa using H.symm
 subst this;exact⟨r,rfl,hk,I⟩
theorem AED{t:Ty}{x:List (den t)}(h:OkL (P:=P) ρ R M w (.dat (.sl t) x::l) vs):∃v r,vs=v::r/\OkD (P:=P) M w (.sl t) x v/\v.cells=#[v]/\OkL (P:=P) ρ R M w l r:=by
 obtain⟨u,c,r,rfl,⟨_,hd⟩,H,I⟩:=h;obtain⟨a,n,rfl,_⟩:=(OkD.rds hd).shape;have H:#[Value.slice a x.length n]=toArray c:=H;have:c=[Value.slice a x.length n]:=by simpa using H.symm
 subst this;exact⟨_,r,rfl,hd,rfl,I⟩
theorem ABD{s:SV}(h:OkL (P:=P) ρ R M w (s::l) vs)(J:∀u,Ok (P:=P) ρ R M w s u->u.cells=#[u]):∃u r,vs=u::r/\OkL (P:=P) ρ R M w l r:=by
 obtain⟨u,c,r,rfl,I,H,U⟩:=h;rw[J u I]at H;have:c=[u]:=by simpa using H.symm
 subst this;exact⟨u,r,rfl,U⟩
theorem AIe{i:Nat}(h:OkL (P:=P) ρ R M w (.own i::l) vs):∃r,vs=ρ i::r/\OkL (P:=P) ρ R M w l r:=by
 obtain⟨u,c,r,rfl,⟨rfl,J,_⟩,H,I⟩:=h;rw[J]at H;have:c=[ρ i]:=by simpa using H.symm
 subst this;exact⟨r,rfl,I⟩
end
end Go.Rx
namespace Go.Proofs.YtgioiejbphljoaaGreatDoor
open Go Go.Sx Go.Rx Go.RowKit
theorem AB3{P:Program}{kt:TypeId}{α β:Type}{K:Ky P kt Int}{E:Enc α}{E':Enc β}{ag ag':Bool}{M M':List Nat}{w:World}{b:Nat}{g:A2 Int α}{f:A2 Int β}(h:MapH K E ag M w b g)(D:∀k x v,g k=some x->Vl E ag M w v x->∃y,f k=some y/\Vl E' ag' M' w v y)(C:∀k,g k=none->f k=none):MapH K E' ag' M' w b f:=by
 obtain⟨es,c,xs,Y,T,Q,V⟩:=h;have key:∀(es:List MapEntry) (xs:List (Int×α)),EntK K E ag M w es xs->(∀x∈xs,g x.1=some x.2)->∃ys:List (Int×β),EntK K E' ag' M' w es ys/\ys.map (·.1)=xs.map (·.1)/\∀y∈ys,f y.1=some y.2:=by
  intro es;induction es with
  |nil=>
   intro xs h _
   cases xs with
   |nil=>exact⟨[],trivial,rfl,fun _ h=>by cases h⟩
   |cons _ _=>exact h.elim
  |cons e es ih=>
   intro xs h hx
   cases xs with
   |nil=>exact h.elim
   |cons x xs=>
    obtain⟨k1,k2,k3⟩:=h
    obtain⟨ys,y1,y2,y3⟩:=ih xs k3 fun z H=>hx z (AYT _ H)
    obtain⟨y,J,I⟩:=D x.1 x.2 e.val (hx x (AYX ..)) k2
    exact⟨(x.1,y)::ys,⟨k1,I,y1⟩,by simp[y2],fun z H=>(mem_cons.1 H).elim (fun e=>by subst e;exact J) (y3 z)⟩
 obtain⟨ys,y1,y2,y3⟩:=key _ _ Q fun x hx=>(V.2 x.1 x.2).1 hx;refine⟨es,c,ys,Y,T,y1,by rw[y2];exact V.1,fun a y=>⟨fun hm=>y3 _ hm,fun U=>?_⟩⟩;cases W:g a with
 |none=>rw[C a W]at U;cases U
 |some x=>
  have O:(a,x)∈xs:=(V.2 a x).2 W
  have F:a∈ys.map (·.1):=by rw[y2];exact mem_map.2 ⟨_,O,rfl⟩
  obtain⟨z,H,rfl⟩:=mem_map.1 F
  have:=y3 z H
  rw[U]at this
  cases this
  exact H
def s70(d:Desk):AS:=⟨[(1,.ptr 1 0),(2,.ptr 2 0),(3,.int .i64 0),(4,.ptr 4 0)],
 [(4,.row 99 [.int .i64 d.terms.answer,.int .i64 d.terms.mark,.int .i64 d.terms.lately,.dat (.sl (.st 1)) d.reports,.dat (.sl (.st 2)) d.disputes,.dat (.sl (.st 3)) d.answers,.own 13,.own 14]),(14,.own false (.mp 3 (.int .i64) (.sl (.st 3))) (fnone:A2 Int (List Answer))),(13,.own false (.mp 3 (.int .i64) (.st 1)) (fnone:A2 Int Report)),
  (2,.row 99 [.int .i64 0,.int .i64 0,.int .i64 0,.nilS,.nilS,.nilS,.raw (.map none),.raw (.map none)]),(1,.row 28 [.int .i64 d.terms.answer,.int .i64 d.terms.mark,.int .i64 d.terms.lately,.dat (.sl (.st 1)) d.reports,.dat (.sl (.st 2)) d.disputes,.dat (.sl (.st 3)) d.answers])],[],[]⟩
noncomputable def ANd:Code:=match f70.body with
 |some (.seq _ (.seq _ (.seq c _)))=>c
 |_=>.skip
def ANe:Sh:=⟨[(.cont 13,.own (.mp 3 (.int .i64) (.st 1)))],[4,14,13,2,1]⟩
theorem AF6:GxOk prog gxb:=A8 trivial
theorem AWO(d:Desk):exec gxb 65 (fun _=>(none:Option Unit)) ANd anpre70.r.r (I3 ANe) (fun _ _=>none) (fun _=>none) (s70 d)=H1 d:=by kernel_rfl
def H7(d:Desk):Option (Desk_99×Int):=(H1 d).bind fun f=>(ABC ⟨d,f,fnone⟩ 0 4).bind fun e=>if e=0 then (AId d.answers fnone).bind fun h=>some (⟨d,f,h⟩,0) else some (⟨d,f,fnone⟩,e)
def ctr70:Ctr:=⟨[.d (.st 4)],[.d (.st 10),.d (.int .i64)],fun a=>H7 a.1⟩
theorem AMO{M:List Nat}{W:World}{d:Desk}{f:A2 Int Report}{h:A2 Int (List Answer)}{v3 v4 v5 v6 v7:Value}(k0:InK .i64 d.terms.answer)(k1:InK .i64 d.terms.mark)(k2:InK .i64 d.terms.lately)(k3:OkD (P:=prog) M W (.sl (.st 1)) d.reports v3)(k4:OkD (P:=prog) M W (.sl (.st 2)) d.disputes v4)(k5:OkD (P:=prog) M W (.sl (.st 3)) d.answers v5)(k6:OkD (P:=prog) M W (.mp 3 (.int .i64) (.st 1)) f v6)(k7:OkD (P:=prog) M W (.mp 3 (.int .i64) (.sl (.st 3))) h v7)(c3:v3.cells=#[v3])(c4:v4.cells=#[v4])(c5:v5.cells=#[v5])(c6:v6.cells=#[v6])(c7:v7.cells=#[v7]):
  OkD (P:=prog) M W (.st 10) (⟨d,f,h⟩:Desk_99) (.agg (toArray [.int .i64 d.terms.answer,.int .i64 d.terms.mark,.int .i64 d.terms.lately,v3,v4,v5,v6,v7])):=
 H8 (ρ:=fun _=>undef) (R:=fun _=>none) (M:=M) (fun _ h=>h) (.st 10) (.agg [.int .i64 d.terms.answer,.int .i64 d.terms.mark,.int .i64 d.terms.lately,.dat (.sl (.st 1)) d.reports,.dat (.sl (.st 2)) d.disputes,.dat (.sl (.st 3)) d.answers,.dat (.mp 3 (.int .i64) (.st 1)) f,.dat (.mp 3 (.int .i64) (.sl (.st 3))) h]) (fun i hi=>by cases hi) rfl
  ⟨_,rfl,_,[_],_,rfl,⟨rfl,k0⟩,rfl,_,[_],_,rfl,⟨rfl,k1⟩,rfl,_,[_],_,rfl,⟨rfl,k2⟩,rfl,v3,[v3],_,rfl,⟨rfl,k3⟩,c3,v4,[v4],_,rfl,⟨rfl,k4⟩,c4,v5,[v5],_,rfl,⟨rfl,k5⟩,c5,v6,[v6],_,rfl,⟨rfl,k6⟩,c6,v7,[v7],_,rfl,⟨rfl,k7⟩,c7,rfl⟩
theorem ok70:Ctr.ok prog 70 ctr70:=by
 refine⟨by decide,fun M w a vals r hM hg ha C=>?_⟩;obtain⟨d,_⟩:=a;obtain⟨vd,_,rfl,Q,rfl⟩:=ha;have Q:OkD (P:=prog) M w (.st 4) d vd:=Q;have C:H7 d=some r:=C;unfold H7 at C;obtain⟨f,hf,C⟩:=U2 C;obtain⟨e,he,C⟩:=U2 C;have h0:Holds (P:=prog) w [] M ⟨[(0,.str 4 d)],[],[],[]⟩ [(0,vd)] w:=by
  refine Holds.start hM (fun t s m=>?_) ⟨trivial,hg⟩;rw[fnd_cons]at m;split at m
  . rename_i e;subst e;cases m;exact⟨vd,rfl,Q⟩
  . cases m
 refine I0 (l:=[vd]) (fn:=f70) func70 rfl rfl rfl ?_;refine A6 ?_;refine AFW AF6 (by exact rfl) h0 fun L1 w1 hE1 F=>?_;refine A6 ?_;refine AFW AF6 (by exact rfl) F fun L2 w2 hE2 W=>?_;have h3:=ANX (env':=(s70 d).env) (res':=(s70 d).res) W ⟨rfl,rfl,rfl,rfl,trivial⟩ fun _=>rfl;clear F W;refine A6 ?_;refine AO2 AF6 ANd anpre70.r.r (sh:=ANe) (σ:=s70 d) ((AWO d).trans hf) h3 fun L3 w3 hE3 h4=>?_;obtain⟨S,ρ,γ,μ,ι,J⟩:=h4;obtain⟨v4,l4,bb4,hb4,rfl⟩:=J.env 4 (.ptr 4 0) rfl;obtain⟨v2,l2,bb2,B,rfl⟩:=J.env 2 (.ptr 2 0) rfl;obtain⟨v1,l1,bb1,hb1,rfl⟩:=J.env 1 (.ptr 1 0) rfl;obtain⟨v3,l3,rfl,_⟩:=J.env 3 (.int .i64 0) rfl;obtain⟨b4,e4,r4,o4,i4⟩:=J.rowAt (i:=4) (e:=99) (l:=[.int .i64 d.terms.answer,.int .i64 d.terms.mark,.int .i64 d.terms.lately,.dat (.sl (.st 1)) d.reports,.dat (.sl (.st 2)) d.disputes,.dat (.sl (.st 3)) d.answers,.own 13,.own 14]) rfl;obtain⟨b2,e2,r2,o2,i2⟩:=J.rowAt (i:=2) (e:=99) (l:=[.int .i64 0,.int .i64 0,.int .i64 0,.nilS,.nilS,.nilS,.raw (.map none),.raw (.map none)]) rfl;obtain⟨b1,e1,r1,o1,i1⟩:=J.rowAt (i:=1) (e:=28) (l:=[.int .i64 d.terms.answer,.int .i64 d.terms.mark,.int .i64 d.terms.lately,.dat (.sl (.st 1)) d.reports,.dat (.sl (.st 2)) d.disputes,.dat (.sl (.st 3)) d.answers]) rfl;have i13:=J.res 13 (.own false (.mp 3 (.int .i64) (.st 1)) f) rfl;have i14:=J.res 14 (.own false (.mp 3 (.int .i64) (.sl (.st 3))) (fnone:A2 Int (List Answer))) rfl;obtain⟨b13,e13⟩:∃b,ρ 13=.map (some b):=J.row 13 _ rfl;obtain⟨b14,e14⟩:∃b,ρ 14=.map (some b):=J.row 14 _ rfl;rw[hb4]at e4;cases e4;rw[B]at e2;cases e2;rw[hb1]at e1;cases e1;obtain⟨qa,g4,k0,oa⟩:=ACi o4;obtain⟨qb,ea,k1,ob⟩:=ACi oa;obtain⟨qc,eb,k2,oc⟩:=ACi ob;obtain⟨vr,qd,ec,dr,cr,od⟩:=AED oc;obtain⟨vx,qe,ed,dx,cx,oe⟩:=AED od;obtain⟨vy,qf,ee,dy,cy,of⟩:=AED oe;obtain⟨qg,ef,og⟩:=AIe of;obtain⟨qh,eg,oh⟩:=AIe og;have oh:qh=[]:=oh;rw[oh]at eg;rw[eg,e14]at ef;rw[ef,e13]at ee;rw[ee]at ed;rw[ed]at ec;rw[ec]at eb;rw[eb]at ea;rw[ea]at g4;rw[g4]at r4 i4;obtain⟨pa,g1,_,oa1⟩:=ACi o1;obtain⟨pb,fa,_,ob1⟩:=ACi oa1;obtain⟨pc,fb,_,oc1⟩:=ACi ob1;obtain⟨vr1,pd,fc,_,_,od1⟩:=AED oc1;obtain⟨vx1,pe,fd,_,_,oe1⟩:=AED od1;obtain⟨va1,pf,fe,da1,_,of1⟩:=AED oe1;have of1:pf=[]:=of1;rw[of1]at fe;rw[fe]at fd;rw[fd]at fc;rw[fc]at fb;rw[fb]at fa;rw[fa]at g1;rw[g1]at r1 i1;have T:(γ 2).length=8:=by
  obtain⟨_,t1,a1,u1⟩:=ABD o2 fun u h=>by obtain⟨rfl,_⟩:=h;rfl
  obtain⟨_,t2,a2,u2⟩:=ABD u1 fun u h=>by obtain⟨rfl,_⟩:=h;rfl
  obtain⟨_,t3,a3,u3⟩:=ABD u2 fun u h=>by obtain⟨rfl,_⟩:=h;rfl
  obtain⟨_,t4,a4,u4⟩:=ABD u3 fun u h=>by have h:u=.slice none 0 0:=h;rw[h];rfl
  obtain⟨_,t5,a5,u5⟩:=ABD u4 fun u h=>by have h:u=.slice none 0 0:=h;rw[h];rfl
  obtain⟨_,t6,a6,u6⟩:=ABD u5 fun u h=>by have h:u=.slice none 0 0:=h;rw[h];rfl
  obtain⟨_,t7,a7,u7⟩:=ABD u6 fun u h=>by obtain⟨rfl,_⟩:=h;rfl
  obtain⟨_,t8,a8,u8⟩:=ABD u7 fun u h=>by obtain⟨rfl,_⟩:=h;rfl
  have u8:t8=[]:=u8;rw[a1,a2,a3,a4,a5,a6,a7,a8,u8];rfl
 have i13:S[ι 13]?=some (mapO K3 ReportE true b13 f):=by rw[i13];show some (mapRes (P:=prog) [] 3 (.int .i64) (.st 1) (blk (ρ 13)) f)=_;rw[e13];rfl
 have i14:S[ι 14]?=some (mapO K3 (enc (P:=prog) (.sl (.st 3))) false b14 fnone):=by rw[i14];show some (mapRes (P:=prog) [] 3 (.int .i64) (.sl (.st 3)) (blk (ρ 14)) fnone)=_;rw[e14];rfl
 have D:=J.hp;have hgl:=J.anch.2;have I:∀{i j:Nat} {a b:AR},A0 (C2 (D6 ANd++D4 anpre70.r.r) ANe (s70 d) f).res i=some a->A0 (C2 (D6 ANd++D4 anpre70.r.r) ANe (s70 d) f).res j=some b->i≠j->ι i≠ι j:=fun {i j a b} F W Y e=>Y (J.inj _ _ _ _ F W e);have n4:ι 4≠ι 14:=I (i:=4) (j:=14) rfl rfl (by decide);have n2:ι 2≠ι 14:=I (i:=2) (j:=14) rfl rfl (by decide);have n1:ι 1≠ι 14:=I (i:=1) (j:=14) rfl rfl (by decide);have n13:ι 13≠ι 14:=I (i:=13) (j:=14) rfl rfl (by decide);have n24:ι 2≠ι 4:=I (i:=2) (j:=4) rfl rfl (by decide);have n213:ι 2≠ι 13:=I (i:=2) (j:=13) rfl rfl (by decide);clear I J o1 o4 oa ob oc od oe of og oa1 ob1 oc1 od1 oe1;have hI1:Hp w [] M (S.set (ι 14) (mapO K3 M7 false b14 fnone)) w3:=D.upd (ι 14) i14 (Kp.refl _ _) (fun b H=>.inl H) rfl fun M' hM'=>AB3 (D.mapAt' _ i14) (fun k x v h=>by cases h) (fun k _=>rfl);have x1:Adv (mm S M) (mm (S.set (ι 14) (mapO K3 M7 false b14 fnone)) M) w3 w3:=D.updA (r':=mapO K3 M7 false b14 fnone) (ι 14) i14 (Kp.refl _ _) (fun b H=>.inl H);have memM2:∀b∈bb2::M,b∈mm S M:=fun b H=>mem_mm.2 ((mem_cons.1 H).imp (fun e=>⟨_,AYU i2,by rw[e];exact mem_singleton.2 rfl⟩) id);have nin:∀{b:Nat} {j:Nat} {r:Res},S[j]?=some r->b∈r.fp->ι 2≠j->b∉bb2::M:=fun {b j r} X H Y hm=>by
  rcases mem_cons.1 hm with e|hm
  . exact D.dis (ι 2) j _ _ i2 X Y bb2 (mem_singleton.2 rfl) (e▸H)
  . exact D.sepM _ (AYU X) b H hm
 have n214:ι 2≠ι 14:=n2;have h4r:RdC (bb2::M) w3 bb4 0 _:=H3 (nin i4 (mem_singleton.2 rfl) n24) r4;have d13:OkD (P:=prog) (bb2::M) w3 (.mp 3 (.int .i64) (.st 1)) f (.map (some b13)):=⟨[_],⟨_,K3,rfl,rfl,b13,rfl,nin i13 (mem_singleton.2 rfl) n213,AB3 (D.mapAt' _ i13) (fun k x v h hv=>⟨x,h,hv.mon fun b H=>.inl (memM2 b H)⟩) (fun k h=>h)⟩,.inr ⟨rfl,rfl⟩⟩;have d14:OkD (P:=prog) (bb2::M) w3 (.mp 3 (.int .i64) (.sl (.st 3))) (fnone:A2 Int (List Answer)) (.map (some b14)):=⟨[_],⟨_,K3,rfl,rfl,b14,rfl,nin i14 (mem_singleton.2 rfl) n214,AB3 (D.mapAt' _ i14) (fun k x v h=>by cases h) (fun k h=>h)⟩,.inr ⟨rfl,rfl⟩⟩;have hdesk:=AMO k0 k1 k2 (OkD.adv dr (Adv.drop memM2)) (OkD.adv dx (Adv.drop memM2)) (OkD.adv dy (Adv.drop memM2)) d13 d14 cr cx cy rfl rfl;obtain⟨cs,hR,A⟩:=id hdesk;have A:cs=[.int .i64 d.terms.answer,.int .i64 d.terms.mark,.int .i64 d.terms.lately,vr,vx,vy,.map (some b13),.map (some b14)]:=by
  rcases A with⟨_,h⟩|⟨h,_⟩
  . have h:=Value.agg.inj h;simpa using h.symm
  . cases h
 subst A;have p:w.heap.size<=w3.heap.size:=D.kp.size;have B:w.heap.size<=bb2:=((D.own _ (AYU i2)).2 bb2 (mem_singleton.2 rfl)).resolve_left (fun h=>by cases h);refine A6 ?_;refine ANc (fun b H=>D.mlt b (memM2 b H)) (hgl.adv (Adv.drop memM2)) h4r hR r2 ?_ l2 l4 he (fun he0 L4 w4 V lk4=>?_) (fun I L4 w4 w5 V Z y hke lk4 l34=>?_)
 . exact T
 . rw[AYf he0]at C;obtain⟨h,hh,C⟩:=U2 C;cases C
   refine A6 ?_;have n:w.heap.size<=w4.heap.size:=AYk p V.size;refine AQR (S0:=S.set (ι 14) (mapO K3 M7 false b14 fnone)) (jm:=ι 14) (j4:=ι 4) (j1:=ι 1) (bm:=b14) (hI1.ext V) (AZi (List.getElem?_eq_some_iff.1 i14).1) (by rw[AZA (AaQ n4)];exact i4) rfl (by rw[AZA (AaQ n1)];exact i1) rfl (OkD.rds (OkD.adv da1 (x1.trans (Adv.of_ext V)))) n4 n ((lk4 1 (by decide)).trans l1) ((lk4 4 (by decide)).trans l4) hh fun L5 w5 g os lk5 N R K=>?_;rw[List.set_set]at K;have E:(M8 os).length=os.length:=by simp[M8]
   have at1:∀{j:Nat} {q:Res},S[j]?=some q->j≠ι 14->(M8 os++S.set (ι 14) (mapO K3 M7 false b14 g))[os.length+j]?=some q:=fun {j q} X Y=>by
    rw[AZC (by rw[E];omega),E,AZS,AZA (AaQ Y)];exact X
   have at14:(M8 os++S.set (ι 14) (mapO K3 M7 false b14 g))[os.length+ι 14]?=some (mapO K3 M7 false b14 g):=by
    rw[AZC (by rw[E];omega),E,AZS,AZi (List.getElem?_eq_some_iff.1 i14).1]
   refine A6 ?_;refine A9 ?_;refine ABF ((lk5 4 (by decide)).trans ((lk4 4 (by decide)).trans l4)) (K.1.row _ (at1 i4 n4)).rd.cells isAgg99 rfl sizeOf99 rfl ?_;refine ABd (os.length+ι 2) K.1 (at1 i2 n2) ((lk5 2 (by decide)).trans ((lk4 2 (by decide)).trans l2)) rfl rfl sizeOf99 rfl (by rw[T];rfl) ((enc (P:=prog) (.st 10)).one hR) ?_;intro w6 U x6;refine H2 rfl rfl ?_;refine Reg.nil ?_;refine O6 ?_;rw[AEo (by rw[T];rfl)]at U x6;have O:=x1.trans ((Adv.of_ext V).trans (K.2.trans x6));have keep:∀{j:Nat} {q:Res},(M8 os++S.set (ι 14) (mapO K3 M7 false b14 g))[j]?=some q->j≠os.length+ι 2->((M8 os++S.set (ι 14) (mapO K3 M7 false b14 g)).set (os.length+ι 2) (rowR 99 bb2 [.int .i64 d.terms.answer,.int .i64 d.terms.mark,.int .i64 d.terms.lately,vr,vx,vy,.map (some b13),.map (some b14)]))[j]?=some q:=fun {j q} X Y=>by
    rw[AZA (AaQ Y)];exact X
   have f13:=keep (at1 i13 n13) (by omega);have f14:=keep at14 (by omega);have fown:∀o∈os,RdS AnswerE M w6 o.2.1 o.2.2:=fun o G=>by
    obtain⟨i,hi⟩:=AY2 G;have hil:i<os.length:=(List.getElem?_eq_some_iff.1 hi).1;have F:(M8 os++S.set (ι 14) (mapO K3 M7 false b14 g))[i]?=some (ownR [] AnswerE 60 o.2.1 o.2.2):=by
     rw[AY5 (by rw[E];exact hil)];simp only[M8,List.getElem?_map,hi];rfl
    have W:=keep F (by omega);exact((U.ownAt i W).mon fun b H=>.inr (mem_mm.2 (.inr H))).rd fun b H=>U.sepM _ (AYU W) b H
   have c13:OkD (P:=prog) M w6 (.mp 3 (.int .i64) (.st 1)) f (.map (some b13)):=⟨[_],⟨_,K3,rfl,rfl,b13,rfl,D.sepM _ (AYU i13) b13 (mem_singleton.2 rfl),AB3 (U.mapAt' _ f13) (fun k x v h hv=>⟨x,h,hv.mon fun b H=>.inl (mem_mm.2 (.inr H))⟩) (fun k h=>h)⟩,.inr ⟨rfl,rfl⟩⟩;have c14:OkD (P:=prog) M w6 (.mp 3 (.int .i64) (.sl (.st 3))) h (.map (some b14)):=⟨[_],⟨_,K3,rfl,rfl,b14,rfl,D.sepM _ (AYU i14) b14 (mem_singleton.2 rfl),AB3 (U.mapAt' _ f14) (fun k x v hk hv=>by
    obtain⟨o,G,z⟩:=mem_map.1 ((N.2 k x).2 hk);cases z
    obtain⟨cs,⟨F,_⟩,⟨W,_⟩|⟨_,W⟩⟩:=hv
    . cases W
    . rw[F]at W;have W:=List.singleton_inj.1 W;subst W;exact⟨o.2.2,(R.2 o.1 o.2.2).1 (mem_map.2 ⟨o,G,rfl⟩),[_],⟨_,rfl,fown o G⟩,.inr ⟨rfl,rfl⟩⟩) (fun k hk=>by
    refine R.none fun x hx e=>?_;obtain⟨o,G,rfl⟩:=mem_map.1 hx;have F:=(N.2 o.1 o.2.1).1 (mem_map.2 ⟨o,G,rfl⟩);rw[show o.1=k from e,hk]at F;cases F)⟩,.inr ⟨rfl,rfl⟩⟩
   have memM:∀b∈M,b∈mm ((M8 os++S.set (ι 14) (mapO K3 M7 false b14 g)).set (os.length+ι 2) (rowR 99 bb2 [.int .i64 d.terms.answer,.int .i64 d.terms.mark,.int .i64 d.terms.lately,vr,vx,vy,.map (some b13),.map (some b14)])) M:=fun b H=>mem_mm.2 (.inr H);have L:=AMO (d:=d) (f:=f) (h:=h) k0 k1 k2 ((OkD.adv dr O).mon memM) ((OkD.adv dx O).mon memM) ((OkD.adv dy O).mon memM) c13 c14 cr cx cy rfl rfl;have r6:=U.row (os.length+ι 2) (AZi (List.getElem?_eq_some_iff.1 (at1 i2 n2)).1);exact P9 (rs:=[.cell 2 99,.tmp 3]) (vs:=[_,_]) rfl (.cons (.agg ((lk5 2 (by decide)).trans ((lk4 2 (by decide)).trans l2)) r6.rd.cells isAgg99 rfl sizeOf99) (.cons (.tmp rfl) .nil)) rfl ⟨[_,_],rfl,⟨_,_,rfl,L,_,rfl,[_],⟨rfl,(by decide:InK .i64 0)⟩,.inr ⟨rfl,rfl⟩⟩,U.kp⟩
 . rw[if_neg I]at C;cases C
   have hA5:Adv (bb2::M) (bb2::M) w3 w5:=⟨(V.mono fun b H=>by cases H).trans (Z.mono fun b H=>.inl (mem_cons.2 (.inl (mem_singleton.1 H)))),fun b H=>.inl H⟩;refine P9 (rs:=[.cell 2 99,.tmp 3]) (vs:=[_,_]) rfl (.cons (.agg ((lk4 2 (by decide)).trans l2) y.rd.cells isAgg99 rfl sizeOf99) (.cons (.tmp l34) .nil)) rfl ⟨[_,_],rfl,⟨_,_,rfl,(OkD.adv hdesk hA5).mon fun b H=>AYT _ H,_,rfl,[_],⟨rfl,hke⟩,.inr ⟨rfl,rfl⟩⟩,?_⟩;exact(D.kp.trans V).tail Z fun c hc=>by rw[mem_singleton.1 hc];exact .inr B
end Go.Proofs.YtgioiejbphljoaaGreatDoor
namespace Go.Rx
open Go Go.Sx Go.RowKit
section
variable[Trk]
theorem AO3(I:¬Trk.t){M:List Nat}{w W W':World}(h:Adv M M w W)(k:KI M w.heap.size W W'):Adv M M w W':=
 ⟨⟨k.1.trans h.kp.os,k.2.1.trans h.kp.tape,k.2.2.1.trans h.kp.output,AYk h.kp.size k.2.2.2.1,fun b H J=>(k.2.2.2.2 b H J).trans (h.kp.block b H J),fun t=>absurd t I⟩,fun b H=>.inl H⟩
theorem ASJ{M:List Nat}{w W:World}(I:MLt M w)(h:Adv M M w W):MLt M W:=fun b H=>AYn (I b H) h.kp.size
end
section
variable[Trk][Sg][Sf]{P:Program}[Se P]
theorem AFY{ρ:Nat->Value}{R:Nat->Option AR}{M:List Nat}{w:World}:∀{l:List (IntKind×Int)} {vs:List Value},OkL (P:=P) ρ R M w (l.map fun p=>.int p.1 p.2) vs->vs=(l.map fun p=>Value.int p.1 p.2)/\∀p∈l,InK p.1 p.2
 |[],vs,h=>⟨h,fun _ h=>by cases h⟩
 |p::l,vs,h=>by
  obtain⟨u,c,r,rfl,⟨rfl,hk⟩,H,U⟩:=h;obtain⟨rfl,J⟩:=AFY U;have H:#[Value.int p.1 p.2]=toArray c:=H;have:c=[Value.int p.1 p.2]:=by simpa using H.symm
  subst this;exact⟨rfl,fun q I=>(mem_cons.1 I).elim (fun e=>by subst e;exact hk) (J q)⟩
end
end Go.Rx
namespace Go.Sx
open Go Go.RowKit
variable[Trk]
theorem AIf{n:Nat}{P:Program}{N:Nat}{ops:Array Oper}{rest:List Oper}{ds:List Deferred}{L:A5}{w:World}{A B:A3}{X:Nat->A3}{Z:List PanicEntry->A3}{d e b o m:Nat}{x:Operand}{cs:List Value}{ty:TypeId}{pos:String}{af:Array Edge}(hx:ev L x=some (.pointer (some ⟨b,o,none⟩)))(V:Cells w b o cs)(U:∀w,(isAgg e).run P w=.ok true w)(I:cs.length=m)(H:∀w,(sizeOf e).run P w=.ok m w)(hN:blt d N=true)(h:Rgi n P N ops rest ds ((d,.agg cs.toArray)::L) w A B X Z):Rgi n P N ops (⟨some d,.load e x,ty,pos,af,none⟩::rest) ds L w A B X Z:=by
 subst I;refine Rgi.val _ rfl rfl hN rfl (fun a W=>?_) h;have:=run_loadCells_list (P:=P) w ⟨b,o,none⟩ cs (fun j v J=>by rw[add_none];exact V j v J);have C:=W.eval hx;simp[execOp,C,Instr.loadAt,Instr.sureAddr,loadVar,U,H,this]
end Go.Sx
namespace Go.Proofs.YtgioiejbphljoaaGreatDoor
open Go Go.Sx Go.Rx Go.RowKit
def AFZ(d:Desk_99)(day:Int):List Dispute->Option (List (Dispute×Verdict))
 |[]=>some []
 |x::l=>(P2 d x day).bind fun r=>(AFZ d day l).bind fun ys=>some (if 3<=r.1 then(x,r.2)::ys else ys)
variable{α:Type}{M:List Nat}{w:World}{d:Desk_99}{day:Int}
theorem AFa{l:List α}{i:Nat}(h:i<l.length):l.drop i=l[i]::l.drop (i+1):=AZ7 h
theorem AT9:GxOk prog { gxb with fs:=[(57,ctr57)] }:=A8 ⟨⟨ok57,call57⟩,trivial⟩
theorem ALA{l:List α}{n:Nat}{x:α}(h:l[n]?=some x):l.take (n+1)=l.take n++[x]:=by
 rw[AaR,h];rfl
def ARD(d:Desk_99)(day:Int)(l:List Dispute)(i:Int):List (Nat×SV):=[(1,.rp (.str 10 d) 0),(2,.rp (.int .i64 day) 0),(10,.dat (.sl (.st 2)) l),(12,.int .i64 i)]
theorem AEx(n:Nat)(hM:MLt M w)(hg:GlOk (P:=prog) M w){v1 v2:Value}(h1:Ok (P:=prog) (fun _=>undef) (fun _=>none) M w (.rp (.str 10 d) 0) v1)(h2:Ok (P:=prog) (fun _=>undef) (fun _=>none) M w (.rp (.int .i64 day) 0) v2){ys:List (Dispute×Verdict)}(hd:AFZ d day d.desk.disputes=some ys)(val:α->Dispute×Verdict)(zs:List α)(O:zs.map val=ys):
  SeqStopsK Fence.wide n prog 84 #[v1,v2] (fun x=>#[K8 (.st 2) (val x).1,K8 (.st 12) (val x).2]) (KI M w.heap.size) (fun ys=>ys=zs) (fun pre=>pre <+: zs) zs.length w:=by
 intro lp J Jx W hW hJ _ hY h0
 have hE:Ext w W:=ACC hW (fun h=>h)
 have hA0:Adv M M w W:=Adv.of_ext hE
 subst O
 obtain⟨b,o0,u,vs,rfl,hc,hu,hcu⟩:=id h1
 obtain⟨v10,X,K⟩:∃v10,vs[4]?=some v10/\Ok (P:=prog) (fun _=>undef) (fun _=>none) M w (.dat (.sl (.st 2)) d.desk.disputes) v10:=by
  rcases AEb (G:=gxb) (t:=25) (o:=4) (v:=.str 10 d) (s:=.dat (.sl (.st 2)) d.desk.disputes) rfl hu with⟨_,y,D,h4⟩|⟨n,cs,D,_⟩
  . rw[hcu]at D;exact⟨y,D,h4⟩
  . cases D
 have hds:=OkD.rds K.2
 obtain⟨a10,c10,hv,hlen,hle⟩:=hds.shape
 subst hv
 refine callsIn_wide.2 ?_
 let R:Ending->World->Prop:=fun e W'=>(∃v,e=.returned v)/\((∃xs,xs=zs/\J xs W')\/(∃pre,pre <+: zs/\Jx pre W'))
 have f:∀(pre:List α) (L:Sx.A5) (W':World),pre <+: zs->Jx pre W'->AB7 prog f84 R [] L W':=fun pre L W' h1 h2=>P9 (rs:=[]) (vs:=[]) rfl .nil rfl ⟨⟨_,rfl⟩,.inr ⟨pre,h1,h2⟩⟩
 refine I0 (l:=[.func (.yield lp) #[] #[],.pointer (some ⟨b,o0+0,none⟩),v2]) (fn:=f84) func84 rfl rfl rfl ?_
 refine A6 ?_
 refine A9 ?_
 refine ABc rfl underlying99 rfl sizeOf28 rfl ?_
 refine ABc rfl underlying28 rfl sizeOf25 rfl ?_
 refine W7 rfl ((hc.adv hA0).cells.at 4 X) isAgg25 rfl ?_
 refine AE1 rfl underlying25 rfl ?_
 refine K4 rfl rfl ?_
 refine Reg.nil ?_
 refine G7 ?_
 let ls:=d.desk.disputes
 have hlen_:InK .i64 ((ls.length:Nat):Int):=hds.inK
 refine ABb (ι:=A5×Nat×Nat) (fun q=>q.1) (fun q W'=>(Sx.A4 q.1 0=some (.func (.yield lp) #[] #[])/\Sx.A4 q.1 1=some (.pointer (some ⟨b,o0+0,none⟩))/\Sx.A4 q.1 2=some v2/\Sx.A4 q.1 10=some (.slice a10 ls.length c10)/\Sx.A4 q.1 11=some (.int .i64 (ls.length:Nat))/\Sx.A4 q.1 12=some (.int .i64 (q.2.1:Nat)))/\q.2.1<=ls.length/\AFZ d day (ls.drop q.2.1)=some ((zs.drop q.2.2).map val)/\q.2.2<=zs.length/\J (zs.take q.2.2) W'/\Adv M M w W') (fun q=>ls.length-q.2.1) (_,0,0) ⟨⟨rfl,rfl,rfl,rfl,rfl,rfl⟩,AY0 _,by simpa using hd,AY0 _,by simpa using h0,hA0⟩ (Sub.refl _) ?_
 rintro⟨L,i,k⟩ W1 ⟨⟨l0,l1,l2,l10,l11,l12⟩,hi,H,hk,A,C⟩
 dsimp only at l0 l1 l2 l10 l11 l12 hi H hk A ⊢
 refine A6 ?_
 refine A9 ?_
 refine AHE l12 l11 rfl ?_
 refine Reg.nil ?_
 refine A6 ?_
 refine AA1 (by show Sx.A4 ((13,_)::L) 13=_;rw[look_cons,AYf rfl]) (fun V=>?_) (fun hge=>?_)
 . have V:i<ls.length:=by simpa using V
   rw[AFa V]at H
   obtain⟨r,hr,H⟩:=U2 H
   obtain⟨ys',E,H⟩:=U2 H
   have H:=AYS H
   refine R7 ?_
   refine A6 ?_
   refine G7 ?_
   have c:Holds (P:=prog) W1 [] M ⟨ARD d day ls i,[],[],[]⟩ ((13,.bool (decide ((i:Int)<(ls.length:Int))))::L) W1:=by
    refine Holds.start (ASJ hM C) (fun t s I=>?_) ⟨trivial,hg.adv C⟩;unfold ARD at I;rw[fnd_cons]at I;split at I
    . rename_i e;subst e;cases I;exact⟨_,(by rw[look_cons,if_neg (by decide)];exact l1),Ok.adv C _ h1⟩
    rw[fnd_cons]at I;split at I
    . rename_i e;subst e;cases I;exact⟨_,(by rw[look_cons,if_neg (by decide)];exact l2),Ok.adv C _ h2⟩
    rw[fnd_cons]at I;split at I
    . rename_i e;subst e;cases I;exact⟨_,(by rw[look_cons,if_neg (by decide)];exact l10),Ok.adv C _ K⟩
    rw[fnd_cons]at I;split at I
    . rename_i e;subst e;cases I;exact⟨_,(by rw[look_cons,if_neg (by decide)];exact l12),rfl,InK.i64.2 (by rw[InK.i64]at hlen_;omega)⟩
    cases I
   have hix:ixo ls (i:Int)=some ls[i]:=ADu (AYd V)
   refine A6 ?_
   refine AH0 AT9 c hix rfl rfl fun L2 W2 hE2 F=>?_
   refine A6 ?_
   refine AH0 AT9 F hr rfl rfl fun L3 W3 hE3 N=>?_
   obtain⟨S,ρ,γ,μ,ι,Y⟩:=N
   have hex:Ext W1 W3:=Y.hp.kp
   obtain⟨v5,l5,b5,hb5,rfl⟩:=Y.env 5 (.ptr 5 0) rfl
   obtain⟨v7,l7,b7,hb7,rfl⟩:=Y.env 7 (.ptr 7 0) rfl
   obtain⟨v6,l6,rfl,hk6⟩:=Y.env 6 (.int .u8 r.1) rfl
   obtain⟨c5,hc5,j,ho5,_⟩:=Y.rowAt (i:=5) rfl
   obtain⟨c7,hc7,g,ho7,_⟩:=Y.rowAt (i:=7) rfl
   rw[hb5]at hc5;cases hc5
   rw[hb7]at hc7;cases hc7
   obtain⟨hg5,_⟩:=AFY (l:=[(.i64,ls[i].id),(.i64,ls[i].report),(.i64,ls[i].day)]) ho5
   obtain⟨hg7,_⟩:=AFY (l:=[(.i64,r.2.day),(.u8,r.2.is_),(.i64,r.2.by_.id),(.i64,r.2.by_.dispute),(.i64,r.2.by_.day),(.u8,r.2.by_.says),(.i64,r.2.by_.about),(.i64,r.2.by_.cents)]) ho7
   rw[hg5]at j
   rw[hg7]at g
   have hJ3:J (zs.take k) W3:=hJ _ _ _ none A (Ext.grownBy hex) (fun r hr=>by cases hr)
   have hA3:Adv M M w W3:=C.trans (Adv.of_ext hex)
   have look3:∀t,t∉[5,6,7,13,14,15,16,17,18,19,20,21,22]->Sx.A4 L3 t=Sx.A4 L t:=fun t I=>by
    rw[hE3 t (fun h=>I ((by decide:∀u∈C7 _,u∈[5,6,7,13,14,15,16,17,18,19,20,21,22]) t h)),hE2 t (fun h=>I ((by decide:∀u∈C7 _,u∈[5,6,7,13,14,15,16,17,18,19,20,21,22]) t h)),look_cons,if_neg (fun e=>I (by subst e;decide))]
   have q0:=(look3 0 (by decide)).trans l0
   have q1:=(look3 1 (by decide)).trans l1
   have q2:=(look3 2 (by decide)).trans l2
   have q10:=(look3 10 (by decide)).trans l10
   have q11:=(look3 11 (by decide)).trans l11
   have q12:=(look3 12 (by decide)).trans l12
   clear look3 hE2 hE3 Y F c
   clear_value ls
   have add1:InK .i64 ((i:Int)+1):=InK.i64.2 (by rw[InK.i64]at hlen_;omega)
   refine A6 ?_
   refine AIH n ?_
   refine Rgi.val (.int .u8 r.1) rfl rfl rfl rfl (fun a U=>by simp[execOp,U.eval (x:=.tmp 6) l6]) ?_
   refine Rgi.val (.bool (decide (3<=r.1))) rfl rfl rfl rfl (fun a U=>by
    have B:=U.eval (x:=.tmp 23) (v:=.int .u8 r.1) rfl;have h8:=U.eval (x:=.const (.int .u8 3)) (v:=.int .u8 3) rfl;simp[execOp,B,h8,eqGuard_geq,binOp_geq]) ?_
   refine Rgi.val (.bool (decide (3<=r.1))) rfl rfl rfl rfl (fun a U=>by
    simp[execOp,U.eval (x:=.tmp 24) (v:=.bool (decide (3<=r.1))) rfl]) ?_
   have look4:∀{p q u:Value} (t:Nat),t∉[23,24,25]->Sx.A4 ((25,p)::(24,q)::(23,u)::L3) t=Sx.A4 L3 t:=fun t I=>by
    rw[look_cons,if_neg (fun e=>I (by subst e;decide)),look_cons,if_neg (fun e=>I (by subst e;decide)),look_cons,if_neg (fun e=>I (by subst e;decide))]
   have m0:=(look4 (p:=.bool (decide (3<=r.1))) (q:=.bool (decide (3<=r.1))) (u:=.int .u8 r.1) 0 (by decide)).trans q0
   have m1:=(look4 (p:=.bool (decide (3<=r.1))) (q:=.bool (decide (3<=r.1))) (u:=.int .u8 r.1) 1 (by decide)).trans q1
   have m2:=(look4 (p:=.bool (decide (3<=r.1))) (q:=.bool (decide (3<=r.1))) (u:=.int .u8 r.1) 2 (by decide)).trans q2
   have m5:=(look4 (p:=.bool (decide (3<=r.1))) (q:=.bool (decide (3<=r.1))) (u:=.int .u8 r.1) 5 (by decide)).trans l5
   have m7:=(look4 (p:=.bool (decide (3<=r.1))) (q:=.bool (decide (3<=r.1))) (u:=.int .u8 r.1) 7 (by decide)).trans l7
   have m10:=(look4 (p:=.bool (decide (3<=r.1))) (q:=.bool (decide (3<=r.1))) (u:=.int .u8 r.1) 10 (by decide)).trans q10
   have m11:=(look4 (p:=.bool (decide (3<=r.1))) (q:=.bool (decide (3<=r.1))) (u:=.int .u8 r.1) 11 (by decide)).trans q11
   have m12:=(look4 (p:=.bool (decide (3<=r.1))) (q:=.bool (decide (3<=r.1))) (u:=.int .u8 r.1) 12 (by decide)).trans q12
   have m25:Sx.A4 ((25,Value.bool (decide (3<=r.1)))::(24,.bool (decide (3<=r.1)))::(23,.int .u8 r.1)::L3) 25=some (.bool (decide (3<=r.1))):=by rw[look_cons,AYf rfl]
   generalize ((25,Value.bool (decide (3<=r.1)))::(24,.bool (decide (3<=r.1)))::(23,.int .u8 r.1)::L3)=L4 at m0 m1 m2 m5 m7 m10 m11 m12 m25
   by_cases D:3<=r.1
   . rw[AYc D]at m25
     rw[AYf D]at H
     obtain⟨z,hz,O,Q⟩:∃z,zs[k]?=some z/\val z=(ls[i],r.2)/\ys'=(zs.drop (k+1)).map val:=by
      rcases AYl k zs.length with h|h
      . rw[AFa h,AYr,List.cons.injEq]at H;exact⟨zs[k],AYd h,H.1.symm,H.2⟩
      . rw[List.drop_of_length_le h]at H;cases H
     have m:k<zs.length:=(List.getElem?_eq_some_iff.1 hz).1
     have Z:=ALA hz
     have T:=hY (zs.take k) z W3 hJ3 (by rw[AZX];omega)
     dsimp only at T
     rw[O]at T
     refine Rgi.take (t:=25) rfl m25 ?_
     refine Rgi.val (.func (.yield lp) #[] #[]) rfl rfl rfl rfl (fun a U=>by simp[execOp,U.eval (x:=.tmp 0) m0]) ?_
     refine Rgi.take (t:=25) rfl m25 ?_
     refine AIf m5 j.rd.cells isAgg53 rfl sizeOf53 rfl ?_
     refine Rgi.take (t:=25) rfl m25 ?_
     refine AIf m7 g.rd.cells isAgg111 rfl sizeOf111 rfl ?_
     refine Rgi.take (t:=25) rfl m25 ?_
     refine AH1 rfl rfl rfl rfl T ?_
     rintro e W4 (⟨rfl,hJ4,hk4⟩|⟨rfl,hJx4⟩)
     . refine⟨_,rfl,?_⟩
       refine Rgi.take (t:=25) rfl m25 ?_
       refine Rgi.val (.bool false) rfl rfl rfl rfl (fun a U=>by simp[execOp,U.eval (x:=.tmp 29) rfl,Op.unary]) ?_
       refine Rgi.val (.bool false) rfl rfl rfl rfl (fun a U=>by
        have B:=U.eval (x:=.tmp 25) (v:=.bool true) m25;simp[execOp,B,U.eval (x:=.tmp 30) rfl,asBool]) ?_
       refine Rgi.nil ?_
       refine ABa rfl ?_
       refine R7 ?_
       refine A9 ?_
       refine AHF m12 rfl rfl add1 ?_
       refine K4 rfl rfl ?_
       refine Reg.nil ⟨rfl,(_,i+1,k+1),?_,Sub.refl _,by dsimp only;omega⟩
       exact⟨⟨m0,m1,m2,m10,m11,rfl⟩,V,by rw[<-Q];exact E,m,by rw[Z];exact hJ4,AO3 id hA3 hk4⟩
     . refine⟨_,rfl,?_⟩
       refine Rgi.take (t:=25) rfl m25 ?_
       refine Rgi.val (.bool true) rfl rfl rfl rfl (fun a U=>by simp[execOp,U.eval (x:=.tmp 29) rfl,Op.unary]) ?_
       refine Rgi.val (.bool true) rfl rfl rfl rfl (fun a U=>by
        have B:=U.eval (x:=.tmp 25) (v:=.bool true) m25;simp[execOp,B,U.eval (x:=.tmp 30) rfl,asBool]) ?_
       refine Rgi.nil ?_
       refine ACk rfl ?_
       refine O6 ?_
       exact f _ _ _ (Z▸List.take_prefix _ _) hJx4
   . rw[AYY D]at m25
     rw[if_neg D]at H
     refine Rgi.pass (t:=25) rfl rfl m25 rfl ?_
     refine Rgi.pass (t:=25) rfl rfl m25 rfl ?_
     refine Rgi.pass (t:=25) rfl rfl m25 rfl ?_
     refine Rgi.pass (t:=25) rfl rfl m25 rfl ?_
     refine Rgi.pass (t:=25) rfl rfl m25 rfl ?_
     refine Rgi.val (.bool false) rfl rfl rfl rfl (fun a U=>by
      have B:=U.eval (x:=.tmp 25) (v:=.bool false) m25;have h8:=U.eval (x:=.const (.bool false)) (v:=.bool false) rfl;simp[execOp,B,h8,asBool]) ?_
     refine Rgi.nil ?_
     refine ABa rfl ?_
     refine R7 ?_
     refine A9 ?_
     refine AHF m12 rfl rfl add1 ?_
     refine K4 rfl rfl ?_
     refine Reg.nil ⟨rfl,(_,i+1,k),?_,Sub.refl _,by dsimp only;omega⟩
     exact⟨⟨m0,m1,m2,m10,m11,rfl⟩,V,by rw[<-H];exact E,hk,hJ3,hA3⟩
 . have hge:¬i<ls.length:=by simpa using hge
   obtain rfl:i=ls.length:=by omega
   rw[List.drop_length]at H
   have H:=AYS H
   have Q:zs.length<=k:=by
    have:=AYe List.length H;simp at this;omega
   refine ABZ (T8 ?_)
   refine P9 (rs:=[]) (vs:=[]) rfl .nil rfl ⟨⟨_,rfl⟩,.inl ⟨zs,rfl,?_⟩⟩
   rwa [AZD Q]at A
theorem C45(E:MLt M w){vd:Value}(U:OkD (P:=prog) M w (.st 10) d vd)(W:InK .i64 day):Calls prog 45 (toArray [vd,.int .i64 day]) w fun e w'=>∃p1 p2,e=.returned (.func (.func 84) #[] #[p1,p2])/\Ok (P:=prog) (fun _=>undef) (fun _=>none) M w' (.rp (.str 10 d) 0) p1/\Ok (P:=prog) (fun _=>undef) (fun _=>none) M w' (.rp (.int .i64 day) 0) p2/\Ext w w':=by
 have J:=U;obtain⟨cs,O,K⟩:=U;obtain rfl:vd=.agg (toArray cs):=K.elim (fun h=>h.2) fun h=>by cases h.1
 refine I0 (l:=[.agg (toArray cs),.int .i64 day]) (fn:=f45) func45 rfl rfl rfl ?_;have F:=Hp.start (Mu:=[]) E;refine A6 ?_;refine A9 ?_;refine AAQ F rfl rfl rfl ?_;intro b w2 H x2;have D:=H.freezeRow 0 rfl;have H:=H.erase 0;refine AAQ H rfl rfl rfl ?_;intro b3 w3 V x3;have C:=V.freezeRow 0 rfl;have I:=V.erase 0;have x3':Adv (mm [] M) (mm [] M) w2 w3:=x3.trans (G2 (σ:=[_]) 0);refine H2 rfl rfl ?_;refine Reg.nil ?_;refine A6 ?_;refine A9 ?_;refine AEJ (xs:=[.tmp 2,.tmp 3]) rfl rfl ?_;refine H2 rfl rfl ?_;refine Reg.nil ?_;refine O6 ?_;exact P9 (rs:=[.tmp 4]) (vs:=[_]) rfl (.cons (.tmp rfl) .nil) rfl ⟨.pointer (some ⟨b,0,none⟩),.pointer (some ⟨b3,0,none⟩),rfl,⟨b,0,_,_,rfl,D.adv x3',OkD.adv J (Adv.of_ext I.kp),rfl⟩,⟨b3,0,_,_,rfl,C,⟨rfl,W⟩,rfl⟩,I.kp⟩
open Classical in
def D3(d:Desk_99)(day:Int):Option (List (Dispute×Verdict)):=(AFZ d day d.desk.disputes).bind fun ys=>if ∀y∈ys,ADd [.st 2,.st 12] y then some ys else none
def AWP:Ctr:=⟨[.d (.st 10),.d (.int .i64)],[.it [.st 2,.st 12]],fun a=>D3 a.1 a.2.1⟩
theorem ok45:Ctr.ok prog 45 AWP:=by
 refine⟨by decide,fun M w a vals r B Y A U=>?_⟩;obtain⟨d,day,_⟩:=a;obtain⟨vd,_,rfl,I,vk,_,rfl,E,rfl⟩:=A;have I:OkD (P:=prog) M w (.st 10) d vd:=I;have U:D3 d day=some r:=U;obtain⟨rfl,K⟩:vk=.int .i64 day/\InK .i64 day:=by
  have h:OkD (P:=prog) M w (.int .i64) day vk:=E;exact E5 (ρ:=fun _=>undef) (R:=fun _=>none) (.int .i64) h
 unfold D3 at U;obtain⟨ys,D,U⟩:=U2 U;split at U
 . rename_i F;cases U
   have V:=I;obtain⟨cs,Z,X⟩:=I;obtain rfl:vd=.agg (toArray cs):=X.elim (fun h=>h.2) fun h=>by cases h.1
   refine I0 (l:=[.agg (toArray cs),.int .i64 day]) (fn:=f45) func45 rfl rfl rfl ?_;have G:=Hp.start (Mu:=[]) B;refine A6 ?_;refine A9 ?_;refine AAQ G rfl rfl rfl ?_;intro b w2 J x2;have T:=J.freezeRow 0 rfl;have J:=J.erase 0;refine AAQ J rfl rfl rfl ?_;intro b3 w3 W x3;have Q:=W.freezeRow 0 rfl;have H:=W.erase 0;have x3':Adv (mm [] M) (mm [] M) w2 w3:=x3.trans (G2 (σ:=[_]) 0);refine H2 rfl rfl ?_;refine Reg.nil ?_;refine A6 ?_;refine A9 ?_;refine AEJ (xs:=[.tmp 2,.tmp 3]) rfl rfl ?_;refine H2 rfl rfl ?_;refine Reg.nil ?_;refine O6 ?_;refine P9 (rs:=[.tmp 4]) (vs:=[_]) rfl (.cons (.tmp rfl) .nil) rfl ⟨[_],rfl,⟨_,rfl,⟨_,_,rfl,call84,F,fun M1 w1 hA O α val zs C=>?_⟩,rfl,rfl⟩,H.kp⟩;exact AEx 2 O ((Y.adv (Adv.of_ext H.kp)).adv hA) (v1:=.pointer (some ⟨b,0,none⟩)) (v2:=.pointer (some ⟨b3,0,none⟩)) ⟨b,0,_,_,rfl,(T.adv x3').adv hA,OkD.adv V ((Adv.of_ext H.kp).trans hA),rfl⟩ ⟨b3,0,_,_,rfl,Q.adv hA,⟨rfl,K⟩,rfl⟩ D val zs C
 . cases U
def bwN(l:List Asked):Nat->List (Int×Asked)
 |0=>[]
 |n+1=>match l[n]? with
  |some x=>((n:Int),x)::bwN l n
  |none=>bwN l n
theorem AIg(n:Nat){M:List Nat}{w:World}(hM:MLt M w)(hg:GlOk (P:=prog) M w){l:List Asked}{v1:Value}(f:Ok (P:=prog) (fun _=>undef) (fun _=>none) M w (.rp (.dat (.sl (.st 5)) l) 0) v1){α:Type}(val:α->Int×Asked)(zs:List α)(G:zs.map val=bwN l l.length):
  SeqStopsK Fence.wide n prog 85 #[v1] (fun x=>#[K8 (.int .i64) (val x).1,K8 (.st 5) (val x).2]) (KI M w.heap.size) (fun ys=>ys=zs) (fun pre=>pre <+: zs) zs.length w:=by
 intro lp J Jx W t hJ _ s h0
 have y:Ext w W:=ACC t (fun h=>h)
 have B:Adv M M w W:=Adv.of_ext y
 obtain⟨b,o0,u,vs,rfl,o,p,N⟩:=id f
 have V:=OkD.rds p.2
 obtain⟨a10,c10,rfl,j,r⟩:=V.shape
 obtain rfl:vs=[.slice a10 l.length c10]:=by
  have h:#[Value.slice a10 l.length c10]=toArray vs:=N;simpa using h.symm
 have hlen_:InK .i64 ((l.length:Nat):Int):=V.inK
 rw[InK.i64]at hlen_
 refine callsIn_wide.2 ?_
 let R:Ending->World->Prop:=fun e W'=>(∃v,e=.returned v)/\((∃xs,xs=zs/\J xs W')\/(∃pre,pre <+: zs/\Jx pre W'))
 have O:∀(pre:List α) (L:Sx.A5) (W':World),pre <+: zs->Jx pre W'->AB7 prog f85 R [] L W':=fun pre L W' f h2=>P9 (rs:=[]) (vs:=[]) rfl .nil rfl ⟨⟨_,rfl⟩,.inr ⟨pre,f,h2⟩⟩
 refine I0 (l:=[.func (.yield lp) #[] #[],.pointer (some ⟨b,o0+0,none⟩)]) (fn:=f85) func85 rfl rfl rfl ?_
 refine A6 ?_
 refine A9 ?_
 refine W7 rfl ((o.adv B).cells.at 0 rfl) isAgg29 rfl ?_
 refine AE1 rfl underlying29 rfl ?_
 refine AMj rfl rfl rfl (InK.i64.2 (by omega)) ?_
 refine H2 rfl rfl ?_
 refine Reg.nil ?_
 refine G7 ?_
 refine ABb (ι:=A5×Nat×Nat) (fun q=>q.1) (fun q W'=>(Sx.A4 q.1 0=some (.func (.yield lp) #[] #[])/\Sx.A4 q.1 1=some (.pointer (some ⟨b,o0+0,none⟩))/\Sx.A4 q.1 3=some (.int .i64 ((q.2.1:Nat)-1:Int)))/\q.2.1<=l.length/\bwN l q.2.1=(zs.drop q.2.2).map val/\q.2.2<=zs.length/\J (zs.take q.2.2) W'/\Adv M M w W') (fun q=>q.2.1) (_,l.length,0) ⟨⟨rfl,rfl,rfl⟩,AYh _,by simpa using G.symm,AY0 _,by simpa using h0,B⟩ (Sub.refl _) ?_
 rintro⟨L,i,k⟩ W1 ⟨⟨l0,l1,l3⟩,hi,H,hk,D,E⟩
 dsimp only at l0 l1 l3 hi H hk D ⊢
 refine A6 ?_
 refine A6 ?_
 refine A9 ?_
 refine K4 l3 rfl ?_
 refine AQk rfl rfl rfl ?_
 refine Reg.nil ?_
 refine AA1 rfl (fun Q=>?_) (fun Y=>?_)
 . have Q:0<i:=by have:=AYZ Q;omega
   obtain⟨m,rfl⟩:∃m,i=m+1:=⟨i-1,by omega⟩
   have e3:(((m+1:Nat):Int)-1)=(m:Int):=by omega
   rw[e3]at l3
   have hx:l[m]?=some l[m]:=AYd (by omega)
   simp only[bwN,hx]at H
   obtain⟨z,g,F,U⟩:∃z,zs[k]?=some z/\val z=((m:Int),l[m])/\bwN l m=(zs.drop (k+1)).map val:=by
    rcases AYl k zs.length with h|h
    . rw[AFa h,AYr,List.cons.injEq]at H;exact⟨zs[k],AYd h,H.1.symm,H.2⟩
    . rw[List.drop_of_length_le h]at H;cases H
   have T:k<zs.length:=(List.getElem?_eq_some_iff.1 g).1
   have K:=ALA g
   have C:=s (zs.take k) z W1 D (by rw[AZX];omega)
   dsimp only at C
   rw[F]at C
   obtain⟨b4,o4,c4,cs4,X,_,_,S,d⟩:=(V.adv E).at m (AYn (AaB m) hi)
   cases X
   obtain⟨rfl,_⟩:=(AG1 (x:=l[m])).1 S
   refine R7 ?_
   refine A6 ?_
   refine G7 ?_
   refine A6 ?_
   refine AIH n ?_
   refine Rgi.val (.func (.yield lp) #[] #[]) rfl rfl rfl rfl (fun a I=>by simp[execOp,I.eval (x:=.tmp 0) l0]) ?_
   refine Rgi.val (.int .i64 (m:Int)) rfl rfl rfl rfl (fun a I=>by simp[execOp,I.eval (x:=.tmp 3) l3]) ?_
   refine Rgi.val (.slice (some ⟨b4,o4,none⟩) l.length c10) rfl rfl rfl rfl (fun a I=>by
    have h9:=I.eval (x:=.tmp 1) l1;simp[execOp,h9,Instr.loadAt,Instr.sureAddr,loadVar,isAgg29,show W1.cell? ⟨b,o0,none⟩=some (.slice (some ⟨b4,o4,none⟩) l.length c10) from(o.adv E).cells.at 0 rfl]) ?_
   refine Rgi.val (.int .i64 (m:Int)) rfl rfl rfl rfl (fun a I=>by simp[execOp,I.eval (x:=.tmp 3) l3]) ?_
   refine Rgi.val (.pointer (some ⟨b4,o4+m*4,none⟩)) rfl rfl rfl rfl (fun a I=>by
    have h7:=I.eval (x:=.tmp 13) (v:=.slice (some ⟨b4,o4,none⟩) l.length c10) rfl;have h8:=I.eval (x:=.tmp 14) (v:=.int .i64 (m:Int)) rfl;have h3:(m:Int)<(l.length:Int):=by omega
    simp[execOp,h7,h8,Instr.indexAt,asIntOf,run_underlying underlying29,sizeOf47,add_none];try (intro h9_;exact absurd h9_ (by omega))) ?_
   refine AIf rfl d isAgg47 rfl sizeOf47 rfl ?_
   refine AH1 rfl rfl rfl rfl C ?_
   rintro e W4 (⟨rfl,c,Z⟩|⟨rfl,A⟩)
   . refine⟨_,rfl,?_⟩
     refine Rgi.val (.bool false) rfl rfl rfl rfl (fun a I=>by simp[execOp,I.eval (x:=.tmp 17) rfl,Op.unary]) ?_
     refine Rgi.nil ?_
     refine ABa rfl ?_
     refine R7 ?_
     refine A9 ?_
     refine K4 l3 rfl ?_
     refine AMj rfl rfl rfl (InK.i64.2 (by omega)) ?_
     refine H2 rfl rfl ?_
     refine Reg.nil ⟨rfl,(_,m,k+1),?_,Sub.refl _,by dsimp only;omega⟩
     exact⟨⟨l0,l1,rfl⟩,Nat.le_of_succ_le hi,U,T,by rw[K];exact c,AO3 id E Z⟩
   . refine⟨_,rfl,?_⟩
     refine Rgi.val (.bool true) rfl rfl rfl rfl (fun a I=>by simp[execOp,I.eval (x:=.tmp 17) rfl,Op.unary]) ?_
     refine Rgi.nil ?_
     refine ACk rfl ?_
     refine O6 ?_
     exact O _ _ _ (K▸List.take_prefix _ _) A
 . have Y:¬(0:Int)<=(i:Int)-1:=by simpa using Y
   obtain rfl:i=0:=by omega
   have U:zs.length<=k:=by
    have:=AYe List.length H;simp[bwN]at this;omega
   refine ABZ (T8 ?_)
   refine P9 (rs:=[]) (vs:=[]) rfl .nil rfl ⟨⟨_,rfl⟩,.inl ⟨zs,rfl,?_⟩⟩
   rwa [AZD U]at D
theorem C47{M:List Nat}{w:World}(V:MLt M w){l:List Asked}{vd:Value}(J:OkD (P:=prog) M w (.sl (.st 5)) l vd):Calls prog 47 (toArray [vd]) w fun e w'=>∃p1,e=.returned (.func (.func 85) #[] #[p1])/\Ok (P:=prog) (fun _=>undef) (fun _=>none) M w' (.rp (.dat (.sl (.st 5)) l) 0) p1/\Ext w w':=by
 have I:=J;obtain⟨sa,c,hv,_⟩:=(OkD.rds J);subst hv;refine I0 (l:=[_]) (fn:=Tryz.f47) func47 rfl rfl rfl ?_;have W:=Hp.start (Mu:=[]) V;refine A6 ?_;refine A9 ?_;refine AAQ W rfl rfl rfl ?_;intro b w2 H x2;have U:=H.freezeRow 0 rfl;have H:=H.erase 0;refine H2 rfl rfl ?_;refine Reg.nil ?_;refine A6 ?_;refine A9 ?_;refine AEJ (xs:=[.tmp 1]) rfl rfl ?_;refine H2 rfl rfl ?_;refine Reg.nil ?_;refine O6 ?_;exact P9 (rs:=[.tmp 2]) (vs:=[_]) rfl (.cons (.tmp rfl) .nil) rfl ⟨.pointer (some ⟨b,0,none⟩),rfl,⟨b,0,_,_,rfl,U,⟨rfl,OkD.adv I (Adv.of_ext H.kp)⟩,rfl⟩,H.kp⟩
open Classical in
def U6(l:List Asked):Option (List (Int×Asked)):=if ∀y∈bwN l l.length,ADd [.int .i64,.st 5] y then some (bwN l l.length) else none
def M5(_:Unit)(n:Int):Option (List Report):=if 0<=n/\n*64<=140737488355328 then some [] else none
def ctr120:Ctr:=⟨[.nl,.d (.int .i64)],[.own (.sl 45 (.st 1))],fun a=>M5 a.1 a.2.1⟩
theorem ASK(M:List Nat)(w:World)(n:Nat)(O:n*64<=140737488355328):Calls prog 120 #[.slice none 0 0,.int .i64 n] w fun e w'=>∃v,e=.returned v/\(Sx.Own ReportE 45 0 M w' v ([]:List Report)/\∀b∈ob v,w.heap.size<=b)/\Ext w w':=by
 rcases Nat.eq_zero_or_pos n with rfl|K
 . have h:=Any8.slices_Grow_room AFC none 0 0 0 w (AYh _) (by decide) (by decide) (AYh _);change Calls prog 120 _ _ _ at h;refine h.mono ?_;rintro e w' ⟨rfl,rfl⟩;exact⟨_,rfl,⟨.inl ⟨none,rfl,rfl⟩,fun b I=>by cases I⟩,Kp.refl _ _⟩
 . obtain⟨i0,z,F,E,D,C,W⟩:=rsl24.info;have h:=Any8.slices_Grow_grow AFC i0 z F E (by rw[D];decide) none 0 0 n [] w (AYh _) (by omega) (by rw[C];omega) (by omega) (by simp) (fun _=>rfl) (fun a U=>by cases U);change Calls prog 120 _ _ _ at h;refine h.mono ?_;have V:=grownCap_ge w (0+n) 0 45;have H:=grownCap_le_maxLen w (0+n) 0 45 (by unfold maxLen;omega);change ∀e w',e=Ending.returned (.slice (some ⟨w.heap.size,0,none⟩) 0 (grownCap w (0+n) 0 45))/\w'=w.drew.alloc (.cells (([]:List Value).toArray++Builtin.zeroCells z.cells (0+n-0)++Builtin.zeroCells z.cells (grownCap w (0+n) 0 45-(0+n))) 45)->_;generalize grownCap w (0+n) 0 45=G at V H;rintro e w' ⟨rfl,rfl⟩;obtain⟨c,rfl⟩:∃c,G=c+1:=⟨G-1,by omega⟩;have J:z.cells.size=8:=W;refine⟨_,rfl,⟨.inr ⟨w.heap.size,c,_,rfl,AY0 _,heap_alloc_new w.drew _,AY0 _,H,?_,?_⟩,fun b I=>?_⟩,?_⟩
   . simp only[Array.size_append,List.size_toArray,size_zeroCells,J,List.length_nil];show _=(c+1)*8;omega
   . simp[Chunks]
   . have:b=w.heap.size:=by simpa[ob] using I
     omega
   . exact⟨rfl,rfl,rfl,by simp,fun k hk _=>Below.heap_alloc w.drew _ k hk,fun _=>Nat.le_succ _⟩
theorem ok120:Ctr.ok prog 120 ctr120:=by
 refine⟨by decide,fun M w a vals r E _ H I=>?_⟩;obtain⟨v,q,rfl,hv,H⟩:=H;have hv:v=.slice none 0 0:=hv;subst hv;obtain⟨v2,q2,rfl,J,H⟩:=H;have H:q2=[]:=H;subst H;obtain⟨cs,hi,V|⟨_,rfl⟩⟩:=J
 . cases V.1
 have key:∀m:Int,[v2]=[Value.int .i64 m]->M5 () m=some r->Calls prog 120 #[.slice none 0 0,v2] w fun e w'=>∃vs,e=.returned (ACF vs)/\KsOk (P:=prog) M (obK ctr120.rs vs++M) w w' ctr120.rs r vs/\Ext w w':=fun m U I=>by
  obtain rfl:v2=Value.int .i64 m:=by simpa using U
  unfold M5 at I;split at I
  . rename_i D;cases I
    obtain⟨n,rfl⟩:∃n:Nat,m=n:=⟨m.toNat,by omega⟩;refine(ASK M w n (by omega)).mono ?_;rintro e w' ⟨v,rfl,C,W⟩;exact⟨[v],rfl,⟨v,rfl,ATN C⟩,W⟩
  . cases I
 exact key _ hi.1 I
def M4(d:Desk)(day:Int):Option (Desk_99×Int):=(H7 d).bind fun (r1,r2)=>Option.bind (α:=Bool) (cond (decide (r2=0)) ((E2 (0:Int) (100000:Int) ([day])).bind fun r4=>some (!r4)) (some false)) ((fun x5=>Option.bind (α:=Int) (cond (x5) (some (2:Int)) (some r2)) ((fun x6=>some (r1,x6)))))
def AXl:An:=.nd .x (.nd .x (.nd (.nd (.jn [.norm ⟨[(.slot 20,.d .bool)],[6,4]⟩] .x) (.jn [.norm ⟨[(.slot 7,.d (.int .i64))],[6,4]⟩] .x)) .x))
def ctr40:Ctr:=⟨[.d (.st 4),.d (.int .i64)],[.d (.st 10),.d (.int .i64)],fun a=>M4 a.1 a.2.1⟩
theorem ok40:Ctr.ok prog 40 ctr40:=A7 (G:={ gxb with fs:=[(44,ctr44),(70,ctr70)] }) (an:=AXl) (A8 ⟨⟨ok44,call44⟩,⟨ok70,call70⟩,trivial⟩) func40 rfl rfl rfl rfl (fun a=>by kernel_rfl)
def T4(slices:(List (List Report))):Option (List Report):=(B5 (S:=(Int×Int)) (R:=Int) (fun (x6,x7)=>cond (decide (x6<(slices.length:Int))) ((ixo slices x6).bind fun y8=>(chk .i64 (x7+(y8.length:Int))).bind fun n9=>cond (decide (n9<0)) (none) ((chk .i64 (x6+1)).bind fun n10=>some (Sum.inl (n10,n9)))) (some (Sum.inr x7))) ((0:Int),(0:Int))).bind ((fun x11=>(M5 () x11).bind fun r12=>(B5 (S:=(Int×(List Report))) (R:=((List Report))) (fun (x18,x19)=>cond (decide (x18<(slices.length:Int))) ((ixo slices x18).bind fun y20=>(appo 64 x19 y20).bind fun l21=>(chk .i64 (x18+1)).bind fun n22=>some (Sum.inl (n22,l21))) (some (Sum.inr x19))) ((0:Int),r12)).bind ((fun x23=>some x23))))
def AXm:An:=.nd .x (.nd .x (.nd (.nd .x (.lp ⟨[(.slot 11,.d (.int .i64)),(.slot 3,.d (.int .i64))],[]⟩ [.exit 0 ⟨[(.slot 3,.d (.int .i64))],[]⟩] .x)) (.nd .x (.nd (.nd .x (.lp ⟨[(.slot 27,.d (.int .i64)),(.slot 6,.own (.sl 45 (.st 1)))],[]⟩ [.exit 2 ⟨[(.slot 6,.own (.sl 45 (.st 1)))],[]⟩] .x)) .x))))
def ctr80:Ctr:=⟨[.d (.sl (.sl (.st 1)))],[.own (.sl 45 (.st 1))],fun a=>T4 a.1⟩
theorem ok80:Ctr.ok prog 80 ctr80:=A7 (G:={ gxb with fs:=[(120,ctr120)] }) (an:=AXm) (A8 ⟨⟨ok120,call120⟩,trivial⟩) func80 rfl rfl rfl rfl (fun a=>by kernel_rfl)
def T5(l:List Report)(day:Int):Option (A2 Int Report):=(J9 l day).bind fun (r1,r2)=>(B5 (S:=(Int×(A2 Int Report))) (R:=((A2 Int Report))) (fun (x10,x11)=>cond (decide (x10<(r1.length:Int))) ((ixo r1 x10).bind fun y12=>(chk .i64 (x10+1)).bind fun n13=>some (Sum.inl (n13,(B9 x11 y12.id y12)))) (some (Sum.inr x11))) ((0:Int),(fnone:(A2 Int Report)))).bind ((fun x14=>some x14))
def AXn:An:=.nd .x (.nd .x (.nd .x (.nd (.nd .x (.lp ⟨[(.slot 19,.d (.int .i64)),(.cont 10,.own (.mp 3 (.int .i64) (.st 1)))],[14,10]⟩ [.exit 0 ⟨[(.cont 10,.own (.mp 3 (.int .i64) (.st 1)))],[10]⟩] .x)) .x)))
def ctr46:Ctr:=⟨[.d (.sl (.st 1)),.d (.int .i64)],[.own (.mp 3 (.int .i64) (.st 1))],fun a=>T5 a.1 a.2.1⟩
theorem ok46:Ctr.ok prog 46 ctr46:=A7 (G:={ gxb with fs:=[(29,ctr29)] }) (an:=AXn) (A8 ⟨⟨ok29,call29⟩,trivial⟩) func46 rfl rfl rfl rfl (fun a=>by kernel_rfl)
end Go.Proofs.YtgioiejbphljoaaGreatDoor
namespace Go.Proofs.YtgioiejbphljoaaGreatDoor
open Go Go.Sx Go.Rx
namespace S
def AJg{α:Type}(l:List α)(id:α->Option Int)(right:α->Option Bool):Option Bool:=(B5 (S:=(Int×(A2 Int Bool))) (R:=(Unit⊕Bool)) (fun (x16,x17)=>cond (decide (x16<(l.length:Int))) ((ixo l x16).bind fun y18=>Option.bind (α:=Bool) ((right y18).bind fun y19=>cond ((!y19)) (some true) ((id y18).bind fun y20=>some ((x17 y20).getD false))) ((fun x21=>cond (x21) (some (Sum.inr (Sum.inr false))) ((id y18).bind fun y22=>(chk .i64 (x16+1)).bind fun n23=>some (Sum.inl (n23,(B9 x17 y22 true))))))) (some (Sum.inr (Sum.inl ())))) ((0:Int),(fnone:(A2 Int Bool)))).bind ((Sum.elim (fun _=>some true) (fun r24=>some r24)))
variable{α:Type}{k:α->Int}{D:Desk_99}
theorem ARE{l:List α}(h:(l.map k).Nodup){n:Nat}(H:n<l.length):∀x∈l.take n,k x≠k l[n]:=fun x hx=>by
 rw[List.Nodup,AZd,AZN]at h;obtain⟨i,hi,rfl⟩:=List.mem_take_iff_getElem.1 hx;exact h i n (by omega) H (by omega)
theorem AIh{l:List α}{id:α->Option Int}{right:α->Option Bool}(hl:l.length<=1000000)(U:∀x∈l,right x=some true)(I:∀x,id x=some (k x))(J:(l.map k).Nodup):AJg l id right=some true:=by
 refine Ret.eq ?_;unfold AJg;refine Ret.bind (B3 l.length (fun n (t:Int×A2 Int Bool)=>t.1=n/\∀i,(∀x∈l.take n,k x≠i)->t.2 i=none) ⟨rfl,fun i _=>rfl⟩ ?_ ?_)
 . rintro n H ⟨_,m⟩ ⟨rfl,hm⟩;dsimp only at hm;refine Ret.condT (K5 H) (Ret.bind (C0 H (Ret.bind (W5 (U _ (AYg H)) (Ret.condF rfl (W5 (I _) (Ret.ok ?_)))))));rw[hm _ (ARE J H)];refine Ret.condF rfl (W5 (I _) (Ret.bind (Ret.chk (by omega) (Ret.next ⟨by dsimp only;omega,fun i hi=>?_⟩))));dsimp only[B9];rw[if_neg (fun e=>hi l[n] ((B6 H).2 (.inr rfl)) e.symm)];exact hm i fun x hx=>hi x ((B6 H).2 (.inl hx))
 . rintro⟨_,m⟩ ⟨rfl,hm⟩;exact Ret.condF (K6 (AYh _)) (Ret.done (B8 (Ret.ok rfl)))
def Fc(d:Desk)(f:A2 Int Report):Prop:=∀i,f i=fct d.reports i
theorem AO4{l:List Report}(J:ADm l){i:Int}{r:Report}:fct l i=some r↔r∈l/\r.kind<=7/\r.id=i:=by
 constructor
 . intro h;obtain⟨I,H,U⟩:=O2 h;exact⟨I,U,H⟩
 . rintro⟨I,H,rfl⟩;exact AT4 J I H
theorem ARF{d:Desk}(V:VL d.reports):Ret (H1 d) (Fc d):=by
 have hl:=V.len;unfold H1;refine Ret.bind (B3 d.reports.length (fun n (t:Int×A2 Int Report)=>t.1=n/\∀i r,t.2 i=some r↔r∈d.reports.take n/\r.kind<=7/\r.id=i) ⟨rfl,fun i r=>by simp[fnone]⟩ ?_ ?_)
 . rintro n H ⟨_,m⟩ ⟨rfl,hm⟩;dsimp only at hm;refine Ret.condT (K5 H) (Ret.bind (C0 H (Ret.bind (Ret.cond (fun h=>?_) fun h=>?_))))
   . have h:=AYZ h;refine Ret.ok (Ret.bind (Ret.chk (by omega) (Ret.next ⟨by dsimp only;omega,fun i r=>?_⟩)));rw[B6 H];dsimp only[B9];by_cases e:i=d.reports[n].id
     . subst e;rw[AYf rfl];constructor
       . intro h;cases h;exact⟨.inr rfl,h,rfl⟩
       . rintro⟨I|I,J,U⟩
         . rw[V.cons r (AZI I) _ (AYg H) U]
         . rw[I]
     . rw[if_neg e,hm];constructor
       . rintro⟨I,J⟩;exact⟨.inl I,J⟩
       . rintro⟨I|rfl,J,U⟩
         . exact⟨I,J,U⟩
         . exact absurd U.symm e
   . have h:=AYb h;refine Ret.ok (Ret.bind (Ret.chk (by omega) (Ret.next ⟨by dsimp only;omega,fun i r=>?_⟩)));rw[B6 H,hm];constructor
     . rintro⟨I,J⟩;exact⟨.inl I,J⟩
     . rintro⟨I|rfl,J,U⟩
       . exact⟨I,J,U⟩
       . exact absurd J h
 . rintro⟨_,m⟩ ⟨rfl,hm⟩;dsimp only at hm;rw[AYo]at hm;refine Ret.condF (K6 (AYh _)) (Ret.done (Ret.ok fun i=>?_));apply AaP;intro r;rw[hm,AO4 V.cons]
def An(d:Desk)(h:A2 Int (List Answer)):Prop:=∀i,(h i).getD []=d.answers.filter fun a=>decide (a.dispute=i)
theorem AMP:∀(l pre:List Answer) (h:A2 Int (List Answer)),(∀i,(h i).getD []=pre.filter fun a=>decide (a.dispute=i))->pre.length+l.length<=1000000->∃I,AId l h=some I/\∀i,(I i).getD []=(pre++l).filter fun a=>decide (a.dispute=i)
 |[],pre,h,H,_=>⟨h,rfl,by simpa using H⟩
 |a::l,pre,h,H,hl=>by
  have U:((h a.dispute).getD []).length<=pre.length:=by rw[H];exact AZZ ..
  have W:pre.length+l.length+1<=1000000:=by simpa[Nat.add_assoc] using hl
  have e:appo 48 ((h a.dispute).getD []) [a]=some ((h a.dispute).getD []++[a]):=AAR (by simp only[List.length_singleton];omega) (by simp only[List.length_singleton];omega);have V:∀i,(B9 h a.dispute ((h a.dispute).getD []++[a]) i).getD []=(pre++[a]).filter fun a=>decide (a.dispute=i):=fun i=>by
   dsimp only[B9];rw[AZ6];by_cases e:i=a.dispute
   . subst e;rw[AYf rfl];simp[H]
   . rw[if_neg e,H];have e2:¬a.dispute=i:=fun h=>e h.symm;simp[e2]
  obtain⟨I,e',J⟩:=AMP l (pre++[a]) (B9 h a.dispute ((h a.dispute).getD []++[a])) V (by simp;omega);refine⟨I,?_,fun i=>by rw[J,AYv];rfl⟩;unfold AId;rw[e,bindS,e']
theorem AWQ(h:TV D.desk.terms):C8 D=some 0:=by
 obtain⟨t1,t2,t3⟩:=h;unfold C8;rw[d_in1,d_in2,C6 t1,C6 t2,C6 t3];rfl
theorem AWR(h:VL D.desk.reports):D8 D=some 0:=by
 unfold D8;rw[AIc h];rfl
theorem AWS(h:Vd D.desk)(C:Fc D.desk D.facts):D9 D=some 0:=by
 obtain⟨⟨t1,t2,t3⟩,V,hx,_⟩:=h;have hl:=V.len;have W:=hx.len;refine Ret.eq ?_;unfold D9;refine Ret.bind (B3 D.desk.reports.length (fun n (t:Int×A2 Int Bool)=>t.1=n/\∀i,(∀x∈D.desk.reports.take n,x.id≠i)->t.2 i=none) ⟨rfl,fun i _=>rfl⟩ ?_ ?_)
 . rintro n H ⟨_,m⟩ ⟨rfl,hm⟩;dsimp only at hm;refine Ret.condT (K5 H) (Ret.bind (C0 H (Ret.bind (Ret.chk (by omega) (Ret.next ⟨by dsimp only;omega,fun i hi=>?_⟩)))));dsimp only[B9];rw[if_neg (fun e=>hi _ ((B6 H).2 (.inr rfl)) e.symm)];exact hm i fun x hx=>hi x ((B6 H).2 (.inl hx))
 rintro⟨_,m⟩ ⟨rfl,hm⟩;dsimp only at hm;rw[AYo]at hm;refine Ret.condF (K6 (AYh _)) (Ret.done (Ret.bind (Ret.condF (AYY (by omega)) ?_)));have U:L8 D.desk.disputes (fun a16=>H9 a16) (fun a17=>E1 a17 D m)=some true:=AIh (k:=(·.id)) (by omega) (fun x I=>?_) (fun _=>rfl) hx.nd
 . rw[U];exact Ret.ok (Ret.ok rfl)
 . obtain⟨v1,v2,f,J,v3,v4⟩:=hx.v x I;refine Ret.eq ?_;unfold E1;rw[C,J];have v2:=hm x.id v2;refine Ret.bind (Ret.condT rfl ?_);dsimp only[Option.getD_some];rw[d_in1,C6 v1,bindS,v2];refine Ret.condT rfl (Ret.condT rfl (Ret.bind (Ret.chk (by omega) (Ret.bind (Ret.chk (by omega) ?_)))));rw[d_in1,C6 (show _/\_ from⟨v3,by omega⟩)];exact Ret.ok (Ret.ok rfl)
theorem AWT(h:Vd D.desk)(Q:Fc D.desk D.facts):F0 D=some 0:=by
 obtain⟨⟨t1,t2,t3⟩,W,hx,U⟩:=h;have K:=hx.len;have O:=U.len;have F:P3 D.desk.answers (fun a4=>M9 a4) (fun a5=>F7 a5 D)=some true:=AIh (k:=(·.id)) (by omega) (fun a C=>?_) (fun _=>rfl) U.nd
 . unfold F0;rw[AYY (by omega),F];rfl
 . obtain⟨v1,v2,v3,x,I,v4,v5,v6⟩:=U.v a C;refine Ret.eq ?_;unfold F7;refine Ret.bind ?_;refine(AAB (s:=D.desk.disputes) (f:=fun a1=>I6 a1 a) (fun _ _=>rfl) (by omega) (fun h=>?_) fun k hk h Y=>?_:Ret (AG2 _ _) _)
   . have:=AYb (h x I);exact absurd v4 this
   have h:=AYZ h;have V:D.desk.disputes[k]=x:=by
    have hnd:=hx.nd;rw[List.Nodup,AZd,AZN]at hnd;obtain⟨j,E,rfl⟩:=AZL I;rcases AZw k j with e|e|e
    . exact absurd (h.trans v4.symm) (hnd k j hk E e)
    . subst e;rfl
    . exact absurd (v4.trans h.symm) (hnd j k E hk e)
   refine Ret.bind (Ret.condF (AYY (by omega)) ?_);have vab:0<=a.about/\a.about<=100000:=by
    by_cases e:a.says=2
    . obtain⟨_,_,f,H,_⟩:=hx.v x I;exact(v6 e f H).1
    . have:=(v5 e).1;omega
   rw[d_in1,C6 v1,bindS];refine Ret.condF rfl ?_;rw[d_in2,C6 v2,C6 vab,bindS];refine Ret.ok (Ret.condF rfl (Ret.bind (C0 hk ?_)));rw[V];by_cases e:a.says=2
   . obtain⟨_,_,f,H,_⟩:=hx.v x I;refine Ret.bind (Ret.condF (AYY (by omega)) (Ret.ok ?_));rw[AYY (show ¬a.says=3 by omega)];refine Ret.condF rfl (Ret.condT (AYc e) ?_);rw[Q,H];obtain⟨w1,w2,w3⟩:=v6 e f H;have J:=O2 H;obtain⟨u1,u2,u3,u4,u5,u6,u7,u8,u9,u10,u11⟩:=W.v f J.1;rw[AIc (l:=[_]) ⟨by simp,fun r W=>?_,fun a U b T _=>?_⟩,bindS]
     . exact Ret.ok rfl
     . rw[mem_singleton.1 W];exact⟨u1,u2,u3,u4,u5,u6,w1,⟨w2,w3⟩,u9,u10,fun h=>by have:=J.2.2;dsimp only[Option.getD_some]at h;omega⟩
     . rw[mem_singleton.1 U,mem_singleton.1 T]
   . obtain⟨w1,w2⟩:=v5 e;refine Ret.bind (Ret.val (a:=true) ?_ (Ret.condT rfl (Ret.bind (Ret.condT (AYc w1) (Ret.ok (Ret.ok (AYc w2)))))));by_cases e1:a.says=1
     . rw[AYc e1];rfl
     . rw[AYY e1,AYc (show a.says=3 by omega)];rfl
structure Dw(d:Desk)(D:Desk_99):Prop where
 d:D.desk=d
 f:Fc D.desk D.facts
 a:An D.desk D.answers
theorem AMQ{d:Desk}(h:Vd d):∃D,H7 d=some (D,0)/\Dw d D:=by
 obtain⟨f,U,H⟩:=ARF h.r;have J:=h.a.len;obtain⟨V,e',I⟩:=AMP d.answers [] fnone (fun i=>rfl) (by simp;omega);refine⟨⟨d,f,V⟩,?_,rfl,H,I⟩;unfold H7;rw[U,bindS];have s1:=AWQ (D:=⟨d,f,fnone⟩) h.t;have s2:=AWR (D:=⟨d,f,fnone⟩) h.r;have s3:=AWS (D:=⟨d,f,fnone⟩) h H;have s4:=AWT (D:=⟨d,f,fnone⟩) h H;have:ABC ⟨d,f,fnone⟩ 0 4=some 0:=by
  show (C8 _).bind _=_;rw[s1,bindS,AYf rfl];show (D8 _).bind _=_;rw[s2,bindS,AYf rfl];show (D9 _).bind _=_;rw[s3,bindS,AYf rfl];show (F0 _).bind _=_;rw[s4,bindS,AYf rfl];rfl
 rw[this,bindS,AYf rfl,e'];rfl
theorem ALB{d:Desk}(h:Vd d){day:Int}(hd:0<=day/\day<=100000):∃D,M4 d day=some (D,0)/\Dw d D:=by
 obtain⟨D,I,H⟩:=AMQ h;refine⟨D,?_,H⟩;unfold M4;rw[I,bindS,d_in1,C6 hd];rfl
end S
namespace S
def R6(x y:Int):Int:=if x<y then -1 else if y<x then 1 else 0
theorem p_cmp{x y:Int}:E0 x y=some (R6 x y):=by
 unfold E0 Z6 R6;by_cases h:x<y
 . simp[h]
 . by_cases H:y<x
   . simp[h,H]
   . simp[h,H]
theorem p_Or{a b:Int}:AAL [a,b]=some (if a=0 then b else a):=by
 refine Ret.eq ?_;unfold AAL;refine Ret.bind (Ret.loop (fun t:Int=>t=0\/t=1/\a=0\/t=2/\a=0/\b=0) (fun t=>2-t.toNat) (.inl rfl) ?_);rintro _ (rfl|⟨rfl,rfl⟩|⟨rfl,rfl,rfl⟩)
 . refine Ret.condT rfl (Ret.bind (Ret.val (show ixo [a,b] 0=some a from rfl) ?_));by_cases c:a=0
   . rw[AYc c];exact Ret.condF rfl (Ret.bind (Ret.chk (by omega) (Ret.next ⟨.inr (.inl ⟨rfl,c⟩),by decide⟩)))
   . rw[AYY c];exact Ret.condT rfl (Ret.done (C1 (Ret.ok (by rw[if_neg c]))))
 . refine Ret.condT rfl (Ret.bind (Ret.val (show ixo [0,b] 1=some b from rfl) ?_));by_cases c:b=0
   . rw[AYc c];exact Ret.condF rfl (Ret.bind (Ret.chk (by omega) (Ret.next ⟨.inr (.inr ⟨rfl,rfl,c⟩),by decide⟩)))
   . rw[AYY c];exact Ret.condT rfl (Ret.done (C1 (Ret.ok (by rw[AYf rfl]))))
 . exact Ret.condF rfl (Ret.done (B8 (Ret.ok (by simp))))
def Q9(a b:Answer):Bool:=decide (a.day<b.day\/a.day=b.day/\a.id<b.id)
theorem p_first{a b:Answer}:K2 a b=some (Q9 a b):=by
 unfold K2;rw[p_cmp,bindS,p_cmp,bindS,p_Or,bindS];congr 1;unfold Q9 R6;rw[Bool.eq_iff_iff,decide_eq_true_iff,decide_eq_true_iff];split<;>split<;>(try split)<;>(try split)<;>omega
def Y6(x:Dispute)(last:Int)(a:Answer):Bool:=inB x.day last a.day
def AEp(x:Dispute)(last:Int)(v:Verdict)(a:Answer):Verdict:=if Y6 x last a&&(decide (v.is_=5)||Q9 a v.by_) then⟨a.day,a.says+1,a⟩ else v
def zeroA:Answer:=Answer.mk 0 0 0 0 0 0
def ANf(x:Dispute)(A:Int)(l:List Answer):Verdict:=l.foldl (AEp x (x.day+A)) ⟨x.day+A+1,5,zeroA⟩
def dec(d:Desk)(x:Dispute):Verdict:=ANf x d.terms.answer (d.answers.filter fun a=>decide (a.dispute=x.id))
theorem AQT{s:Int}(h:1<=s/\s<=3):(AF4 s).getD 0=s+1:=by
 have:s=1\/s=2\/s=3:=by omega
 rcases this with rfl|rfl|rfl<;>rfl
theorem AH2{α β:Type}{f:β->α->β}{b:β}{l:List α}{n:Nat}(h:n<l.length):(l.take (n+1)).foldl f b=f ((l.take n).foldl f b) l[n]:=by
 rw[T3 h,AZz];rfl
theorem AQU{d:Desk}{D:Desk_99}(hD:Dw d D)(hv:Vd d){x:Dispute}(hx:x∈d.disputes):O0 D x=some (dec d x):=by
 have U:=hv.x.v x hx;have T:=hv.t.1;obtain⟨_,_,f,O,x1,x2⟩:=U;have K:=(hv.r.v f (O2 O).1).2.2.2.2.2.1;have V:=hv.a.len;have hd:=hD.d;refine Ret.eq ?_;unfold O0;rw[hD.a,hd];let aa:=d.answers.filter fun a=>decide (a.dispute=x.id);have C:aa.length<=40:=AYk (AZZ ..) V;have has:∀a∈aa,1<=a.says/\a.says<=3:=fun a Q=>(hv.a.v a (List.mem_filter.1 Q).1).2.2.1;show Ret (Option.bind _ _) (·=ANf x d.terms.answer aa);refine Ret.bind (Ret.chk (by omega) (Ret.bind (Ret.chk (by omega) (Ret.bind (B3 aa.length (fun n (t:Int×Int×Int×Int×Int×Int×Int×Int×Int)=>∃v:Verdict,v=(aa.take n).foldl (AEp x (x.day+d.terms.answer)) ⟨x.day+d.terms.answer+1,5,zeroA⟩/\t=((n:Int),v.day,v.is_,v.by_.id,v.by_.dispute,v.by_.day,v.by_.says,v.by_.about,v.by_.cents)) ⟨_,rfl,rfl⟩ ?_ ?_)))))
 . rintro n I _ ⟨v,H,rfl⟩;have F:=has _ (AYg I);refine Ret.condT (K5 I) (Ret.bind (Ret.val (a:=aa[n]) (ADu (AYd I)) (Ret.bind ?_)));rw[d_in1,bindS];have key:∀b:Bool,b=(Y6 x (x.day+d.terms.answer) aa[n]&&(decide (v.is_=5)||Q9 aa[n] v.by_))->Ret (Option.bind (α:=(Int×Int×Int×Int×Int×Int×Int×Int)) (cond b (some (aa[n].day,((AF4 aa[n].says).getD 0),aa[n].id,aa[n].dispute,aa[n].day,aa[n].says,aa[n].about,aa[n].cents)) (some (v.day,v.is_,v.by_.id,v.by_.dispute,v.by_.day,v.by_.says,v.by_.about,v.by_.cents))) ((fun (x52,x53,x54,x55,x56,x57,x58,x59)=>(chk .i64 ((n:Int)+1)).bind fun n60=>some (Sum.inl (n60,x52,x53,x54,x55,x56,x57,x58,x59))))) (Nxt (fun (t:Int×Int×Int×Int×Int×Int×Int×Int×Int)=>∃v:Verdict,v=(aa.take (n+1)).foldl (AEp x (x.day+d.terms.answer)) ⟨x.day+d.terms.answer+1,5,zeroA⟩/\t=(((n+1:Nat):Int),v.day,v.is_,v.by_.id,v.by_.dispute,v.by_.day,v.by_.says,v.by_.about,v.by_.cents)) (fun (r:Int×Int×Int×Int×Int×Int×Int×Int)=>Ret (some (Verdict.mk r.1 r.2.1 (Answer.mk r.2.2.1 r.2.2.2.1 r.2.2.2.2.1 r.2.2.2.2.2.1 r.2.2.2.2.2.2.1 r.2.2.2.2.2.2.2))) (·=ANf x d.terms.answer aa))):=fun b E=>by
    cases b with
    |true=>
     refine Ret.bind (Ret.condT rfl (Ret.ok (Ret.bind (Ret.chk (by omega) (Ret.next ⟨_,rfl,?_⟩)))))
     rw[AH2 I,<-H]
     unfold AEp
     rw[AYf E.symm,AQT F]
     rfl
    |false=>
     refine Ret.bind (Ret.condF rfl (Ret.ok (Ret.bind (Ret.chk (by omega) (Ret.next ⟨_,rfl,?_⟩)))))
     rw[AH2 I,<-H]
     unfold AEp
     rw[if_neg (by rw[<-E];decide)]
     rfl
   refine Ret.cond (fun J=>?_) fun J=>Ret.ok (key _ (by rw[show Y6 x (x.day+d.terms.answer) aa[n]=false from J];rfl));have J:Y6 x (x.day+d.terms.answer) aa[n]=true:=J;refine Ret.cond (fun W=>Ret.ok (key _ (by rw[J,W];rfl))) fun W=>?_;have e:(Answer.mk v.by_.id v.by_.dispute v.by_.day v.by_.says v.by_.about v.by_.cents)=v.by_:=rfl;rw[e,p_first,bindS];exact Ret.ok (key _ (by rw[J,W];rfl))
 . rintro _ ⟨v,H,rfl⟩;refine Ret.condF (K6 (AYh _)) (Ret.done (Ret.ok ?_));rw[AYo]at H;show _=List.foldl _ _ _;rw[<-H]
structure DecL(x:Dispute)(A:Int)(l:List Answer)(v:Verdict):Prop where
 is5:v.is_=5->v=⟨x.day+A+1,5,zeroA⟩/\∀a∈l,Y6 x (x.day+A) a=false
 by_:v.is_≠5->v=⟨v.by_.day,v.by_.says+1,v.by_⟩/\v.by_∈l/\Y6 x (x.day+A) v.by_=true/\∀a∈l,Y6 x (x.day+A) a=true->Q9 a v.by_=false
variable{a:Answer}{b:Answer}{c:Answer}{x:Dispute}{d:Desk}
theorem AO5(I:Q9 a b=true)(H:Q9 b c=true):Q9 a c=true:=by
 unfold Q9 at *;rw[decide_eq_true_iff]at *;omega
theorem ASL(H:Q9 a b=true)(I:Q9 c b=false):Q9 c a=false:=by
 unfold Q9 at *;rw[decide_eq_true_iff]at H;rw[decide_eq_false_iff_not]at *;omega
theorem AXo{A:Int}:∀(l:List Answer),(∀a∈l,1<=a.says/\a.says<=3)->DecL x A l (ANf x A l):=by
 have key:∀(l p:List Answer) (v:Verdict),(∀a∈l,1<=a.says/\a.says<=3)->DecL x A p v->DecL x A (p++l) (l.foldl (AEp x (x.day+A)) v):=by
  intro l;induction l with
  |nil=>intro p v _ h;simpa using h
  |cons a l ih=>
   intro p v U h
   have:p++a::l=(p++[a])++l:=by simp
   rw[this]
   refine ih _ _ (fun b H=>U b (AYT _ H)) ?_
   have V:=U a (AYX ..)
   unfold AEp
   by_cases c:(Y6 x (x.day+A) a&&(decide (v.is_=5)||Q9 a v.by_))=true
   . rw[AYf c]
     rw[Bool.and_eq_true,Bool.or_eq_true]at c
     refine⟨fun I=>?_,fun _=>⟨rfl,mem_append.2 (.inr (mem_singleton.2 rfl)),c.1,fun b H J=>?_⟩⟩
     . have I:a.says+1=5:=I
       omega
     . show Q9 b a=false
       rcases mem_append.1 H with H|H
       . by_cases c5:v.is_=5
         . rw[(h.is5 c5).2 b H]at J;cases J
         . rcases c.2 with c2|c2
           . exact absurd (AYZ c2) c5
           . exact ASL c2 ((h.by_ c5).2.2.2 b H J)
       . rw[mem_singleton.1 H]
         unfold Q9
         exact AYY (by omega)
   . rw[if_neg c]
     refine⟨fun I=>⟨(h.is5 I).1,fun b H=>?_⟩,fun I=>⟨(h.by_ I).1,mem_append.2 (.inl (h.by_ I).2.1),(h.by_ I).2.2.1,fun b H J=>?_⟩⟩
     . rcases mem_append.1 H with H|H
       . exact(h.is5 I).2 b H
       . rw[mem_singleton.1 H]
         rw[AYc I,Bool.true_or,Bool.and_true]at c
         simpa using c
     . rcases mem_append.1 H with H|H
       . exact(h.by_ I).2.2.2 b H J
       . rw[mem_singleton.1 H]at J ⊢
         rw[J,AYY I,Bool.false_or,Bool.true_and]at c
         simpa using c
 intro l hl;have:=key l [] ⟨x.day+A+1,5,zeroA⟩ hl ⟨fun _=>⟨rfl,fun a V=>by cases V⟩,fun h=>absurd rfl h⟩;rw[AYq]at this;exact this
theorem AEE(hv:Vd d)(x:Dispute):DecL x d.terms.answer (d.answers.filter fun a=>decide (a.dispute=x.id)) (dec d x):=AXo _ fun a H=>(hv.a.v a (List.mem_filter.1 H).1).2.2.1
theorem ASM(hv:Vd d):x.day<=(dec d x).day/\(dec d x).day<=x.day+d.terms.answer+1:=by
 have J:=hv.t.1;have h:=AEE hv x;by_cases c:(dec d x).is_=5
 . rw[(h.is5 c).1];show _<=x.day+d.terms.answer+1/\x.day+d.terms.answer+1<=_;omega
 . obtain⟨I,_,H,_⟩:=h.by_ c;have H:=C9 H;rw[I];show _<=(dec d x).by_.day/\(dec d x).by_.day<=_;omega
theorem AFb(hv:Vd d)(hx:x∈d.disputes):0<=(dec d x).day/\(dec d x).day<=100000:=by
 obtain⟨_,_,f,I,x1,x2⟩:=hv.x.v x hx;have H:=(hv.r.v f (O2 I).1).2.2.2.2.2.1;have:=ASM hv (x:=x);omega
theorem ALC(hv:Vd d)(x:Dispute):2<=(dec d x).is_/\(dec d x).is_<=5:=by
 by_cases c:(dec d x).is_=5
 . omega
 . obtain⟨I,H,_⟩:=(AEE hv x).by_ c;have:=(hv.a.v _ (List.mem_filter.1 H).1).2.2.1;rw[I];show 2<=(dec d x).by_.says+1/\(dec d x).by_.says+1<=5;omega
def wh(d:Desk)(x:Dispute)(day:Int):Int:=if (dec d x).day<=day then(dec d x).is_ else if x.day<=day then 1 else 0
theorem ASN{D:Desk_99}(hD:Dw d D)(hv:Vd d)(hx:x∈d.disputes){day:Int}:P2 D x day=some (wh d x day,dec d x):=by
 unfold P2 wh;rw[AQU hD hv hx,bindS];by_cases c:(dec d x).day<=day
 . rw[AYc c,condT,AYf c]
 . rw[AYY c,condF,if_neg c];by_cases c2:x.day<=day
   . rw[AYc c2,condT,AYf c2]
   . rw[AYY c2,condF,if_neg c2]
theorem AUA{α:Type}{l:List α}{k:α->Int}(h:(l.map k).Nodup){x:α}(hx:x∈l){n:Nat}(H:n<l.length)(J:k l[n]=k x):l[n]=x:=by
 rw[List.Nodup,AZd,AZN]at h;obtain⟨j,I,rfl⟩:=AZL hx;rcases AZw n j with e|e|e
 . exact absurd J (h n j H I e)
 . subst e;rfl
 . exact absurd J.symm (h j n I H e)
end S
namespace S
def ARG{α:Type}(D:Nat->α->Option Int)(a b:α)(a2_:List Nat):Option Int:=(B5 (S:=Int) (R:=(Unit⊕Int)) (fun x7=>cond (decide (x7<(a2_.length:Int))) ((ixo a2_ x7).bind fun y8=>(D y8 a).bind fun y9=>(D y8 b).bind fun y10=>(E0 y9 y10).bind fun r11=>cond ((!decide (r11=0))) (some (Sum.inr (Sum.inr r11))) ((chk .i64 (x7+1)).bind fun n12=>some (Sum.inl n12))) (some (Sum.inr (Sum.inl ())))) (0:Int)).bind ((Sum.elim (fun _=>some (0:Int)) (fun r13=>some r13)))
def cf2{α:Type}(k1 k2:α->Int)(a b:α):Int:=if R6 (k1 a) (k1 b)=0 then R6 (k2 a) (k2 b) else R6 (k1 a) (k1 b)
variable{x:Int}{y:Int}{α:Type}{k1:α->Int}{k2:α->Int}{a:α}{b:α}
theorem AMR:R6 x y<0↔x<y:=by unfold R6;split<;>(try split)<;>omega
theorem ALD:R6 x y=0↔x=y:=by unfold R6;split<;>(try split)<;>omega
theorem AEF:cf2 k1 k2 a b<0↔k1 a<k1 b\/k1 a=k1 b/\k2 a<k2 b:=by
 unfold cf2;split
 . rename_i h;rw[ALD]at h;rw[AMR];omega
 . rename_i h;rw[ALD]at h;rw[AMR];omega
theorem AIi{D:Nat->α->Option Int}{i j:Nat}(I:∀y,D i y=some (k1 y))(H:∀y,D j y=some (k2 y)):ARG D a b [i,j]=some (cf2 k1 k2 a b):=by
 refine Ret.eq ?_;unfold ARG;refine Ret.bind (Ret.loop (fun t:Int=>t=0\/t=1/\R6 (k1 a) (k1 b)=0\/t=2/\R6 (k1 a) (k1 b)=0/\R6 (k2 a) (k2 b)=0) (fun t=>2-t.toNat) (.inl rfl) ?_);rintro _ (rfl|⟨rfl,e⟩|⟨rfl,e,e2⟩)
 . refine Ret.condT rfl (Ret.bind (Ret.val (show ixo [i,j] 0=some i from rfl) ?_));rw[I,I,bindS,bindS,p_cmp,bindS];by_cases c:R6 (k1 a) (k1 b)=0
   . rw[AYc c];exact Ret.condF rfl (Ret.bind (Ret.chk (by omega) (Ret.next ⟨.inr (.inl ⟨rfl,c⟩),by decide⟩)))
   . rw[AYY c];exact Ret.condT rfl (Ret.done (C1 (Ret.ok (by unfold cf2;rw[if_neg c]))))
 . refine Ret.condT rfl (Ret.bind (Ret.val (show ixo [i,j] 1=some j from rfl) ?_));rw[H,H,bindS,bindS,p_cmp,bindS];by_cases c:R6 (k2 a) (k2 b)=0
   . rw[AYc c];exact Ret.condF rfl (Ret.bind (Ret.chk (by omega) (Ret.next ⟨.inr (.inr ⟨rfl,e,c⟩),by decide⟩)))
   . rw[AYY c];exact Ret.condT rfl (Ret.done (C1 (Ret.ok (by unfold cf2;rw[AYf e]))))
 . exact Ret.condF rfl (Ret.done (B8 (Ret.ok (by unfold cf2;rw[AYf e,e2]))))
def N8{α:Type}(k1 k2:α->Int)(a b:α):Prop:=k1 a<k1 b\/k1 a=k1 b/\k2 a<=k2 b
theorem ANg{x:List α}{cmp:α->α->Option Int}(E:∀a b,cmp a b=some (cf2 k1 k2 a b))(one:∀a b,a∈x->b∈x->k1 a=k1 b->k2 a=k2 b->a=b)(hl:x.length<=1000000):Ret (ACY x cmp) fun out=>out.Perm x/\out.Pairwise (N8 k1 k2):=by
 have W:AK2 x cmp (cf2 k1 k2):=by
  refine⟨fun a b _ _=>E a b,⟨fun a=>?_,fun a b c H U=>?_,fun a b c H U=>?_⟩,fun a b D C H U=>?_⟩
  . show decide (cf2 k1 k2 a.1 a.1<0)=false;rw[decide_eq_false_iff_not,AEF];omega
  . have H:=AYZ H;have U:=AYZ U;refine AYc ?_;rw[AEF]at *;omega
  . have H:=AYb H;have U:=AYb U;refine AYY ?_;rw[AEF]at *;omega
  . rw[AEF]at H U;exact one a b D C (by omega) (by omega)
 have J:x.length<4611686018427387904/\∃cf,AK2 x cmp cf:=⟨by omega,_,W⟩;have F:ACY x cmp=some (x.mergeSort fun a b=>!decide (J.2.choose b a<0)):=by
  unfold ACY;rw[dif_pos J]
 refine Ret.val F ⟨List.mergeSort_perm _ _,?_⟩;have V:=J.2.choose_spec.1;have hm:=List.map_mergeSort (r:=fun a b=>!decide (J.2.choose b a<0)) (s:=fun a b=>!decide (cf2 k1 k2 b a<0)) (f:=id) (l:=x) fun a D b C=>by
  have H:=V b a C D;rw[E]at H;rw[<-AYS H];rfl
 simp only[List.map_id]at hm;rw[hm];have I:∀a b:α,(!decide (cf2 k1 k2 b a<0))=true↔N8 k1 k2 a b:=fun a b=>by
  rw[Bool.not_eq_true',decide_eq_false_iff_not,AEF];unfold N8;omega
 refine(List.pairwise_mergeSort (fun a b c H U=>?_) (fun a b=>?_) x).imp fun h=>(I _ _).1 h
 . rw[I]at *;unfold N8 at *;omega
 . rw[Bool.or_eq_true,I,I];unfold N8;omega
theorem AG4{l1 l2:List α}(J:l1.Perm l2)(C:l1.Pairwise (N8 k1 k2))(W:l2.Pairwise (N8 k1 k2))(one:∀a b,a∈l1->b∈l1->k1 a=k1 b->k2 a=k2 b->a=b):l1=l2:=by
 refine List.Perm.eq_of_pairwise (fun a b V U I H=>?_) C W J;unfold N8 at I H;exact one a b V (J.mem_iff.2 U) (by omega) (by omega)
theorem AB4{l:List α}{k:α->Int}(h:(l.map k).Nodup):∀a b,a∈l->b∈l->k a=k b->a=b:=fun a b I H e=>by
 obtain⟨i,hi,rfl⟩:=AZL I;exact AUA h H hi e
end S
namespace S
variable{α:Type}{k1 k2:α->Int}
def lt2(k1 k2:α->Int)(a b:α):Prop:=k1 a<k1 b\/k1 a=k1 b/\k2 a<k2 b
instance {a b:α}:Decidable (lt2 k1 k2 a b):=by unfold lt2;infer_instance
variable{B:List α}{y:α}{L:List α}{a:α}{z:α}
theorem AO6{A B X:List α}(V:X=A++B)(H:X.Pairwise (N8 k1 k2))(W:∀b∈B,lt2 k1 k2 y b)(hA:∀a∈A,N8 k1 k2 a y):(A++y::B).Perm (X++[y])/\(A++y::B).Pairwise (N8 k1 k2):=by
 subst V;rw[List.pairwise_append]at H;refine⟨?_,List.pairwise_append.2 ⟨H.1,List.pairwise_cons.2 ⟨fun b U=>?_,H.2.1⟩,fun a J b I=>?_⟩⟩
 . rw[AYv];exact(AZh A).append (AZ4 y B).symm
 . have:=W b U;unfold lt2 at this;unfold N8;omega
 . rcases mem_cons.1 I with rfl|I
   . exact hA a J
   . exact H.2.2 a J b I
theorem ix_a:ixo (L++a::y::B) (L.length:Int)=some a:=ADu (by simp)
theorem ix_y:ixo (L++a::y::B) ((L.length:Int)+1)=some y:=by
 have:ixo (L++a::y::B) ((L.length+1:Nat):Int)=some y:=ADu (by simp);rwa [show((L.length+1:Nat):Int)=(L.length:Int)+1 by omega]at this
theorem set_y:seto (L++a::y::B) ((L.length:Int)+1) z=some (L++a::z::B):=by
 unfold seto;rw[AYf ⟨by omega,by simp only[List.length_append,List.length_cons];omega⟩,show((L.length:Int)+1).toNat=L.length+1 by omega];simp
theorem set_a:seto (L++a::y::B) (L.length:Int) z=some (L++z::y::B):=by
 unfold seto;rw[AYf ⟨by omega,by simp only[List.length_append,List.length_cons];omega⟩,Int.toNat_natCast];simp
theorem AWU{S R:Type}{body:S->Option (S⊕R)}(st:Int->List α->S)(fin:List α->R){pre X:List α}(hl:(pre++X).length<=1000000)(W:X.Pairwise (N8 k1 k2))(O:∀B,body (st (pre.length:Int) (pre++y::B))=some (.inr (fin (pre++y::B))))(K:∀(A B:List α) (a:α),pre.length<=A.length->A.length<=1000000->¬lt2 k1 k2 y a->body (st ((A.length:Int)+1) (A++a::y::B))=some (.inr (fin (A++a::y::B))))(F:∀(A B:List α) (a:α),pre.length<=A.length->A.length<=1000000->lt2 k1 k2 y a->body (st ((A.length:Int)+1) (A++a::y::B))=some (.inl (st (A.length:Int) (A++y::a::B)))){Q:R->Prop}(q:∀X',X'.Perm (X++[y])->X'.Pairwise (N8 k1 k2)->Q (fin (pre++X'))):Ret (B5 body (st ((pre++X).length:Int) (pre++(X++[y])))) Q:=by
 have key:∀(n:Nat) (A B:List α),A.length=n->X=A++B->(∀b∈B,lt2 k1 k2 y b)->Ret (B5 body (st ((pre++A).length:Int) (pre++(A++y::B)))) Q:=by
  intro n;induction n with
  |zero=>
   intro A B hA I C
   have:A=[]:=List.length_eq_zero_iff.1 hA
   subst this
   rw[AYq]at I
   subst I
   obtain⟨g1,g2⟩:=AO6 (A:=[]) (y:=y) rfl W C (fun a E=>by cases E)
   refine⟨fin (pre++y::X),?_,q _ g1 g2⟩
   rw[AYt,AYq]
   exact AA3 (O X)
  |succ n ih=>
   intro A B hA I C
   obtain⟨A',a,rfl⟩:∃A' a,A=A'++[a]:=by
    rcases List.eq_nil_or_concat A with rfl|⟨A',a,rfl⟩
    . cases hA
    . exact⟨A',a,by rw[List.concat_eq_append]⟩
   have D:A'.length=n:=by simpa using hA
   have e1:((pre++(A'++[a])).length:Int)=((pre++A').length:Int)+1:=by simp only[List.length_append,List.length_singleton];omega
   have e2:pre++(A'++[a]++y::B)=(pre++A')++a::y::B:=by simp
   have U:(pre++A').length<=1000000:=by
    rw[I]at hl;simp only[List.length_append,List.length_singleton]at hl ⊢;omega
   have J:pre.length<=(pre++A').length:=by rw[AYj];omega
   by_cases c:lt2 k1 k2 y a
   . have:=ih A' (a::B) D (by rw[I];simp) fun b V=>by
      rcases mem_cons.1 V with rfl|V
      . exact c
      . exact C b V
     obtain⟨r,g1,g2⟩:=this
     refine⟨r,?_,g2⟩
     rw[e1,e2]
     refine(AGP (F _ _ _ J U c)).trans ?_
     rw[<-g1]
     simp
   . obtain⟨g1,g2⟩:=AO6 (y:=y) I W C fun x hx=>by
      rw[I,List.pairwise_append]at W;have H:x=a\/N8 k1 k2 x a:=by
       rcases mem_append.1 hx with hx|hx
       . exact .inr ((List.pairwise_append.1 W.1).2.2 x hx a (by simp))
       . exact .inl (by simpa using hx)
      unfold lt2 at c;unfold N8 at H ⊢;rcases H with rfl|H
      . omega
      . omega
     refine⟨fin (pre++(A'++[a]++y::B)),?_,q _ g1 g2⟩
     rw[e1,e2]
     exact AA3 (K _ _ _ J U c)
 exact key X.length X [] rfl (by simp) fun b V=>by cases V
end S
namespace S
def Aim(K:List Report)(r o:Report):Prop:=o∈K/\o.id=r.of_/\o.source=r.source/\o.account=r.account
def Wd(K:List Report)(i:Int)(r:Report):Prop:=r∈K/\r.kind=9/\r.of_=i/\∃o,Aim K r o/\o.kind≠9
def Least(p:Report->Prop)(l:List Report):Option Int->Prop
 |none=>∀r∈l,¬p r
 |some z=>∃r∈l,p r/\r.id=z/\∀s∈l,p s->z<=s.id
def Latest(p:Report->Prop)(l:List Report):Option Report->Prop
 |none=>∀r∈l,¬p r
 |some r=>r∈l/\p r/\∀s∈l,p s->s.made<r.made\/s.made=r.made/\s.id<=r.id
def WdR(K:List Report)(i:Int)(z:Option Int):Prop:=Least (Wd K i) K z
def Co(K:List Report)(o r:Report):Prop:=r.kind=8/\Aim K r o/\(0<=r.cents/\r.cents<=most o.kind)/\WdR K r.id none
structure Ok(K:List Report):Prop where
 v:∀r∈K,V r
 nd:(K.map (·.id)).Nodup
 len:K.length<=60
variable{K:List Report}{p:Report->Prop}{a:Option Int}{q:Report->Prop}{m:A2 Int Report}
theorem Ok.one(h:Ok K){a b:Report}(I:a∈K)(H:b∈K)(e:a.id=b.id):a=b:=by
 exact AB4 h.nd a b I H e
theorem Least.uniq{l:List Report}{a b:Option Int}(U:Least p l a)(J:Least p l b):a=b:=by
 cases a with
 |none=>
  cases b with
  |none=>rfl
  |some y=>obtain⟨r,H,I,_⟩:=J;exact absurd I (U r H)
 |some x=>
  cases b with
  |none=>obtain⟨r,H,I,_⟩:=U;exact absurd I (J r H)
  |some y=>
   obtain⟨r,H,I,rfl,hx⟩:=U
   obtain⟨s,V,W,rfl,hy⟩:=J
   have:=hx s V W
   have:=hy r H I
   rw[show r.id=s.id by omega]
theorem Least.congr{l l':List Report}(h:Least p l a)(e:∀r,r∈l/\p r↔r∈l'/\q r):Least q l' a:=by
 cases a with
 |none=>
  intro r H I
  obtain⟨U,J⟩:=(e r).2 ⟨H,I⟩
  exact h r U J
 |some x=>
  obtain⟨r,H,W,hx,hm⟩:=h
  obtain⟨U,J⟩:=(e r).1 ⟨H,W⟩
  exact⟨r,U,J,hx,fun s V I=>by
   obtain⟨D,C⟩:=(e s).2 ⟨V,I⟩;exact hm s D C⟩
theorem Latest.congr{l l':List Report}{a:Option Report}(h:Latest p l a)(e:∀r,r∈l/\p r↔r∈l'/\q r):Latest q l' a:=by
 cases a with
 |none=>
  intro r H I
  obtain⟨U,J⟩:=(e r).2 ⟨H,I⟩
  exact h r U J
 |some x=>
  obtain⟨H,W,hm⟩:=h
  obtain⟨U,J⟩:=(e x).1 ⟨H,W⟩
  exact⟨U,J,fun s V I=>by
   obtain⟨D,C⟩:=(e s).2 ⟨V,I⟩;exact hm s D C⟩
theorem Latest.uniq(hK:Ok K){a b:Option Report}(I:Latest p K a)(H:Latest p K b):a=b:=by
 cases a with
 |none=>
  cases b with
  |none=>rfl
  |some y=>exact absurd H.2.1 (I y H.1)
 |some x=>
  cases b with
  |none=>exact absurd I.2.1 (H x I.1)
  |some y=>
   obtain⟨hx,px,mx⟩:=I
   obtain⟨hy,py,my⟩:=H
   have:=mx y hy py
   have:=my x hx px
   rw[hK.one hx hy (by omega)]
theorem Least.push{l:List Report}{z:Option Int}(h:Least p l z)(x:Report):(¬p x->Least p (l++[x]) z)/\(p x->(z=none\/∃y,z=some y/\x.id<y)->Least p (l++[x]) (some x.id))/\(p x->∀y,z=some y->y<=x.id->Least p (l++[x]) z):=by
 have mem:∀s,s∈l++[x]↔s∈l\/s=x:=fun s=>by simp
 refine⟨fun hx=>?_,fun hx D=>?_,fun hx y hy C=>?_⟩
 . cases z with
   |none=>
    intro r J
    rcases (mem r).1 J with H|rfl
    . exact h r H
    . exact hx
   |some y=>
    obtain⟨r,J,V,W,hm⟩:=h
    exact⟨r,(mem r).2 (.inl J),V,W,fun s U I=>by
     rcases (mem s).1 U with H|rfl
     . exact hm s H I
     . exact absurd I hx⟩
 . refine⟨x,(mem x).2 (.inr rfl),hx,rfl,fun s U I=>?_⟩;rcases (mem s).1 U with H|rfl
   . rcases D with rfl|⟨y,rfl,E⟩
     . exact absurd I (h s H)
     . obtain⟨r,J,V,W,hm⟩:=h;have:=hm s H I;omega
   . exact Int.le_refl _
 . subst hy;obtain⟨r,J,V,W,hm⟩:=h;exact⟨r,(mem r).2 (.inl J),V,W,fun s U I=>by
    rcases (mem s).1 U with H|rfl
    . exact hm s H I
    . exact C⟩
theorem Latest.push{l:List Report}{z:Option Report}(h:Latest p l z)(x:Report):(¬p x->Latest p (l++[x]) z)/\(p x->(z=none\/∃y,z=some y/\(y.made<x.made\/y.made=x.made/\y.id<x.id))->Latest p (l++[x]) (some x))/\(p x->∀y,z=some y->¬(y.made<x.made\/y.made=x.made/\y.id<x.id)->Latest p (l++[x]) z):=by
 have mem:∀s,s∈l++[x]↔s∈l\/s=x:=fun s=>by simp
 refine⟨fun hx=>?_,fun hx W=>?_,fun hx y hy D=>?_⟩
 . cases z with
   |none=>
    intro r U
    rcases (mem r).1 U with H|rfl
    . exact h r H
    . exact hx
   |some y=>
    obtain⟨U,V,hm⟩:=h
    exact⟨(mem y).2 (.inl U),V,fun s J I=>by
     rcases (mem s).1 J with H|rfl
     . exact hm s H I
     . exact absurd I hx⟩
 . refine⟨(mem x).2 (.inr rfl),hx,fun s J I=>?_⟩;rcases (mem s).1 J with H|rfl
   . rcases W with rfl|⟨y,rfl,C⟩
     . exact absurd I (h s H)
     . have:=h.2.2 s H I;omega
   . omega
 . subst hy;obtain⟨U,V,hm⟩:=h;exact⟨(mem y).2 (.inl U),V,fun s J I=>by
    rcases (mem s).1 J with H|rfl
    . exact hm s H I
    . omega⟩
def knS:List Report->Int->List Report
 |[],_=>[]
 |r::l,k=>if r.made<=k/\r∉knS l k then r::knS l k else knS l k
theorem kn_mem:∀{l:List Report} {k:Int} {r:Report},r∈knS l k↔r∈l/\r.made<=k
 |[],k,r=>by simp[knS]
 |x::l,k,r=>by
  unfold knS;split
  . rename_i h;rw[AY6,AY6,kn_mem];constructor
    . rintro (rfl|H)
      . exact⟨.inl rfl,h.1⟩
      . exact⟨.inr H.1,H.2⟩
    . rintro⟨rfl|H,I⟩
      . exact .inl rfl
      . exact .inr ⟨H,I⟩
  . rename_i h;rw[AY6,kn_mem];constructor
    . rintro⟨H,I⟩;exact⟨.inr H,I⟩
    . rintro⟨rfl|H,I⟩
      . exact kn_mem.1 (AZ8 fun J=>h ⟨I,J⟩)
      . exact⟨H,I⟩
theorem kn_nd:∀{l:List Report} {k:Int},(knS l k).Nodup
 |[],k=>AZk
 |x::l,k=>by
  unfold knS;split
  . rename_i h;exact List.nodup_cons.2 ⟨h.2,kn_nd⟩
  . exact kn_nd
theorem AO7:∀{l:List Report} {k:Int},(knS l k).length<=l.length
 |[],k=>AYh _
 |x::l,k=>by
  unfold knS;have:=AO7 (l:=l) (k:=k);split
  . simp only[List.length_cons];omega
  . simp only[List.length_cons];omega
theorem ACb{l:List Report}(h:VL l)(k:Int):Ok (knS l k):=by
 refine⟨fun r I=>h.v r (kn_mem.1 I).1,?_,AYk AO7 h.len⟩;rw[List.Nodup,AZd];exact List.Pairwise.imp_of_mem (fun {a b} U J H e=>H (h.cons a (kn_mem.1 U).1 b (kn_mem.1 J).1 e)) kn_nd
def Rep(K:List Report)(m:A2 Int Report):Prop:=∀i r,m i=some r↔r∈K/\r.id=i
theorem AB6{S β:Type}{f:S->β->Option S}(I:List β->S->Prop):∀(l pre:List β) (s:S),I pre s->(∀pre x s,x∈l->I pre s->∃s',f s x=some s'/\I (pre++[x]) s')->∃s',l.foldlM f s=some s'/\I (pre++l) s'
 |[],pre,s,h,_=>⟨s,rfl,by simpa using h⟩
 |x::l,pre,s,h,H=>by
  obtain⟨s1,W,V⟩:=H pre x s (AYX ..) h;obtain⟨s2,U,J⟩:=AB6 I l (pre++[x]) s1 V fun pre y s hy=>H pre y s (AYT _ hy);refine⟨s2,?_,by simpa using J⟩;rw[AZf,W];exact U
theorem Rep.lists(hK:Ok K)(h:Rep K m):Lists m (K.map fun r=>(r.id,r)):=by
 refine⟨?_,fun a y=>?_⟩
 . rw[AY3];exact hK.nd
 . rw[h,AZY];constructor
   . rintro⟨r,H,e⟩;cases e;exact⟨H,rfl⟩
   . rintro⟨H,rfl⟩;exact⟨y,H,rfl⟩
theorem Rep.mem(h:Rep K m){l:List (Int×Report)}(hl:Lists m l)(r:Report):r∈l.map (·.2)↔r∈K:=by
 rw[AZY];constructor
 . rintro⟨⟨a,y⟩,hy,rfl⟩;exact((h a y).1 ((hl.2 a y).1 hy)).1
 . intro H;exact⟨(r.id,r),(hl.2 _ _).2 ((h _ _).2 ⟨H,rfl⟩),rfl⟩
theorem AH4{S κ α R:Type}{f:S->κ×α->Option S}{m:A2 κ α}{l0:List (κ×α)}(J:Lists m l0){s0:S}(Spec:S->Prop)(H:∀l,Lists m l->∃s,l.foldlM f s0=some s/\Spec s)(uniq:∀s s',Spec s->Spec s'->s=s'){K:S->Option R}{Q:R->Prop}(h:∀s,Spec s->Ret (K s) Q):Ret (AAg m fun l=>(l.foldlM f s0).bind K) Q:=by
 obtain⟨r,D,I⟩:=H _ J;obtain⟨a,V,U⟩:=h r I;refine⟨a,AIE J fun l hl=>?_,U⟩;obtain⟨s,C,W⟩:=H l hl;rw[C,bindS,uniq s r W I,V]
theorem AUB{r:Report}(h:m r.of_=none):E9 (Store.mk m) r=some (Report.mk 0 0 0 0 0 0 0 0,false):=by
 unfold E9;simp[h]
theorem AUC{r o:Report}(h:m r.of_=some o):E9 (Store.mk m) r=some (o,decide (o.source=r.source/\o.account=r.account)):=by
 unfold E9;by_cases c1:o.source=r.source
 . simp[h,c1];rw[<-c1]
 . simp[h,c1]
section
variable{K:List Report}(hK:Ok K){m:A2 Int Report}(hm:Rep K m)
include hK hm
theorem ARH{r:Report}{Q:Report×Bool->Prop}(W:∀o,Aim K r o->Q (o,true))(V:∀o',(∀o,¬Aim K r o)->Q (o',false)):Ret (E9 (Store.mk m) r) Q:=by
 rcases I:m r.of_ with _|o
 . rw[AUB I];refine Ret.ok (V _ fun o H=>?_);rw[(hm _ o).2 ⟨H.1,H.2.1⟩]at I;cases I
 . obtain⟨J,U⟩:=(hm _ o).1 I;rw[AUC I];by_cases c:o.source=r.source/\o.account=r.account
   . rw[AYc c];exact Ret.ok (W o ⟨J,U,c.1,c.2⟩)
   . rw[AYY c];exact Ret.ok (V _ fun o' H=>c (by rw[<-hK.one H.1 J (by rw[H.2.1,U])];exact⟨H.2.2.1,H.2.2.2⟩))
end
def Co'(K:List Report)(i:Int)(r:Report):Prop:=∃o∈K,o.id=i/\o.kind<=7/\WdR K i none/\Co K o r
structure Dk(K:List Report)(d:Desk_139):Prop where
 reports:Rep K d.store.reports
 gone:∀i,WdR K i (d.gone i)
 fixed:∀i,∃z:Option Report,d.fixed i=z.map (·.id)/\Latest (Co' K i) K z
theorem AUD{l:List Report}(hv:VL l){known:Int}{Q:Desk_139->Prop}(h:∀d,Dk (knS l known) d->Q d):Ret (V5 l known) Q:=by
 have hK:Ok (knS l known):=ACb hv known;have hC:=hv.cons;have hl:=hv.len;generalize hKe:knS l known=K at h hK;unfold V5;refine Ret.bind (B3 l.length (fun n (t:Int×A2 Int Report)=>t.1=n/\∀i r,t.2 i=some r↔(r∈l.take n/\r.made<=known)/\r.id=i) ⟨rfl,fun i r=>by simp[fnone]⟩ ?_ ?_)
 . rintro n O ⟨_,m⟩ ⟨rfl,hm⟩;dsimp only at hm;refine Ret.condT (K5 O) (Ret.bind (C0 O (Ret.bind (Ret.cond (fun c=>?_) fun c=>?_))))
   . have c:=AYZ c;refine Ret.ok (Ret.bind (Ret.chk (by omega) (Ret.next ⟨by dsimp only;omega,fun i r=>?_⟩)));rw[B6 O];show B9 m l[n].id l[n] i=some r↔_;unfold B9;by_cases e:i=l[n].id
     . subst e;simp only[if_true];constructor
       . intro H;have:=AYS H;exact⟨⟨.inr this.symm,by rw[<-this];exact c⟩,by rw[<-this]⟩
       . rintro⟨⟨H|H,X⟩,B⟩
         . rw[hC r (AZI H) l[n] (AYg O) B]
         . rw[H]
     . simp only[e,if_false];rw[hm];constructor
       . rintro⟨⟨H,X⟩,B⟩;exact⟨⟨.inl H,X⟩,B⟩
       . rintro⟨⟨H|H,X⟩,B⟩
         . exact⟨⟨H,X⟩,B⟩
         . exact absurd (by rw[<-B,H]) e
   . have c:=AYb c;refine Ret.ok (Ret.bind (Ret.chk (by omega) (Ret.next ⟨by dsimp only;omega,fun i r=>?_⟩)));rw[B6 O];dsimp only;rw[hm];constructor
     . rintro⟨⟨H,X⟩,B⟩;exact⟨⟨.inl H,X⟩,B⟩
     . rintro⟨⟨H|H,X⟩,B⟩
       . exact⟨⟨H,X⟩,B⟩
       . exact absurd (H▸X) c
 rintro⟨_,m⟩ ⟨rfl,hm⟩;dsimp only at hm;rw[AYo]at hm;refine Ret.condF (K6 (AYh _)) (Ret.done ?_);have hm:Rep K m:=fun i r=>by rw[hm,<-hKe,kn_mem]
 have j:=hm.lists hK;have mem1:∀{lx:List (Int×Report)},Lists m lx->∀x∈lx,x.2∈K:=fun V x hx=>(hm.mem V x.2).1 (mem_map.2 ⟨x,hx,rfl⟩);refine AH4 j (fun s:A2 Int Int=>∀i,WdR K i (s i)) (fun lx V=>?_) (fun s s' u N=>funext fun i=>(u i).uniq (N i)) fun g hg=>?_
 . refine Exists.imp (fun s (h:_/\_)=>⟨h.1,fun i=>(h.2 i).congr fun r=>by rw[AYq,hm.mem V]⟩) (AB6 (fun (pre:List (Int×Report)) (s:A2 Int Int)=>∀i,Least (Wd K i) (pre.map (·.2)) (s i)) lx [] (fnone:A2 Int Int) (fun i r P=>by simp at P) (fun pre x s hx D=>?_))
   . obtain⟨xk,r⟩:=x;have P:r∈K:=mem1 V _ hx;have no:(∀i,¬Wd K i r)->∀i,Least (Wd K i) ((pre++[(xk,r)]).map (·.2)) (s i):=fun L i=>by rw[AYp];exact((D i).push r).1 (L i)
     show Ret _ fun s':A2 Int Int=>∀i,Least (Wd K i) ((pre++[(xk,r)]).map (·.2)) (s' i);refine Ret.bind (ARH hK hm (fun o T=>?_) fun o' S=>?_)
     . dsimp only;by_cases c1:r.kind=9
       . rw[AYc c1];by_cases c2:o.kind=9
         . rw[AYc c2];refine Ret.bind (Ret.condT rfl (Ret.condT rfl (Ret.ok (Ret.bind (Ret.condF rfl (Ret.ok (Ret.ok (no fun i A=>?_))))))));obtain⟨_,_,R,o2,G,H⟩:=A;exact H (by rw[hK.one G.1 T.1 (by rw[G.2.1,T.2.1])];exact c2)
         . rw[AYY c2];have A:Wd K o.id r:=⟨P,c1,T.2.1.symm,o,T,c2⟩;have oth:∀i,i≠o.id->¬Wd K i r:=fun i hi A=>hi (by rw[T.2.1,A.2.2.1]);refine Ret.bind (Ret.condT rfl (Ret.condT rfl (Ret.ok (Ret.bind (Ret.condT rfl (Ret.bind ?_))))));have put:(s o.id=none\/∃y,s o.id=some y/\r.id<y)->∀i,Least (Wd K i) ((pre++[(xk,r)]).map (·.2)) (B9 s o.id r.id i):=fun C i=>by
            rw[AYp];unfold B9;by_cases e:i=o.id
            . subst e;rw[AYf rfl];exact((D _).push r).2.1 A C
            . rw[if_neg e];exact((D i).push r).1 (oth i e)
           cases C:s o.id with
           |none=>exact Ret.condT rfl (Ret.ok (Ret.bind (Ret.condT rfl (Ret.ok (Ret.ok (Ret.ok (put (.inl C))))))))
           |some y=>
            refine Ret.condF rfl (Ret.ok ?_)
            by_cases c3:r.id<y
            . rw[AYc (show r.id<(some y).getD 0 from c3)]
              exact Ret.bind (Ret.condT rfl (Ret.ok (Ret.ok (Ret.ok (put (.inr ⟨y,C,c3⟩))))))
            . rw[AYY (show ¬r.id<(some y).getD 0 from c3)]
              refine Ret.bind (Ret.condF rfl (Ret.ok (Ret.ok (Ret.ok fun i=>?_))))
              rw[AYp]
              by_cases e:i=o.id
              . subst e;exact((D _).push r).2.2 A y C (by omega)
              . exact((D i).push r).1 (oth i e)
       . rw[AYY c1];exact Ret.bind (Ret.condF rfl (Ret.ok (Ret.bind (Ret.condF rfl (Ret.ok (Ret.ok (no fun i A=>c1 A.2.1)))))))
     . dsimp only;have L:∀i,¬Wd K i r:=fun i A=>by
        obtain⟨_,_,_,o2,G,_⟩:=A;exact S o2 G
       refine Ret.bind (Ret.cond (fun _=>Ret.condF rfl (Ret.ok ?_)) fun _=>Ret.ok ?_)<;>exact Ret.bind (Ret.condF rfl (Ret.ok (Ret.ok (no L))))
 refine AH4 j (fun s:A2 Int Int=>∀i,∃z:Option Report,s i=z.map (·.id)/\Latest (Co' K i) K z) (fun lx V=>?_) (fun s s' u N=>funext fun i=>?_) fun f hf=>?_
 . refine Exists.imp (fun s (h:_/\_)=>⟨h.1,fun i=>(by
    obtain⟨z,C,I⟩:=h.2.2 i;exact⟨z,C,I.congr fun r=>by rw[AYq,hm.mem V]⟩)⟩) (AB6 (fun (pre:List (Int×Report)) (s:A2 Int Int)=>(∀x∈pre,x.2∈K)/\∀i,∃z:Option Report,s i=z.map (·.id)/\Latest (Co' K i) (pre.map (·.2)) z) lx [] (fnone:A2 Int Int) ⟨(fun x hx=>by simp at hx),fun i=>⟨none,rfl,fun r P=>by simp at P⟩⟩ (fun pre x s hx D=>?_))
   . obtain⟨xk,r⟩:=x;have P:r∈K:=mem1 V _ hx;obtain⟨Z,D⟩:=D;have hpre':∀x∈pre++[(xk,r)],x.2∈K:=fun x hx=>by
      rcases mem_append.1 hx with H|H
      . exact Z x H
      . have:x=(xk,r):=by simpa using H
        rw[this];exact P
     have no:(∀i,¬Co' K i r)->(∀x∈pre++[(xk,r)],x.2∈K)/\∀i,∃z:Option Report,s i=z.map (·.id)/\Latest (Co' K i) ((pre++[(xk,r)]).map (·.2)) z:=fun L=>⟨hpre',fun i=>by
      obtain⟨z,C,I⟩:=D i;rw[AYp];exact⟨z,C,(I.push r).1 (L i)⟩⟩
     show Ret _ fun s':A2 Int Int=>(∀x∈pre++[(xk,r)],x.2∈K)/\∀i,∃z:Option Report,s' i=z.map (·.id)/\Latest (Co' K i) ((pre++[(xk,r)]).map (·.2)) z;refine Ret.bind (ARH hK hm (fun o T=>?_) fun o' S=>?_)
     . dsimp only;have hov:=hK.v o T.1;have one:∀{i o2},o2∈K->o2.id=i->Co K o2 r->o2=o:=fun E _ R=>hK.one E T.1 (by rw[R.2.1.2.1,T.2.1]);by_cases c1:r.kind=8
       . rw[AYc c1];refine Ret.bind (Ret.condF rfl (Ret.condF rfl ?_));unfold H6;refine Ret.bind (Ret.ok ?_);by_cases c2:o.kind<=7
         . refine Ret.condF (by simp;exact c2) ?_;rw[AK5 hov.1,ADl (by simp),bindS];by_cases c3:0<=r.cents/\r.cents<=most o.kind
           . refine Ret.condF (by simp[inB,c3]) ?_;unfold R1;refine Ret.bind (Ret.ok ?_);dsimp only;have gs:∀i,(g i).isSome=true↔¬WdR K i none:=fun i=>by
              cases k:g i with
              |none=>simp;have:=hg i;rw[k]at this;exact this
              |some y=>simp;intro H;have:=(hg i).uniq H;rw[k]at this;cases this
             by_cases c4:(g r.id).isSome=true
             . rw[c4];exact Ret.condT rfl (Ret.ok (Ret.condT rfl (Ret.ok (no fun i U=>by
                obtain⟨o2,_,_,_,_,W⟩:=U;exact(gs r.id).1 c4 W.2.2.2))))
             . have c4':(g r.id).isSome=false:=by simpa using c4
               rw[c4'];refine Ret.condF rfl (Ret.bind (Ret.ok ?_));by_cases c5:(g o.id).isSome=true
               . rw[c5];exact Ret.ok (Ret.condT rfl (Ret.ok (no fun i U=>by
                  obtain⟨o2,E,Y,_,h4,W⟩:=U;have:=one E Y W;subst this;exact(gs o2.id).1 c5 (Y▸h4))))
               . have c5':(g o.id).isSome=false:=by simpa using c5
                 rw[c5'];refine Ret.ok (Ret.condF rfl ?_);have w1:WdR K r.id none:=AZ8 fun H=>c4 ((gs r.id).2 H);have w2:WdR K o.id none:=AZ8 fun H=>c5 ((gs o.id).2 H);have U:Co' K o.id r:=⟨o,T.1,rfl,c2,w2,c1,T,c3,w1⟩;have oth:∀i,i≠o.id->¬Co' K i r:=fun i hi U=>by
                  obtain⟨o2,E,Y,_,_,W⟩:=U;exact hi (by rw[<-Y,one E Y W])
                 obtain⟨z,C,I⟩:=D o.id;have put:(z=none\/∃y,z=some y/\(y.made<r.made\/y.made=r.made/\y.id<r.id))->(∀x∈pre++[(xk,r)],x.2∈K)/\∀i,∃z:Option Report,(B9 s o.id r.id) i=z.map (·.id)/\Latest (Co' K i) ((pre++[(xk,r)]).map (·.2)) z:=fun H=>⟨hpre',fun i=>by
                  rw[AYp];unfold B9;by_cases e:i=o.id
                  . subst e;rw[AYf rfl];exact⟨some r,rfl,(I.push r).2.1 U H⟩
                  . rw[if_neg e];obtain⟨z',F,J⟩:=D i;exact⟨z',F,(J.push r).1 (oth i e)⟩⟩
                 have keep:∀y,z=some y->¬(y.made<r.made\/y.made=r.made/\y.id<r.id)->(∀x∈pre++[(xk,r)],x.2∈K)/\∀i,∃z:Option Report,s i=z.map (·.id)/\Latest (Co' K i) ((pre++[(xk,r)]).map (·.2)) z:=fun y hy H=>⟨hpre',fun i=>by
                  rw[AYp];by_cases e:i=o.id
                  . subst e;exact⟨z,C,(I.push r).2.2 U y hy H⟩
                  . obtain⟨z',F,J⟩:=D i;exact⟨z',F,(J.push r).1 (oth i e)⟩⟩
                 refine Ret.bind ?_;rw[C];cases z with
                 |none=>exact Ret.condT rfl (Ret.ok (Ret.bind (Ret.condT rfl (Ret.ok (Ret.ok (put (.inl rfl)))))))
                 |some y=>
                  have p:y∈K:=by
                   obtain⟨q,k,v⟩:=mem_map.1 I.1;rw[<-v];exact Z q k
                  have hmy:m y.id=some y:=(hm _ _).2 ⟨p,rfl⟩
                  refine Ret.condF rfl (Ret.bind (Ret.val p_cmp (Ret.bind (Ret.val p_cmp (Ret.bind (Ret.val p_Or ?_))))))
                  have M:((some y).map (·.id)).getD 0=y.id:=rfl
                  rw[M,hmy]
                  simp only[Option.getD_some]
                  have bd:∀a b:Int,-1<=R6 a b/\R6 a b<=1:=fun a b=>by unfold R6;split<;>(try split)<;>omega
                  have b1:=bd y.made r.made
                  have b2:=bd y.id r.id
                  refine Ret.ok ?_
                  have key:decide ((if R6 y.made r.made=0 then R6 y.id r.id else R6 y.made r.made)<0)=decide (y.made<r.made\/y.made=r.made/\y.id<r.id):=by
                   rw[decide_eq_decide];unfold R6;by_cases E:y.made<r.made
                   . simp[E]
                   . by_cases Y:r.made<y.made
                     . simp[E,Y];omega
                     . have:y.made=r.made:=by omega
                       simp[this];by_cases R:y.id<r.id
                       . simp[R]
                       . simp[R];split<;>omega
                  rw[key]
                  by_cases c6:y.made<r.made\/y.made=r.made/\y.id<r.id
                  . rw[AYc c6]
                    exact Ret.bind (Ret.condT rfl (Ret.ok (Ret.ok (put (.inr ⟨y,rfl,c6⟩)))))
                  . rw[AYY c6]
                    exact Ret.bind (Ret.condF rfl (Ret.ok (Ret.ok (keep y rfl c6))))
           . have hx:([r.cents].all (inB 0 (most o.kind)))=false:=by simp only[List.all_cons,List.all_nil,Bool.and_true,inB];exact AYY c3
             rw[hx];exact Ret.condT rfl (Ret.ok (Ret.condT rfl (Ret.ok (no fun i U=>by
              obtain⟨o2,E,Y,_,_,W⟩:=U;rw[one E Y W]at W;exact c3 W.2.2.1))))
         . refine Ret.condT (by simp;omega) (Ret.ok (Ret.condT rfl (Ret.ok (no fun i U=>?_))));obtain⟨o2,E,Y,R,_,W⟩:=U;rw[one E Y W]at R;exact c2 R
       . rw[AYY c1];exact Ret.bind (Ret.condT rfl (Ret.ok (Ret.condT rfl (Ret.ok (no fun i U=>by
          obtain⟨o2,_,_,_,_,W⟩:=U;exact c1 W.1)))))
     . dsimp only;have L:∀i,¬Co' K i r:=fun i U=>by
        obtain⟨o2,_,_,_,_,W⟩:=U;exact S o2 W.2.1
       refine Ret.bind (Ret.cond (fun _=>Ret.ok ?_) fun _=>Ret.condT rfl (Ret.ok ?_))<;>exact Ret.condT rfl (Ret.ok (no L))
 . obtain⟨z,C,I⟩:=u i;obtain⟨z',F,J⟩:=N i;rw[C,F,Latest.uniq hK I J]
 . exact Ret.ok (h _ ⟨hm,hg,hf⟩)
end S
namespace S
def ANh(r o:Report):Bool:=decide (o.id=r.of_/\o.source=r.source/\o.account=r.account)
def wdB(K:List Report)(i:Int)(r:Report):Bool:=decide (r.kind=9/\r.of_=i)&&K.any fun o=>ANh r o&&decide (o.kind≠9)
def P4(K:List Report)(i:Int):Bool:=K.any (wdB K i)
def coB(K:List Report)(o r:Report):Bool:=decide (r.kind=8/\0<=r.cents/\r.cents<=most o.kind)&&(ANh r o&&!P4 K r.id)
def ALF(K:List Report)(o:Report)(z:Option Report)(r:Report):Option Report:=if coB K o r then match z with
 |none=>some r
 |some y=>if y.made<r.made\/y.made=r.made/\y.id<r.id then some r else some y else z
def AIj(K:List Report)(o:Report):Option Report:=K.foldl (ALF K o) none
def fix(K:List Report)(o:Report):Report:=match AIj K o with
 |none=>o
 |some c=>Report.mk o.id o.source o.account o.made c.about o.kind c.cents o.of_
def T(K:List Report):List Report:=(K.filter fun o=>decide (o.kind<=7)&&!P4 K o.id).map (fix K)
variable{K:List Report}{i:Int}{o:Report}{α:Type}
theorem AMT{r:Report}(V:r∈K):wdB K i r=true↔Wd K i r:=by
 unfold wdB Wd Aim ANh;rw[Bool.and_eq_true,decide_eq_true_iff,AZq];constructor
 . rintro⟨⟨U,J⟩,o,I,H⟩;rw[Bool.and_eq_true,decide_eq_true_iff,decide_eq_true_iff]at H;exact⟨V,U,J,o,⟨I,H.1⟩,H.2⟩
 . rintro⟨_,U,J,o,⟨I,H⟩,W⟩;exact⟨⟨U,J⟩,o,I,by rw[Bool.and_eq_true,decide_eq_true_iff,decide_eq_true_iff];exact⟨H,W⟩⟩
theorem gone_iff:P4 K i=false↔WdR K i none:=by
 unfold P4 WdR Least;rw[List.any_eq_false];constructor
 . intro h r H I;exact h r H ((AMT H).2 I)
 . intro h r H I;exact h r H ((AMT H).1 I)
theorem AF7{o r:Report}(V:o∈K):coB K o r=true↔Co K o r:=by
 unfold coB Co Aim ANh;rw[Bool.and_eq_true,Bool.and_eq_true,decide_eq_true_iff,decide_eq_true_iff,Bool.not_eq_true',gone_iff];constructor
 . rintro⟨⟨U,J⟩,I,H⟩;exact⟨U,⟨V,I⟩,J,H⟩
 . rintro⟨U,⟨_,I⟩,J,H⟩;exact⟨⟨U,J⟩,I,H⟩
theorem ABu(I:o∈K):Latest (Co K o) K (AIj K o):=by
 have key:∀(l p:List Report) (z:Option Report),Latest (Co K o) p z->Latest (Co K o) (p++l) (l.foldl (ALF K o) z):=by
  intro l;induction l with
  |nil=>intro p z h;simpa using h
  |cons r l ih=>
   intro p z h
   have:p++r::l=(p++[r])++l:=by simp
   rw[this]
   refine ih _ _ ?_
   obtain⟨p1,p2,p3⟩:=h.push r
   unfold ALF
   by_cases c:coB K o r=true
   . rw[AYf c]
     have c:=(AF7 I).1 c
     cases z with
     |none=>exact p2 c (.inl rfl)
     |some y=>
      dsimp only
      split
      . rename_i H;exact p2 c (.inr ⟨y,rfl,H⟩)
      . rename_i H;exact p3 c y rfl H
   . rw[if_neg c]
     exact p1 fun H=>c ((AF7 I).2 H)
 have:=key K [] none (fun r J=>by cases J);rw[AYq]at this;exact this
theorem AH5(o:Report):(fix K o).id=o.id:=by
 unfold fix;split<;>rfl
theorem T_mem{r:Report}:r∈T K↔∃o∈K,o.kind<=7/\WdR K o.id none/\r=fix K o:=by
 unfold T;rw[AZY];constructor
 . rintro⟨o,H,rfl⟩;rw[List.mem_filter,Bool.and_eq_true,decide_eq_true_iff,Bool.not_eq_true',gone_iff]at H;exact⟨o,H.1,H.2.1,H.2.2,rfl⟩
 . rintro⟨o,U,J,I,rfl⟩;exact⟨o,List.mem_filter.2 ⟨U,by rw[Bool.and_eq_true,decide_eq_true_iff,Bool.not_eq_true',gone_iff];exact⟨J,I⟩⟩,rfl⟩
theorem AG5(hK:Ok K):((T K).map (·.id)).Nodup:=by
 unfold T;rw[AY3];have:(fun r:Report=>r.id) ∘ fix K=fun r=>r.id:=funext fun o=>AH5 o;rw[this];exact(AZ1 _ AZG).nodup hK.nd
theorem AJh(hK:Ok K):(T K).length<=60:=by
 unfold T;rw[AY1];exact AYk (AZZ _ _) hK.len
theorem AMU(hK:Ok K)(H:o∈K){z:Option Report}(h:Latest (Co K o) K z):AIj K o=z:=Latest.uniq hK (ABu H) h
def cv(d:Desk_139)(o:Report):Report:=match d.fixed o.id with
 |none=>o
 |some j=>Report.mk o.id o.source o.account o.made ((d.store.reports j).getD (Report.mk 0 0 0 0 0 0 0 0)).about o.kind ((d.store.reports j).getD (Report.mk 0 0 0 0 0 0 0 0)).cents o.of_
theorem ARI{p q:Prop}[Decidable p][Decidable q](h:p↔q){a b:α}:(if p then a else b)=if q then a else b:=by
 by_cases c:p
 . rw[AYf c,AYf (h.1 c)]
 . rw[if_neg c,if_neg fun c'=>c (h.2 c')]
theorem AH6{α β:Type}{f:α->β}{l:List α}(h:(l.map f).Nodup):l.Nodup:=(List.pairwise_map.1 h).imp fun h e=>h (AYe f e)
theorem ALG:∀(l:List (Int×Report)) (pre:List Report),pre.length+l.length<=1000000->List.foldlM (m:=Option) (s:=((List Report))) (α:=Int×Report) (fun x37 (k38,v39)=>(appo 64 x37 ([v39])).bind fun l40=>some l40) pre l=some (pre++l.map (·.2))
 |[],pre,_=>by simp
 |x::l,pre,h=>by
  rw[AZP]at h;obtain⟨k,v⟩:=x;rw[AZf];dsimp only;rw[AAR (by simp;omega) (by simp;omega)];show List.foldlM _ (pre++[v]) l=_;rw[ALG l (pre++[v]) (by simp;omega)];simp
section
variable{K:List Report}(hK:Ok K){d:Desk_139}(hd:Dk K d)
include hK hd
theorem ARJ{i:Int}:d.gone i=none↔WdR K i none:=by
 constructor
 . intro h;have:=hd.gone i;rwa [h]at this
 . intro h;exact(hd.gone i).uniq h
theorem AUE{o:Report}(H:o∈K)(J:o.kind<=7)(I:WdR K o.id none)(r:Report):Co' K o.id r↔Co K o r:=by
 constructor
 . rintro⟨o2,V,U,_,_,W⟩;rwa [<-hK.one V H U]
 . intro h;exact⟨o,H,rfl,J,I,h⟩
theorem AQV{o:Report}(I:o∈K)(J:o.kind<=7)(H:WdR K o.id none):∃z:Option Report,d.fixed o.id=z.map (·.id)/\Latest (Co K o) K z:=by
 obtain⟨z,V,U⟩:=hd.fixed o.id;exact⟨z,V,U.congr fun r=>and_congr_right fun _=>AUE hK hd I J H r⟩
theorem AO8{o:Report}(H:o∈K)(V:o.kind<=7)(J:WdR K o.id none):cv d o=fix K o:=by
 obtain⟨z,W,I⟩:=AQV hK hd H V J;unfold cv fix;rw[AMU hK H I,W];cases z with
 |none=>rfl
 |some c=>
  have U:c∈K:=I.1
  simp only[Option.map_some,(hd.reports c.id c).2 ⟨U,rfl⟩,Option.getD_some]
theorem AWV:Lists d.gone ((K.filter fun o=>(d.gone o.id).isSome).map fun o=>(o.id,(d.gone o.id).getD 0)):=by
 refine⟨?_,fun a y=>?_⟩
 . rw[AY3];exact(AZ1 _ AZG).nodup hK.nd
 . rw[AZY];constructor
   . rintro⟨o,H,e⟩;rw[List.mem_filter]at H;obtain⟨z,J⟩:=Option.isSome_iff_exists.1 H.2;cases e
     rw[J];rfl
   . intro h;have:=hd.gone a;rw[h]at this;obtain⟨r,_,⟨_,_,U,o,I,_⟩,_⟩:=this;have e:o.id=a:=by rw[I.2.1,U]
     refine⟨o,List.mem_filter.2 ⟨I.1,by rw[e,h];rfl⟩,by rw[e,h];rfl⟩
open Classical in
theorem ASO{Q:List Report->Prop}(h:∀out,out.Perm (T K)->out.Pairwise (N8 (·.about) (·.id))->Q out):Ret (M3 d) Q:=by
 have M:=hd.reports.lists hK;have v:=hK.len;unfold M3;refine Ret.bind ?_;unfold Z1;refine AH4 M (fun s:A2 Int Report=>∀i r',s i=some r'↔∃o∈K,o.id=i/\o.kind<=7/\r'=cv d o) (fun lx W=>?_) (fun s s' P O=>funext fun i=>AaP fun r'=>(P i r').trans (O i r').symm) fun m1 Z=>?_
 . refine Exists.imp (fun s (h:_/\_)=>⟨h.1,fun i r'=>(h.2.2 i r').trans (by
    constructor
    . rintro⟨o,U,H⟩;exact⟨o,by rwa [AYq,hd.reports.mem W]at U,H⟩
    . rintro⟨o,U,H⟩;exact⟨o,by rwa [AYq,hd.reports.mem W],H⟩)⟩) (AB6 (fun (pre:List (Int×Report)) (s:A2 Int Report)=>(∀x∈pre,x.2∈K)/\∀i r',s i=some r'↔∃o∈pre.map (·.2),o.id=i/\o.kind<=7/\r'=cv d o) lx [] (fnone:A2 Int Report) ⟨(fun x hx=>by simp at hx),fun i r'=>by simp[fnone]⟩ (fun pre x s hx B=>?_))
   obtain⟨xk,o⟩:=x;obtain⟨U,S⟩:=(hd.reports xk o).1 ((W.2 _ _).1 hx);subst S;obtain⟨E,B⟩:=B;have hpre':∀x∈pre++[(o.id,o)],x.2∈K:=fun x hx=>by
    rcases mem_append.1 hx with H|H
    . exact E x H
    . have:x=(o.id,o):=by simpa using H
      rw[this];exact U
   show Ret _ fun s':A2 Int Report=>(∀x∈pre++[(o.id,o)],x.2∈K)/\∀i r',s' i=some r'↔∃o'∈(pre++[(o.id,o)]).map (·.2),o'.id=i/\o'.kind<=7/\r'=cv d o';have fin:∀a c,cv d o=Report.mk o.id o.source o.account o.made a o.kind c o.of_->Ret ((H6 (Report.mk o.id o.source o.account o.made a o.kind c o.of_)).bind fun r19=>Option.bind (α:=((A2 Int Report))) (cond (r19) (some (B9 s o.id (Report.mk o.id o.source o.account o.made a o.kind c o.of_))) (some s)) ((fun x20=>some x20))) fun s':A2 Int Report=>(∀x∈pre++[(o.id,o)],x.2∈K)/\∀i r',s' i=some r'↔∃o'∈(pre++[(o.id,o)]).map (·.2),o'.id=i/\o'.kind<=7/\r'=cv d o':=fun a c e=>by
    rw[<-e];refine Ret.bind (Ret.val (show H6 (cv d o)=some (decide (o.kind<=7)) by rw[e];rfl) (Ret.bind (Ret.cond (fun V=>Ret.ok (Ret.ok ⟨hpre',fun i r'=>?_⟩)) fun V=>Ret.ok (Ret.ok ⟨hpre',fun i r'=>?_⟩))))
    . have V:=AYZ V;rw[AYp];unfold B9;by_cases ei:i=o.id
      . subst ei;rw[AYf rfl];constructor
        . intro H;exact⟨o,mem_append.2 (.inr (by simp)),rfl,V,(AYS H).symm⟩
        . rintro⟨o',J,I,g,f⟩;have:o'=o:=by
           rcases mem_append.1 J with H|H
           . obtain⟨x,N,rfl⟩:=mem_map.1 H;exact hK.one (E x N) U I
           . simpa using H
          rw[f,this]
      . rw[if_neg ei,B];constructor
        . rintro⟨o',J,I⟩;exact⟨o',mem_append.2 (.inl J),I⟩
        . rintro⟨o',J,I⟩;rcases mem_append.1 J with H|H
          . exact⟨o',H,I⟩
          . have:o'=o:=by simpa using H
            exact absurd (by rw[<-I.1,this]) ei
    . have V:=AYb V;rw[AYp,B];constructor
      . rintro⟨o',J,I⟩;exact⟨o',mem_append.2 (.inl J),I⟩
      . rintro⟨o',J,I⟩;rcases mem_append.1 J with H|H
        . exact⟨o',H,I⟩
        . have:o'=o:=by simpa using H
          exact absurd (this▸I.2.1) V
   have e1:cv d o=Report.mk o.id o.source o.account o.made (if (d.fixed o.id).isSome then((d.store.reports ((d.fixed o.id).getD 0)).getD (Report.mk 0 0 0 0 0 0 0 0)).about else o.about) o.kind (if (d.fixed o.id).isSome then((d.store.reports ((d.fixed o.id).getD 0)).getD (Report.mk 0 0 0 0 0 0 0 0)).cents else o.cents) o.of_:=by
    unfold cv;cases d.fixed o.id with
    |none=>rfl
    |some j=>rfl
   refine Ret.bind ?_;cases k:d.fixed o.id with
   |none=>
    rw[k]at e1
    exact Ret.condF rfl (Ret.ok (fin _ _ e1))
   |some j=>
    rw[k]at e1
    exact Ret.condT rfl (Ret.ok (fin _ _ e1))
 refine AH4 (AWV hK hd) (fun s:A2 Int Report=>∀i,s i=if (d.gone i).isSome then none else m1 i) (fun lx W=>?_) (fun s s' P O=>funext fun i=>(P i).trans (O i).symm) fun m2 L=>?_
 . classical
   refine Exists.imp (fun s (h:_/\_)=>⟨h.1,fun i=>(h.2 i).trans (ARI ?_)⟩) (AB6 (fun (pre:List (Int×Int)) (s:A2 Int Report)=>∀i,s i=if ∃y,(i,y)∈pre then none else m1 i) lx [] m1 (fun i=>by simp) (fun pre x s hx B=>⟨_,rfl,fun i=>?_⟩))
   . unfold AAE;by_cases e:i=x.1
     . rw[AYf e,AYf ⟨x.2,mem_append.2 (.inr (by rw[e];simp))⟩]
     . rw[if_neg e,B];refine ARI (exists_congr fun y=>?_);rw[AYx];constructor
       . exact .inl
       . rintro (H|H)
         . exact H
         . have:(i,y)=x:=by simpa using H
           exact absurd (by rw[<-this]) e
   . rw[AYq,Option.isSome_iff_exists];exact exists_congr fun y=>W.2 i y
 have C:Lists m2 ((T K).map fun r=>(r.id,r)):=by
  refine⟨by rw[AY3];exact AG5 hK,fun a y=>?_⟩;rw[L,AZY];constructor
  . rintro⟨r,q,e⟩;cases e
    obtain⟨o,U,Y,G,rfl⟩:=T_mem.1 q;rw[AH5,(ARJ hK hd).2 G];exact(Z _ _).2 ⟨o,U,rfl,Y,(AO8 hK hd U Y G).symm⟩
  . intro V;split at V
    . cases V
    rename_i J;obtain⟨o,U,rfl,Y,rfl⟩:=(Z _ _).1 V;have G:WdR K o.id none:=(ARJ hK hd).1 (by simpa using J);rw[AO8 hK hd U Y G];exact⟨fix K o,T_mem.2 ⟨o,U,Y,G,rfl⟩,by rw[AH5]⟩
 have X:∀l,Lists m2 l->(l.map (·.2)).Perm (T K):=fun l hl=>by
  have:l.Perm ((T K).map fun r=>(r.id,r)):=by
   refine(AY9 ?_ ?_).2 fun p=>?_
   . exact AH6 hl.1
   . exact AH6 C.1
   . obtain⟨a,y⟩:=p;exact(hl.2 a y).trans (C.2 a y).symm
  have:=this.map (·.2);rwa [AY3,show((fun p:Int×Report=>p.2) ∘ fun r:Report=>(r.id,r))=id from rfl,List.map_id]at this
 have one:∀{l:List Report},l.Perm (T K)->∀a b,a∈l->b∈l->a.about=b.about->a.id=b.id->a=b:=fun A a b u t _ e=>AB4 (AG5 hK) a b (A.mem_iff.1 u) (A.mem_iff.1 t) e;have F:∀l,Lists m2 l->Ret ((List.foldlM (m:=Option) (s:=((List Report))) (α:=Int×Report) (fun x37 (k38,v39)=>(appo 64 x37 ([v39])).bind fun l40=>some l40) ([]:List Report) l).bind fun x42=>(F2 ([(107:Nat),(108:Nat)]) x42).bind fun (_,m43)=>some (m43,(m43.length:Int),(0:Int))) fun z=>(z.1.Perm (T K)/\z.1.Pairwise (N8 (·.about) (·.id)))/\z=(z.1,(z.1.length:Int),(0:Int)):=fun l hl=>by
  have A:=X l hl;have R:=A.length_eq;have:=AJh hK;rw[AY1]at R;rw[ALG l [] (by simp;omega),AYq,bindS];have U:=ANg (x:=l.map (·.2)) (cmp:=fun a b=>J5 a b [107,108]) (k1:=(·.about)) (k2:=(·.id)) (fun a b=>AIi (D:=fd160.D) (fun _=>rfl) (fun _=>rfl)) (one A) (by rw[AY1];omega);exact Ret.bind (Ret.bind (U.mono fun m hm=>Ret.ok (Ret.ok ⟨⟨hm.1.trans A,hm.2⟩,rfl⟩)))
 obtain⟨z,V,⟨J,I⟩,g⟩:=F _ C;refine⟨z,AIE C fun l hl=>?_,?_⟩
 . obtain⟨z',f,⟨n,Y⟩,h8⟩:=F l hl;rw[f,g,h8,AG4 (n.trans J.symm) Y I (one n)]
 . rw[g];exact Ret.condT (by simp) (Ret.ok (h _ J I))
theorem AO9(I:∀r∈K,InR r){Q:List Report->Prop}(h:∀out,out.Perm (T K)->out.Pairwise (N8 (·.about) (·.id))->Q out):Ret (F8 d) Q:=by
 unfold F8;refine Ret.bind (ASO hK hd fun out H J=>?_);have W:=H.length_eq;have:=AJh hK;rw[AYf]
 . exact Ret.ok (h out H J)
 refine⟨by omega,fun r C=>?_⟩;obtain⟨o,V,F,E,rfl⟩:=T_mem.1 (H.mem_iff.1 C);have U:=ABu (K:=K) V;unfold fix;have H:=I o V;cases D:AIj K o with
 |none=>exact H
 |some c=>
  rw[D]at U
  have J:=I c U.1
  exact⟨H.1,H.2.1,H.2.2.1,H.2.2.2.1,J.2.2.2.2.1,H.2.2.2.2.2.1,J.2.2.2.2.2.2.1,H.2.2.2.2.2.2.2⟩
end
theorem AXp{r:Report}(h:V r):InR r:=by
 obtain⟨c1,c2,c3,c4,c5,c6,c7,c8,_⟩:=h;have hm:most r.kind<=1000000000000:=by unfold most;split<;>(try split)<;>omega
 exact⟨InK.i64.2 (by omega),InK.i64.2 (by omega),InK.i64.2 (by omega),InK.i64.2 (by omega),InK.i64.2 (by omega),InK.u8.2 (by omega),InK.i64.2 (by omega),InK.i64.2 (by omega)⟩
structure St(l:List Report)(known:Int)(out:List Report):Prop where
 perm:out.Perm (T (knS l known))
 ord:out.Pairwise (N8 (·.about) (·.id))
theorem ANi{l:List Report}(h:VL l){known:Int}(hk:0<=known/\known<=100000):Ret (J9 l known) fun z=>z.2=0/\St l known z.1:=by
 unfold J9 U0;rw[AIc h];refine Ret.bind ?_;rw[bindS];refine Ret.condF (by decide) ?_;rw[ADl (by simp),bindS,show([known].all (inB 0 100000))=true by simp[inB,hk]];refine Ret.condF rfl (Ret.ok (B8 (Ret.bind (AUD h fun D hD=>?_))));exact Ret.bind (AO9 (ACb h known) hD (fun r H=>AXp ((ACb h known).v r H)) fun out J I=>Ret.ok ⟨rfl,J,I⟩)
end S
namespace S
theorem AMV{α:Type}{l l':List α}(h:∀x,x∈l↔x∈l')(p:α->Bool):l.any p=l'.any p:=by
 rw[Bool.eq_iff_iff,AZq,AZq];exact⟨fun⟨x,I,H⟩=>⟨x,(h x).1 I,H⟩,fun⟨x,I,H⟩=>⟨x,(h x).2 I,H⟩⟩
section
variable{K K':List Report}(hm:∀r,r∈K↔r∈K')
include hm
theorem AG6(i:Int):P4 K i=P4 K' i:=by
 have:wdB K i=wdB K' i:=by funext r;unfold wdB;rw[AMV hm]
 unfold P4;rw[this,AMV hm]
theorem AQW(hK:Ok K){o:Report}(H:o∈K):AIj K o=AIj K' o:=by
 have e:∀r,r∈K'/\Co K' o r↔r∈K/\Co K o r:=fun r=>by
  rw[<-AF7 H,<-AF7 ((hm o).1 H),hm r];have:coB K o r=coB K' o r:=by unfold coB;rw[AG6 hm]
  rw[this]
 exact Latest.uniq hK (ABu H) ((ABu ((hm o).1 H)).congr e)
theorem AMW(hK:Ok K){o:Report}(H:o∈K):fix K o=fix K' o:=by
 unfold fix;rw[AQW hm hK H]
theorem AUF(hK:Ok K)(r:Report):r∈T K↔r∈T K':=by
 unfold T;rw[AZY,AZY];constructor
 . rintro⟨o,I,rfl⟩;obtain⟨H,J⟩:=List.mem_filter.1 I;exact⟨o,List.mem_filter.2 ⟨(hm o).1 H,by rw[<-AG6 hm];exact J⟩,(AMW hm hK H).symm⟩
 . rintro⟨o,I,rfl⟩;obtain⟨H,J⟩:=List.mem_filter.1 I;exact⟨o,List.mem_filter.2 ⟨(hm o).2 H,by rw[AG6 hm];exact J⟩,AMW hm hK ((hm o).2 H)⟩
end
end S
end Go.Proofs.YtgioiejbphljoaaGreatDoor
end
