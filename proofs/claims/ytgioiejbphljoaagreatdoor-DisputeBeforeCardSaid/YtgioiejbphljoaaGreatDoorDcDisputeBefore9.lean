/-
  What DisputeBefore stands on, part 9: memory, code, plain reckoning.
-/
import Derived.Shelf.Spec.SlicesGrow
import Derived.Test.YtgioiejbphljoaaGreatDoorDcDisputeBefore8
open List (mem_append mem_cons mem_map mem_of_getElem? mem_singleton toArray)
open Nat (blt)
open Go.Proofs.Tryz
set_option linter.unusedVariables false
set_option linter.unusedSectionVars false
set_option maxRecDepth 20000
set_option maxHeartbeats 4000000
noncomputable section
namespace Go.Proofs.YtgioiejbphljoaaGreatDoor
open Go Go.Sx Go.Rx Go.RowKit
def rawE:Enc Value:=⟨1,Nat.one_pos,fun _ _ cs x=>cs=[x]/\x.oneCell'=true,fun h=>by rw[h.1];rfl,fun _ h=>h,fun _ h=>h,fun h u hu=>by rw[h.1]at hu;rw[mem_singleton.1 hu];exact h.2⟩
abbrev K3:Ky prog 3 Int:=V6 .i64 underlying3
def AGK(x:Answer):List Value:=[.int .i64 x.id,.int .i64 x.dispute,.int .i64 x.day,.int .u8 x.says,.int .i64 x.about,.int .i64 x.cents]
def InA(x:Answer):Prop:=InK .i64 x.id/\InK .i64 x.dispute/\InK .i64 x.day/\InK .u8 x.says/\InK .i64 x.about/\InK .i64 x.cents
theorem AZV{M:List Nat}{w:World}{x:Answer}(h:InA x):AnswerE.R M w (AGK x) x:=AnswerE_R.2 ⟨rfl,h⟩
noncomputable def r70:Code:=match f70.body with
 |some (.seq _ (.seq _ (.seq _ (.seq _ (.seq (.seq _ (.block _ (.loop (.seq _ (.seq _ (.seq (.block _ (.seq _ r)) _)))))) _)))))=>r
 |_=>.skip
def o70:List Oper:=match r70 with
 |.region _ l _=>l.toList
 |_=>[]
def AOs:List Nat:=[51,52,53,54,55,56,57,58,59,60,61,62]
def HA(w0 w:World)(M:List Nat)(σ σ':List Res)(W:World):Prop:=Hp w0 [] M σ' W/\Adv (mm σ M) (mm σ' M) w W
structure J70(w0 w1:World)(M:List Nat)(σ:List Res)(i jm b4 b11 bm:Nat)(v:Value)(l:List Answer)(a:Answer)(g:A4 Int Value)(L0:A8)(D:Nat->Bool)(L:A8)(W:World):Prop where
 base:∀t,t∉AOs->Sx.A6 L t=Sx.A6 L0 t
 f0:D 0=true->Sx.A6 L 51=some (.pointer (some ⟨b4,7,none⟩))
 f1:D 1=true->Sx.A6 L 52=some (.map (some bm))
 f2:D 2=true->Sx.A6 L 53=some (.pointer (some ⟨b11,1,none⟩))
 f3:D 3=true->Sx.A6 L 54=some (.int .i64 a.dispute)
 f4:D 4=true->Sx.A6 L 55=some (.pointer (some ⟨b4,7,none⟩))
 f5:D 5=true->Sx.A6 L 56=some (.map (some bm))
 f6:D 6=true->Sx.A6 L 57=some (.pointer (some ⟨b11,1,none⟩))
 f7:D 7=true->Sx.A6 L 58=some (.int .i64 a.dispute)
 f8:D 8=true->Sx.A6 L 59=some v
 f9:D 9=true->Sx.A6 L 60=some (.agg (toArray (AGK a)))
 r10:D 10=true->D 9=true
 r11:D 11=true->D 8=true/\D 9=true/\D 10=true
 r12:D 12=true->∀j,j<12->D j=true
 p0:D 11=false->HA w0 w1 M σ σ W
 p1:D 10=true->D 11=false->∃vb,Sx.A6 L 61=some vb/\RdS AnswerE (mm σ M) W vb [a]
 p2:D 11=true->D 12=false->∃v',Sx.A6 L 62=some v'/\v'.oneCell'=true/\HA w0 w1 M σ (σ.set i (ownR [] AnswerE 60 v' (l++[a]))) W
 p3:D 12=true->∃v',HA w0 w1 M σ ((σ.set i (ownR [] AnswerE 60 v' (l++[a]))).set jm (mapO K3 rawE false bm (B4 g a.dispute v'))) W
theorem AOt{w0:World}{M:List Nat}{σ:List Res}{w:World}{L:A8}{i jm j4 j11 b4 b11 bm:Nat}{v:Value}{l:List Answer}{a:Answer}{g:A4 Int Value}{cs4:List Value}{A B:A5}{X:Nat->A5}{Z:List PanicEntry->A5}(hI:Hp w0 [] M σ w)(hi:σ[i]?=some (ownR [] AnswerE 60 v l))(hm:σ[jm]?=some (mapO K3 rawE false bm g))(h4:σ[j4]?=some (rowR 99 b4 cs4))(hc4:cs4[7]?=some (.map (some bm)))(h11:σ[j11]?=some (rowR 60 b11 (AGK a)))(hia:InA a)(hv:(g a.dispute).getD (.slice none 0 0)=v)(d1:i≠jm)(d2:i≠j4)(d3:i≠j11)(hlen:(l.length+1)*48<=140737488355328)(l4:Sx.A6 L 4=some (.pointer (some ⟨b4,0,none⟩)))(l11:Sx.A6 L 11=some (.pointer (some ⟨b11,0,none⟩)))(hA:∀v' L' w',(∀t,t∉AOs->Sx.A6 L' t=Sx.A6 L t)->HA w0 w M σ ((σ.set i (ownR [] AnswerE 60 v' (l++[a]))).set jm (mapO K3 rawE false bm (B4 g a.dispute v'))) w'->A [] L' w'):CW prog 65 r70 [] L w A B X Z:=by
 refine AGJ (ops:=o70) gx_mix (by decide) (by decide) (J70 w0 w M σ i jm b4 b11 bm v l a g L) ?_ (AHu (by decide)) ?_ ?_
 . exact⟨fun _ _=>rfl,(fun h=>by cases h),(fun h=>by cases h),(fun h=>by cases h),(fun h=>by cases h),(fun h=>by cases h),(fun h=>by cases h),(fun h=>by cases h),(fun h=>by cases h),(fun h=>by cases h),(fun h=>by cases h),(fun h=>by cases h),(fun h=>by cases h),(fun h=>by cases h),(fun _=>⟨hI.ext (Kp.drew _ _),Adv.of_ext (Kp.drew _ _)⟩),(fun h=>by cases h),(fun h=>by cases h),(fun h=>by cases h)⟩
 . intro D L' W k o hJ hk ho hdep;have common:k<12->D 12=false/\Row 99 W b4 cs4/\Row 60 W b11 (AGK a):=fun hlt=>by
    have hD12:D 12=false:=by
     cases hb:D 12 with
     |false=>rfl
     |true=>rw[hJ.r12 hb k hlt]at hk;cases hk
    cases h11':D 11 with
    |false=>exact⟨hD12,(hJ.p0 h11').1.row j4 h4,(hJ.p0 h11').1.row j11 h11⟩
    |true=>
     obtain⟨v',_,_,hp⟩:=hJ.p2 h11' hD12
     exact⟨hD12,hp.1.row j4 (by rw[AbA d2];exact h4),hp.1.row j11 (by rw[AbA d3];exact h11)⟩
   match k,hk,ho,hdep,common with
   |0,hk,ho,hdep,common=>
    obtain⟨hD12,row4,row11⟩:=common (by decide)
    clear common
    have ho:=AaO (show some _=some o from ho)
    subst ho
    refine M3 ((hJ.base 4 (by decide)).trans l4) underlying99 rfl sizeOf97 rfl ?_
    exact Reg.nil ⟨rfl,⟨fun t ht=>(by rw[look_cons,if_neg (fun e=>ht (by subst e;decide))];exact hJ.base t ht),fun _=>rfl,hJ.f1,hJ.f2,hJ.f3,hJ.f4,hJ.f5,hJ.f6,hJ.f7,hJ.f8,hJ.f9,hJ.r10,hJ.r11,fun h j hj=>by rw[hJ.r12 h j hj,Bool.or_true],hJ.p0,hJ.p1,hJ.p2,hJ.p3⟩⟩
   |1,hk,ho,hdep,common=>
    obtain⟨hD12,row4,row11⟩:=common (by decide)
    clear common
    have ho:=AaO (show some _=some o from ho)
    subst ho
    refine J8 (hJ.f0 (hdep _ (AaP (i:=0) rfl) rfl)) (row4.rd.cells.at 7 hc4) isAgg97 rfl ?_
    exact Reg.nil ⟨rfl,⟨fun t ht=>(by rw[look_cons,if_neg (fun e=>ht (by subst e;decide))];exact hJ.base t ht),hJ.f0,fun _=>rfl,hJ.f2,hJ.f3,hJ.f4,hJ.f5,hJ.f6,hJ.f7,hJ.f8,hJ.f9,hJ.r10,hJ.r11,fun h j hj=>by rw[hJ.r12 h j hj,Bool.or_true],hJ.p0,hJ.p1,hJ.p2,hJ.p3⟩⟩
   |2,hk,ho,hdep,common=>
    obtain⟨hD12,row4,row11⟩:=common (by decide)
    clear common
    have ho:=AaO (show some _=some o from ho)
    subst ho
    refine M3 ((hJ.base 11 (by decide)).trans l11) underlying60 rfl sizeOf3 rfl ?_
    exact Reg.nil ⟨rfl,⟨fun t ht=>(by rw[look_cons,if_neg (fun e=>ht (by subst e;decide))];exact hJ.base t ht),hJ.f0,hJ.f1,fun _=>rfl,hJ.f3,hJ.f4,hJ.f5,hJ.f6,hJ.f7,hJ.f8,hJ.f9,hJ.r10,hJ.r11,fun h j hj=>by rw[hJ.r12 h j hj,Bool.or_true],hJ.p0,hJ.p1,hJ.p2,hJ.p3⟩⟩
   |3,hk,ho,hdep,common=>
    obtain⟨hD12,row4,row11⟩:=common (by decide)
    clear common
    have ho:=AaO (show some _=some o from ho)
    subst ho
    refine J8 (hJ.f2 (hdep _ (AaP (i:=0) rfl) rfl)) (row11.rd.cells.at 1 rfl) isAgg3 rfl ?_
    exact Reg.nil ⟨rfl,⟨fun t ht=>(by rw[look_cons,if_neg (fun e=>ht (by subst e;decide))];exact hJ.base t ht),hJ.f0,hJ.f1,hJ.f2,fun _=>rfl,hJ.f4,hJ.f5,hJ.f6,hJ.f7,hJ.f8,hJ.f9,hJ.r10,hJ.r11,fun h j hj=>by rw[hJ.r12 h j hj,Bool.or_true],hJ.p0,hJ.p1,hJ.p2,hJ.p3⟩⟩
   |4,hk,ho,hdep,common=>
    obtain⟨hD12,row4,row11⟩:=common (by decide)
    clear common
    have ho:=AaO (show some _=some o from ho)
    subst ho
    refine M3 ((hJ.base 4 (by decide)).trans l4) underlying99 rfl sizeOf97 rfl ?_
    exact Reg.nil ⟨rfl,⟨fun t ht=>(by rw[look_cons,if_neg (fun e=>ht (by subst e;decide))];exact hJ.base t ht),hJ.f0,hJ.f1,hJ.f2,hJ.f3,fun _=>rfl,hJ.f5,hJ.f6,hJ.f7,hJ.f8,hJ.f9,hJ.r10,hJ.r11,fun h j hj=>by rw[hJ.r12 h j hj,Bool.or_true],hJ.p0,hJ.p1,hJ.p2,hJ.p3⟩⟩
   |5,hk,ho,hdep,common=>
    obtain⟨hD12,row4,row11⟩:=common (by decide)
    clear common
    have ho:=AaO (show some _=some o from ho)
    subst ho
    refine J8 (hJ.f4 (hdep _ (AaP (i:=0) rfl) rfl)) (row4.rd.cells.at 7 hc4) isAgg97 rfl ?_
    exact Reg.nil ⟨rfl,⟨fun t ht=>(by rw[look_cons,if_neg (fun e=>ht (by subst e;decide))];exact hJ.base t ht),hJ.f0,hJ.f1,hJ.f2,hJ.f3,hJ.f4,fun _=>rfl,hJ.f6,hJ.f7,hJ.f8,hJ.f9,hJ.r10,hJ.r11,fun h j hj=>by rw[hJ.r12 h j hj,Bool.or_true],hJ.p0,hJ.p1,hJ.p2,hJ.p3⟩⟩
   |6,hk,ho,hdep,common=>
    obtain⟨hD12,row4,row11⟩:=common (by decide)
    clear common
    have ho:=AaO (show some _=some o from ho)
    subst ho
    refine M3 ((hJ.base 11 (by decide)).trans l11) underlying60 rfl sizeOf3 rfl ?_
    exact Reg.nil ⟨rfl,⟨fun t ht=>(by rw[look_cons,if_neg (fun e=>ht (by subst e;decide))];exact hJ.base t ht),hJ.f0,hJ.f1,hJ.f2,hJ.f3,hJ.f4,hJ.f5,fun _=>rfl,hJ.f7,hJ.f8,hJ.f9,hJ.r10,hJ.r11,fun h j hj=>by rw[hJ.r12 h j hj,Bool.or_true],hJ.p0,hJ.p1,hJ.p2,hJ.p3⟩⟩
   |7,hk,ho,hdep,common=>
    obtain⟨hD12,row4,row11⟩:=common (by decide)
    clear common
    have ho:=AaO (show some _=some o from ho)
    subst ho
    refine J8 (hJ.f6 (hdep _ (AaP (i:=0) rfl) rfl)) (row11.rd.cells.at 1 rfl) isAgg3 rfl ?_
    exact Reg.nil ⟨rfl,⟨fun t ht=>(by rw[look_cons,if_neg (fun e=>ht (by subst e;decide))];exact hJ.base t ht),hJ.f0,hJ.f1,hJ.f2,hJ.f3,hJ.f4,hJ.f5,hJ.f6,fun _=>rfl,hJ.f8,hJ.f9,hJ.r10,hJ.r11,fun h j hj=>by rw[hJ.r12 h j hj,Bool.or_true],hJ.p0,hJ.p1,hJ.p2,hJ.p3⟩⟩
   |8,hk,ho,hdep,common=>
    obtain⟨hD12,row4,row11⟩:=common (by decide)
    clear common
    have ho:=AaO (show some _=some o from ho)
    subst ho
    have h11f:D 11=false:=by
     cases hb:D 11 with
     |false=>rfl
     |true=>rw[(hJ.r11 hb).1]at hk;cases hk
    refine APM jm (hJ.p0 h11f).1 hm (hJ.f5 (hdep _ (AaP (i:=0) rfl) rfl)) (hJ.f7 (hdep _ (AaP (i:=1) rfl) rfl)) hia.2.1 underlying97 zeroValue26 (z0:=.slice none 0 0) ⟨[_],⟨rfl,rfl⟩,.inr ⟨rfl,rfl⟩⟩ rfl fun v9 hv9=>?_
    have e9:v9=v:=by
     obtain⟨cs,⟨h1,_⟩,⟨h2,_⟩|⟨_,h2⟩⟩:=hv9
     . cases h2
     . rw[h1]at h2;rw[<-hv];exact(List.singleton_inj.1 h2).symm
    subst e9
    exact Reg.nil ⟨rfl,⟨fun t ht=>(by rw[look_cons,if_neg (fun e=>ht (by subst e;decide))];exact hJ.base t ht),hJ.f0,hJ.f1,hJ.f2,hJ.f3,hJ.f4,hJ.f5,hJ.f6,hJ.f7,fun _=>rfl,hJ.f9,hJ.r10,fun h=>⟨rfl,(hJ.r11 h).2⟩,fun h j hj=>by rw[hJ.r12 h j hj,Bool.or_true],hJ.p0,hJ.p1,hJ.p2,hJ.p3⟩⟩
   |9,hk,ho,hdep,common=>
    obtain⟨hD12,row4,row11⟩:=common (by decide)
    clear common
    have ho:=AaO (show some _=some o from ho)
    subst ho
    refine Y0 ((hJ.base 11 (by decide)).trans l11) row11.rd.cells isAgg60 rfl sizeOf60 rfl ?_
    exact Reg.nil ⟨rfl,⟨fun t ht=>(by rw[look_cons,if_neg (fun e=>ht (by subst e;decide))];exact hJ.base t ht),hJ.f0,hJ.f1,hJ.f2,hJ.f3,hJ.f4,hJ.f5,hJ.f6,hJ.f7,hJ.f8,fun _=>rfl,fun _=>rfl,fun h=>⟨(hJ.r11 h).1,rfl,(hJ.r11 h).2.2⟩,fun h j hj=>by rw[hJ.r12 h j hj,Bool.or_true],hJ.p0,hJ.p1,hJ.p2,hJ.p3⟩⟩
   |10,hk,ho,hdep,common=>
    obtain⟨hD12,row4,row11⟩:=common (by decide)
    clear common
    have ho:=AaO (show some _=some o from ho)
    subst ho
    have h11f:D 11=false:=by
     cases hb:D 11 with
     |false=>rfl
     |true=>rw[(hJ.r11 hb).2.2]at hk;cases hk
    refine AEC (E:=AnswerE) (xs:=[a]) rsl26 (hJ.p0 h11f).1 rfl (show Sx.evs L' [.tmp 60]=some [_] by simp only[Sx.evs,Sx.ev,hJ.f9 (hdep _ (mem_of_getElem? (i:=0) rfl) rfl)];rfl) (Cls.cons rfl Cls.nil) (Chs.cons (AZV hia) Chs.nil) rfl rfl ?_
    intro vb w' hI' x'
    have hf':=hI'.freeze 0 rfl
    have hI2:HA w0 w M σ σ w':=⟨hI'.erase 0,(hJ.p0 h11f).2.trans (x'.trans (E3 (σ:=_::σ) 0))⟩
    exact Reg.nil ⟨rfl,⟨fun t ht=>(by rw[look_cons,if_neg (fun e=>ht (by subst e;decide))];exact hJ.base t ht),hJ.f0,hJ.f1,hJ.f2,hJ.f3,hJ.f4,hJ.f5,hJ.f6,hJ.f7,hJ.f8,hJ.f9,fun _=>hdep _ (AaP (i:=0) rfl) rfl,fun h=>⟨(hJ.r11 h).1,(hJ.r11 h).2.1,rfl⟩,fun h j hj=>by rw[hJ.r12 h j hj,Bool.or_true],fun _=>hI2,fun _ _=>⟨vb,rfl,hf'⟩,(fun h=>by rw[show D 11=true from h]at h11f;cases h11f),(fun h=>by rw[show D 12=true from h]at hD12;cases hD12)⟩⟩
   |11,hk,ho,hdep,common=>
    obtain⟨hD12,row4,row11⟩:=common (by decide)
    clear common
    have ho:=AaO (show some _=some o from ho)
    subst ho
    have hdep9:D 9=true:=hJ.r10 (hdep _ (AaP (i:=1) rfl) rfl)
    have hk11:D 11=false:=hk
    obtain⟨vb,hvb,hrb⟩:=hJ.p1 (hdep _ (AaP (i:=1) rfl) rfl) hk11
    refine ADn i rsl26 (hJ.p0 hk11).1 hi (hJ.f8 (hdep _ (AaP (i:=0) rfl) rfl)) hvb hrb ⟨hlen,Aad (Ab9 _ (by decide)) hlen⟩ rfl ?_
    intro v' w' hI' x'
    have ho':=hI'.ownAt i (by rw[AbZ (List.getElem?_eq_some_iff.1 hi).1])
    exact Reg.nil ⟨rfl,⟨fun t ht=>(by rw[look_cons,if_neg (fun e=>ht (by subst e;decide))];exact hJ.base t ht),hJ.f0,hJ.f1,hJ.f2,hJ.f3,hJ.f4,hJ.f5,hJ.f6,hJ.f7,hJ.f8,hJ.f9,hJ.r10,fun _=>⟨(hdep _ (AaP (i:=0) rfl) rfl),hdep9,(hdep _ (AaP (i:=1) rfl) rfl)⟩,fun h j hj=>by rw[hJ.r12 h j hj,Bool.or_true],(fun h=>by cases h),(fun _ h=>by cases h),fun _ _=>⟨v',rfl,Own.oneC ho',hI',(hJ.p0 hk11).2.trans x'⟩,(fun h=>by rw[show D 12=true from h]at hD12;cases hD12)⟩⟩
   |12,hk,ho,hdep,common=>
    clear common
    have ho:=AaO (show some _=some o from ho)
    subst ho
    have e0:D 0=true:=(hdep _ (AaP (i:=4) rfl) rfl)
    have e1:D 1=true:=(hdep _ (AaP (i:=5) rfl) rfl)
    have e2:D 2=true:=(hdep _ (AaP (i:=6) rfl) rfl)
    have e3:D 3=true:=(hdep _ (AaP (i:=7) rfl) rfl)
    have e4:D 4=true:=(hdep _ (AaP (i:=8) rfl) rfl)
    have e5:D 5=true:=(hdep _ (AaP (i:=9) rfl) rfl)
    have e6:D 6=true:=(hdep _ (AaP (i:=10) rfl) rfl)
    have e7:D 7=true:=(hdep _ (AaP (i:=11) rfl) rfl)
    have e8:D 8=true:=(hdep _ (AaP (i:=12) rfl) rfl)
    have e9:D 9=true:=(hdep _ (AaP (i:=13) rfl) rfl)
    have e10:D 10=true:=(hdep _ (AaP (i:=14) rfl) rfl)
    have e11:D 11=true:=(hdep _ (AaP (i:=15) rfl) rfl)
    obtain⟨v',hv',ho',hp⟩:=hJ.p2 e11 hk
    refine AKR (K:=K3) (E:=rawE) (ag:=false) jm hp.1 (by rw[AbA d1];exact hm) (hJ.f1 e1) (hJ.f3 e3) hia.2.1 hv' (z:=v') ⟨[v'],⟨rfl,ho'⟩,.inr ⟨rfl,rfl⟩⟩ underlying97 ?_
    intro w' hI' x'
    refine Reg.nil ⟨rfl,⟨hJ.base,hJ.f0,hJ.f1,hJ.f2,hJ.f3,hJ.f4,hJ.f5,hJ.f6,hJ.f7,hJ.f8,hJ.f9,hJ.r10,hJ.r11,fun _ j hj=>?_,(fun h=>by rw[show D 11=false from h]at e11;cases e11),(fun _ h=>by rw[show D 11=false from h]at e11;cases e11),(fun _ h=>by cases h),fun _=>⟨v',hI',hp.2.trans x'⟩⟩⟩
    have:D j=true:=by
     match j,hj with
     |0,_=>exact e0
     |1,_=>exact e1
     |2,_=>exact e2
     |3,_=>exact e3
     |4,_=>exact e4
     |5,_=>exact e5
     |6,_=>exact e6
     |7,_=>exact e7
     |8,_=>exact e8
     |9,_=>exact e9
     |10,_=>exact e10
     |11,_=>exact e11
    rw[this,Bool.or_true]
   |_+13,_,ho,_,_=>cases ho
 . intro D L' W hall hJ;obtain⟨v',h⟩:=hJ.p3 (hall 12 (by decide));exact hA v' L' W hJ.base h
def AJZ:List Answer->A4 Int (List Answer)->Option (A4 Int (List Answer))
 |[],h=>some h
 |a::l,h=>(appo 48 ((h a.dispute).getD []) [a]).bind fun y=>AJZ l (B4 h a.dispute y)
noncomputable def AZW:Code:=match f70.body with
 |some (.seq _ (.seq _ (.seq _ (.seq _ (.seq c _)))))=>c
 |_=>.skip
def ARl:List Nat:=[44,45,46,47,48,49,50,11,51,52,53,54,55,56,57,58,59,60,61,62,63]
abbrev Os:=List (Int×Value×List Answer)
def N3(os:Os):List Res:=os.map fun o=>ownR [] AnswerE 60 o.2.1 o.2.2
theorem AKF{κ α:Type}{f:A4 κ α}{l:List (κ×α)}(h:Lists f l){i:Nat}{k:κ}{x:α}(hi:l[i]?=some (k,x)):f k=some x:=(h.2 k x).1 (AaP hi)
theorem AXy{w0:World}{M:List Nat}{S1:List Res}{W:World}{g:A4 Int Value}{f:A4 Int (List Answer)}{os:Os}(k:Int)(hg:Lists g (os.map fun o=>(o.1,o.2.1)))(hf:Lists f (os.map fun o=>(o.1,o.2.2)))(hI:Hp w0 [] M (N3 os++S1) W):
  ∃(os1:Os) (i:Nat) (v:Value) (l:List Answer),Hp w0 [] M (N3 os1++S1) W/\Adv (mm (N3 os++S1) M) (mm (N3 os1++S1) M) W W/\os1[i]?=some (k,v,l)/\(g k).getD (.slice none 0 0)=v/\(f k).getD []=l/\∀v' l',Lists (B4 g k v') ((os1.set i (k,v',l')).map fun o=>(o.1,o.2.1))/\Lists (B4 f k l') ((os1.set i (k,v',l')).map fun o=>(o.1,o.2.2)):=by
 by_cases hk:∃o∈os,o.1=k
 . obtain⟨⟨k',v,l⟩,ho,hkk⟩:=hk
   have hkk:k'=k:=hkk
   subst hkk
   obtain⟨i,hi⟩:=Aar ho
   have h1:(os.map fun o=>(o.1,o.2.1))[i]?=some (k',v):=by rw[Aa4,hi];rfl
   have h2:(os.map fun o=>(o.1,o.2.2))[i]?=some (k',l):=by rw[Aa4,hi];rfl
   refine⟨os,i,v,l,hI,Adv.refl _ _,hi,by rw[AKF hg h1];rfl,by rw[AKF hf h2];rfl,fun v' l'=>⟨?_,?_⟩⟩
   . rw[List.map_set];exact hg.set h1 v'
   . rw[List.map_set];exact hf.set h2 l'
 . have hg0:∀x∈(os.map fun o=>(o.1,o.2.1)),x.1≠k:=fun x hx e=>by
    obtain⟨o,ho,rfl⟩:=mem_map.1 hx;exact hk ⟨o,ho,e⟩
   have hf0:∀x∈(os.map fun o=>(o.1,o.2.2)),x.1≠k:=fun x hx e=>by
    obtain⟨o,ho,rfl⟩:=mem_map.1 hx;exact hk ⟨o,ho,e⟩
   refine⟨(k,.slice none 0 0,[])::os,0,_,[],hI.addNil AnswerE 60,hI.addNilH AnswerE 60,rfl,by rw[hg.none hg0];rfl,by rw[hf.none hf0];rfl,fun v' l'=>⟨?_,?_⟩⟩
   . exact(hg.push v' hg0).perm (by simp only[List.set_cons_zero,List.map_cons];exact(List.perm_append_singleton _ _).symm)
   . exact(hf.push l' hf0).perm (by simp only[List.set_cons_zero,List.map_cons];exact(List.perm_append_singleton _ _).symm)
theorem ARn{w0:World}{M:List Nat}{S0:List Res}{w:World}{L:A8}{jm j4 j1 b4 b1 bm:Nat}{al:List Answer}{cs1 cs4:List Value}{va:Value}{h:A4 Int (List Answer)}{A B:A5}{X:Nat->A5}{Z:List PanicEntry->A5}(hI:Hp w0 [] M S0 w)(hm:S0[jm]?=some (mapO K3 rawE false bm fnone))(h4:S0[j4]?=some (rowR 99 b4 cs4))(hc4:cs4[7]?=some (.map (some bm)))(h1:S0[j1]?=some (rowR 28 b1 cs1))(hc1:cs1[5]?=some va)(hva:RdS AnswerE (mm S0 M) w va al)(d4:j4≠jm)(hw:w0.heap.size<=w.heap.size)(l1:Sx.A6 L 1=some (.pointer (some ⟨b1,0,none⟩)))(l4:Sx.A6 L 4=some (.pointer (some ⟨b4,0,none⟩)))(hr:AJZ al fnone=some h)(hA:∀L' w' (g:A4 Int Value) (os:Os),(∀t,t∉ARl->Sx.A6 L' t=Sx.A6 L t)->Lists g (os.map fun o=>(o.1,o.2.1))->Lists h (os.map fun o=>(o.1,o.2.2))->HA w0 w M S0 (N3 os++S0.set jm (mapO K3 rawE false bm g)) w'->A [] L' w'):CW prog 65 AZW [] L w A B X Z:=by
 obtain⟨a45,c45,rfl,hlen,hle⟩:=hva.shape;have hlen_:InK .i64 ((al.length:Nat):Int):=hva.inK;rw[InK.i64]at hlen_;refine A3 ?_;refine A7 ?_;refine M3 l1 underlying28 rfl sizeOf26 rfl ?_;refine J8 rfl ((hI.row j1 h1).rd.cells.at 5 hc1) isAgg26 rfl ?_;refine AFk rfl underlying26 rfl ?_;refine E5 rfl rfl ?_;refine Reg.nil ?_;refine C4 ?_;refine AAc (ι:=A8×Nat×A4 Int Value×A4 Int (List Answer)×Os) (fun q=>q.1) (fun q W=>((∀t,t∉ARl->Sx.A6 q.1 t=Sx.A6 L t)/\Sx.A6 q.1 45=some (.slice a45 al.length c45)/\Sx.A6 q.1 46=some (.int .i64 (al.length:Nat))/\Sx.A6 q.1 47=some (.int .i64 (q.2.1:Nat)))/\q.2.1<=al.length/\AJZ (al.drop q.2.1) q.2.2.2.1=some h/\Lists q.2.2.1 (q.2.2.2.2.map fun o=>(o.1,o.2.1))/\Lists q.2.2.2.1 (q.2.2.2.2.map fun o=>(o.1,o.2.2))/\HA w0 w M S0 (N3 q.2.2.2.2++S0.set jm (mapO K3 rawE false bm q.2.2.1)) W) (fun q=>al.length-q.2.1) (_,0,fnone,fnone,[]) ⟨⟨fun t ht=>?_,rfl,rfl,rfl⟩,Aas _,by simpa using hr,Lists.nil,Lists.nil,?_⟩ (Sub.refl _) ?_
 . show Sx.A6 (_::_::_::_::L) t=_;rw[look_cons,if_neg (fun e=>ht (by subst e;decide)),look_cons,if_neg (fun e=>ht (by subst e;decide)),look_cons,if_neg (fun e=>ht (by subst e;decide)),look_cons,if_neg (fun e=>ht (by subst e;decide))]
 . have e:N3 []++S0.set jm (mapO K3 rawE false bm fnone)=S0:=by
    show S0.set jm _=S0;exact Aa9 fun j=>by
     rw[Abv];split
     . rename_i e;subst e;rw[hm];rw[Aac (List.getElem?_eq_some_iff.1 hm).1]
     . rfl
   exact⟨by rw[e];exact hI,by rw[e];exact Adv.refl _ _⟩
 rintro⟨L1,i,g,f,os⟩ W1 ⟨⟨lb,l45,l46,l47⟩,hi,hdi,hg,hf,hH⟩;dsimp only at lb l45 l46 l47 hi hdi hg hf hH ⊢;refine A3 ?_;refine A7 ?_;refine AEw l47 l46 rfl ?_;refine Reg.nil ?_;refine A3 ?_;refine T4 rfl (fun hlt=>?_) (fun hge=>?_)
 . have hlt:i<al.length:=by have:=AaW hlt;omega
   rw[Ab5 hlt]at hdi;obtain⟨y,hy,hdi⟩:=C5 hdi;obtain⟨hyl,rfl⟩:=ABt hy;have hra:=hva.adv hH.2;obtain⟨os1,i0,v,l,hI1,x1,ho,hgv,hfl,hset⟩:=AXy (al[i]).dispute hg hf hH.1;rw[hfl]at hyl hdi;refine E2 ?_;refine A3 ?_;refine C4 ?_;refine A3 ?_;refine A7 ?_;refine AN5 l45 l47 hra (z:=al[i]) (AIB (AaV hlt)) underlying26 sizeOf60 rfl ?_;intro b9 o9 cs9 hR9 hC9;obtain⟨rfl,hia⟩:=(AnswerE_R (x:=al[i])).1 hR9;obtain⟨q0,q1,q2,q3,q4,q5⟩:=hia;refine Y0 rfl hC9.cells isAgg60 rfl sizeOf60 rfl ?_;refine P5 hI1 zeroValue60 rfl rfl ?_;intro b11 w5 hI5 x5;refine N2 0 hI5 rfl rfl rfl rfl sizeOf60 rfl rfl (one1 rfl (one1 rfl (one1 rfl (one1 rfl (one1 rfl (one1 rfl one0)))))) ?_;intro w6 hI6 x6;have hI6:Hp w0 [] M (rowR 60 b11 (AGK al[i])::(N3 os1++S0.set jm (mapO K3 rawE false bm g))) w6:=hI6;have x6:Adv (mm (rowR 60 b11 [.int .i64 0,.int .i64 0,.int .i64 0,.int .u8 0,.int .i64 0,.int .i64 0]::(N3 os1++S0.set jm (mapO K3 rawE false bm g))) M) (mm (rowR 60 b11 (AGK al[i])::(N3 os1++S0.set jm (mapO K3 rawE false bm g))) M) w5 w6:=x6;refine Reg.nil ?_;have e4:N3 os1++S0.set jm (mapO K3 rawE false bm g)=N3 os1++S0.set jm (mapO K3 rawE false bm g):=rfl;have hio:i0<os1.length:=(List.getElem?_eq_some_iff.1 ho).1;have hlo:(N3 os1).length=os1.length:=by simp[N3]
   have hjm:jm<S0.length:=(List.getElem?_eq_some_iff.1 hm).1;refine AOt hI6 (i:=i0+1) (jm:=os1.length+jm+1) (j4:=os1.length+j4+1) (j11:=0) (b4:=b4) (b11:=b11) (bm:=bm) (v:=v) (l:=l) (a:=al[i]) (g:=g) (cs4:=cs4) ?_ ?_ ?_ hc4 rfl ⟨q0,q1,q2,q3,q4,q5⟩ hgv (by omega) (by omega) (by omega) hyl.1 ?_ rfl ?_
   . rw[Abs,Aaw (by rw[hlo];exact hio)];simp only[N3,List.getElem?_map,ho];rfl
   . rw[Abs,Aa8 (by rw[hlo];omega),hlo,AbT,AbZ hjm]
   . rw[Abs,Aa8 (by rw[hlo];omega),hlo,AbT,AbA (AcE d4)];exact h4
   . exact(lb 4 (by decide)).trans l4
   . intro v' L5 w7 lb5 hH7;have e7:((rowR 60 b11 (AGK al[i])::(N3 os1++S0.set jm (mapO K3 rawE false bm g))).set (i0+1) (ownR [] AnswerE 60 v' (l++[al[i]]))).set (os1.length+jm+1) (mapO K3 rawE false bm (B4 g (al[i]).dispute v'))=rowR 60 b11 (AGK al[i])::(N3 (os1.set i0 ((al[i]).dispute,v',l++[al[i]]))++S0.set jm (mapO K3 rawE false bm (B4 g (al[i]).dispute v'))):=by
      rw[AcO,AcO,List.set_append_left _ _ (by rw[hlo];exact hio),List.set_append_right _ _ (by rw[Ab4,hlo];omega),Ab4,hlo,AbT,List.set_set];simp only[N3,List.map_set]
     rw[e7]at hH7;have hH8:HA w0 w M S0 (N3 (os1.set i0 ((al[i]).dispute,v',l++[al[i]]))++S0.set jm (mapO K3 rawE false bm (B4 g (al[i]).dispute v'))) w7:=⟨hH7.1.erase 0,hH.2.trans (x1.trans (x5.trans (x6.trans (hH7.2.trans (E3 (σ:=_::_) 0)))))⟩;refine A7 ?_;refine AH5 ((lb5 47 (by decide)).trans l47) rfl rfl (InK.i64.2 (by omega)) ?_;refine E5 rfl rfl ?_;refine Reg.nil ⟨rfl,(_,i+1,B4 g (al[i]).dispute v',B4 f (al[i]).dispute (l++[al[i]]),os1.set i0 ((al[i]).dispute,v',l++[al[i]])),?_,Sub.refl _,by dsimp only;omega⟩;refine⟨⟨fun t ht=>?_,(lb5 45 (by decide)).trans l45,(lb5 46 (by decide)).trans l46,rfl⟩,hlt,hdi,(hset v' _).1,(hset v' _).2,hH8⟩;show Sx.A6 (_::_::L5) t=_;rw[look_cons,if_neg (fun e=>ht (by subst e;decide)),look_cons,if_neg (fun e=>ht (by subst e;decide)),lb5 t (fun e=>ht ((by decide:∀u∈AOs,u∈ARl) t e))];show Sx.A6 (_::_::_::_::L1) t=_;rw[look_cons,if_neg (fun e=>ht (by subst e;decide)),look_cons,if_neg (fun e=>ht (by subst e;decide)),look_cons,if_neg (fun e=>ht (by subst e;decide)),look_cons,if_neg (fun e=>ht (by subst e;decide))];exact lb t ht
 . have hge:¬i<al.length:=by have:=AaZ hge;omega
   obtain rfl:i=al.length:=by omega
   rw[List.drop_length]at hdi;have hdi:=AaO hdi;subst hdi;refine T3 (J7 ?_);exact hA _ W1 g os (fun t ht=>by
    show Sx.A6 (_::L1) t=_;rw[look_cons,if_neg (fun e=>ht (by subst e;decide))];exact lb t ht) hg hf hH
section
variable{M:List Nat}{w:World}{x:Desk_99}{e:Int}
theorem AFR:∀{cs vs:List Value},cs.length=vs.length->B6 cs 0 vs=vs
 |[],[],_=>rfl
 |_::r,v::vs,h=>by
  show v::B6 r 0 vs=_;rw[AFR (by simpa using h)]
 |[],_::_,h=>by cases h
 |_::_,[],h=>by cases h
def ASg:Nat->Desk_99->Option Int
 |0=>N8
 |1=>N9
 |2=>O0
 |_=>O1
def stepG:Nat->Nat
 |0=>202
 |1=>203
 |2=>204
 |_=>208
def ACM(x:Desk_99)(i:Nat):Nat->Option Int
 |0=>some 0
 |n+1=>(ASg i x).bind fun e=>if e=0 then ACM x (i+1) n else some e
theorem AOu(i:Nat)(hM:MLt M w)(hg:GlOk (P:=prog) M w){v:Value}(hx:OkD (P:=prog) M w (.st 10) x v)(hr:ASg i x=some e):
  CallsV prog (.func (.func (stepG i)) #[] #[]) [v] w fun en w'=>en=.returned (.int .i64 e)/\InK .i64 e/\Ext w w':=by
 have fin:∀{k:Nat} {c:Ctr},c.ps=[.d (.st 10)]->True:=fun _=>trivial
 have conv:∀{k:Nat},Calls prog k (toArray [v]) w (fun en w'=>∃vs,en=.returned (ACW vs)/\KsOk (P:=prog) M (obK [.d (.int .i64)] vs++M) w w' [.d (.int .i64)] e vs/\Ext w w')->(∀args w,(callFunc k args).run prog w=.ok (.enter k args) w)->CallsV prog (.func (.func k) #[] #[]) [v] w fun en w'=>en=.returned (.int .i64 e)/\InK .i64 e/\Ext w w':=fun {k} h hc=>by
  refine⟨k,#[],rfl,hc,?_⟩;refine Calls.mono (by simpa using h) ?_;rintro en w' ⟨vs,rfl,⟨u,rfl,hu⟩,hx⟩;have hu:OkD (P:=prog) M w' (.int .i64) e u:=hu;obtain⟨rfl,hk⟩:=E4 (ρ:=fun _=>undef) (R:=fun _=>none) (.int .i64) hu;exact⟨rfl,hk,hx⟩
 match i,hr with
 |0,hr=>exact conv (ok202.2 M w (x,()) [v] e hM hg ⟨v,[],rfl,hx,rfl⟩ hr) call202
 |1,hr=>exact conv (ok203.2 M w (x,()) [v] e hM hg ⟨v,[],rfl,hx,rfl⟩ hr) call203
 |2,hr=>exact conv (ok204.2 M w (x,()) [v] e hM hg ⟨v,[],rfl,hx,rfl⟩ hr) call204
 |_+3,hr=>exact conv (ok208.2 M w (x,()) [v] e hM hg ⟨v,[],rfl,hx,rfl⟩ hr) call208
noncomputable def AZX:Code:=match f70.body with
 |some (.seq _ (.seq _ (.seq _ (.seq c _))))=>c
 |_=>.skip
def AOv:List Nat:=[32,33,34,35,8,36,37,38,9,39,40,41,42,3,43]
theorem AOw{L:A8}{b2 b4:Nat}{cs2 cs4:List Value}{A B:A5}{X:Nat->A5}{Z:List PanicEntry->A5}(hM:MLt M w)(hg:GlOk (P:=prog) M w)(h4:RdC M w b4 0 cs4)(hx:(enc (P:=prog) (.st 10)).R M w cs4 x)(h2:Row 99 w b2 cs2)(hn2:cs2.length=8)(l2:Sx.A6 L 2=some (.pointer (some ⟨b2,0,none⟩)))(l4:Sx.A6 L 4=some (.pointer (some ⟨b4,0,none⟩)))(hr:ACM x 0 4=some e)(hok:e=0->∀L' w',Ext w w'->(∀t,t∉AOv->Sx.A6 L' t=Sx.A6 L t)->A [] L' w')(herr:e≠0->∀L' w' w'',Ext w w'->Kp [b2] w' w''->Row 99 w'' b2 cs4->InK .i64 e->(∀t,t∉AOv->Sx.A6 L' t=Sx.A6 L t)->Sx.A6 L' 3=some (.int .i64 e)->B [] L' w''):CW prog 65 AZX [] L w A B X Z:=by
 obtain⟨bg,og,ug,vg,eg,hcg,⟨vs',rfl,hvs⟩,hug⟩:=hg 1 _ rfl (fun _=>undef) (fun _=>none);cases eg
 obtain rfl:vs'=vg:=by
  have h:toArray vs'=toArray vg:=hug;simpa using h
 have hn4:cs4.length=8:=(enc (P:=prog) (.st 10)).len hx;have one4:∀u∈cs4,u.oneCell'=true:=(enc (P:=prog) (.st 10)).one hx;have ei:vs'=[.func (.func 202) #[] #[],.func (.func 203) #[] #[],.func (.func 204) #[] #[],.func (.func 208) #[] #[]]:=by
  have one:∀{g:Nat} {l:List SV} {vs:List Value},OkL (P:=prog) (fun _=>undef) (fun _=>none) M w (.fn g []::l) vs->∃r,vs=.func (.func g) #[] #[]::r/\OkL (P:=prog) (fun _=>undef) (fun _=>none) M w l r:=fun {g l vs} h=>by
   obtain⟨u,c,r,rfl,⟨ws,rfl,hws⟩,hc,hr⟩:=h;have hws:ws=[]:=hws;subst hws;have hc:#[Value.func (.func g) #[] #[]]=toArray c:=hc;have:c=[Value.func (.func g) #[] #[]]:=by simpa using hc.symm
   subst this;exact⟨r,rfl,hr⟩
  obtain⟨r1,rfl,h1⟩:=one hvs;obtain⟨r2,rfl,h2⟩:=one h1;obtain⟨r3,rfl,h3⟩:=one h2;obtain⟨r4,rfl,h4⟩:=one h3;have h4:r4=[]:=h4;rw[h4]
 subst ei;refine A3 ?_;refine A7 ?_;refine Y0 rfl hcg.cells isAgg184 rfl sizeOf184 rfl ?_;refine E5 rfl rfl ?_;refine Reg.nil ?_;refine C4 ?_;refine AAc (ι:=A8×Nat) (fun q=>q.1) (fun q W=>((∀t,t∉AOv->Sx.A6 q.1 t=Sx.A6 L t)/\Sx.A6 q.1 32=some (.agg #[.func (.func 202) #[] #[],.func (.func 203) #[] #[],.func (.func 204) #[] #[],.func (.func 208) #[] #[]])/\Sx.A6 q.1 33=some (.int .i64 (q.2:Nat)))/\q.2<=4/\ACM x q.2 (4-q.2)=some e/\Ext w W) (fun q=>4-q.2) (_,0) ⟨⟨fun t ht=>?_,rfl,rfl⟩,Aas _,hr,Kp.refl _ _⟩ (Sub.refl _) ?_
 . show Sx.A6 (_::_::L) t=_;rw[look_cons,if_neg (fun e=>ht (by subst e;decide)),look_cons,if_neg (fun e=>ht (by subst e;decide))]
 rintro⟨L1,i⟩ W1 ⟨⟨lb,l32,l33⟩,hi,hdi,hE⟩;dsimp only at lb l32 l33 hi hdi ⊢;refine A3 ?_;refine A7 ?_;refine AEw l33 rfl rfl ?_;refine Reg.nil ?_;refine A3 ?_;refine T4 rfl (fun hlt=>?_) (fun hge=>?_)
 . have hlt:i<4:=by have:=AaW hlt;omega
   rw[show 4-i=(4-(i+1))+1 by omega]at hdi;obtain⟨e1,he1,hdi⟩:=C5 hdi;refine E2 ?_;refine A3 ?_;refine C4 ?_;refine A3 ?_;refine A7 ?_;refine Reg.val (.func (.func (stepG i)) #[] #[]) rfl rfl rfl (fun a ha w' _=>?_) ?_
   . have h7:=ha.eval (x:=.tmp 32) l32;have h8:=ha.eval (x:=.tmp 33) l33;have hi4:i=0\/i=1\/i=2\/i=3:=by omega
     rcases hi4 with rfl|rfl|rfl|rfl<;>simp[execOp,h7,h8,Instr.index,asIntOf,run_underlying underlying184,part,isAgg183,sizeOf183,stepG]
   refine C6 rfl rfl ?_;refine Reg.nil ?_;refine A3 ?_;refine A7 ?_;refine E5 rfl rfl ?_;refine Y0 ((lb 4 (by decide)).trans l4) (h4.adv (Adv.of_ext hE)).cells isAgg99 hn4 sizeOf99 rfl ?_;refine ABO (vs:=[.agg cs4.toArray]) rfl rfl rfl ?_;obtain⟨g9,c9,v9,hc9,hcall⟩:=AOu i (hM.ext hE) (hg.adv (Adv.of_ext hE)) (v:=.agg cs4.toArray) ⟨cs4,(enc (P:=prog) (.st 10)).adv hx (Adv.of_ext hE),.inl ⟨rfl,rfl⟩⟩ he1;refine⟨g9,c9,v9,hc9,hcall.mono ?_⟩;rintro _ W2 ⟨rfl,hk1,hE2⟩;refine⟨_,rfl,?_⟩;refine C6 rfl rfl ?_;refine Reg.nil ?_;refine A3 ?_;refine A7 ?_;refine E5 rfl rfl ?_;refine AN0 rfl rfl rfl ?_;refine Reg.nil ?_;have lk9:∀{a b c d f g h k:Value} (t:Nat),t∉AOv->Sx.A6 ((40,a)::(39,b)::(9,c)::(38,d)::(37,f)::(36,g)::(8,h)::(35,k)::(34,.bool (decide ((i:Int)<4)))::L1) t=Sx.A6 L t:=fun t ht=>by
    rw[look_cons,if_neg (fun e=>ht (by subst e;decide)),look_cons,if_neg (fun e=>ht (by subst e;decide)),look_cons,if_neg (fun e=>ht (by subst e;decide)),look_cons,if_neg (fun e=>ht (by subst e;decide)),look_cons,if_neg (fun e=>ht (by subst e;decide)),look_cons,if_neg (fun e=>ht (by subst e;decide)),look_cons,if_neg (fun e=>ht (by subst e;decide)),look_cons,if_neg (fun e=>ht (by subst e;decide)),look_cons,if_neg (fun e=>ht (by subst e;decide))];exact lb t ht
   have hEx:Ext w W2:=hE.trans hE2;refine T4 rfl (fun hne=>?_) (fun heq=>?_)
   . have hne:e1≠0:=by simpa using hne
     rw[if_neg hne]at hdi;cases hdi
     refine A3 ?_;refine A7 ?_;refine Y0 ((lk9 4 (by decide)).trans l4) (h4.adv (Adv.of_ext hEx)).cells isAgg99 hn4 sizeOf99 rfl ?_;refine E5 rfl rfl ?_;have hb2:b2<w.heap.size:=G0 h2;refine AN4 (e:=99) (cs:=cs2) (vs:=cs4) ((lk9 2 (by decide)).trans l2) rfl rfl ((hEx.block b2 hb2 (by simp)).trans h2) sizeOf99 hn4 (by rw[hn2,hn4];rfl) one4 ?_;intro w3 hr3 hk3;refine C6 rfl rfl ?_;refine Reg.nil ?_;refine C0 ?_;have hset:B6 cs2 0 cs4=cs4:=AFR (by rw[hn2,hn4]);rw[hset]at hr3;exact herr hne _ W2 w3 hEx hk3 hr3 hk1 (fun t ht=>by
      show Sx.A6 (_::_::_::_) t=_;rw[look_cons,if_neg (fun e=>ht (by subst e;decide)),look_cons,if_neg (fun e=>ht (by subst e;decide)),look_cons,if_neg (fun e=>ht (by subst e;decide))];exact lk9 t ht) rfl
   . have heq:e1=0:=by simpa using heq
     rw[Aac heq]at hdi;refine E2 ?_;refine A7 ?_;refine AH5 l33 rfl rfl (InK.i64.2 (by omega)) ?_;refine E5 rfl rfl ?_;refine Reg.nil ⟨rfl,(_,i+1),?_,Sub.refl _,by dsimp only;omega⟩;refine⟨⟨fun t ht=>?_,l32,rfl⟩,hlt,hdi,hEx⟩;show Sx.A6 (_::_::_) t=_;rw[look_cons,if_neg (fun e=>ht (by subst e;decide)),look_cons,if_neg (fun e=>ht (by subst e;decide))];exact lk9 t ht
 . have hge:¬i<4:=by have:=AaZ hge;omega
   obtain rfl:i=4:=by omega
   have he:e=0:=(AaO hdi).symm;refine T3 (J7 ?_);exact hok he _ W1 hE (fun t ht=>by
    show Sx.A6 (_::L1) t=_;rw[look_cons,if_neg (fun e=>ht (by subst e;decide))];exact lb t ht)
end
end Go.Proofs.YtgioiejbphljoaaGreatDoor
namespace Go.Rx
open Go Go.Sx Go.RowKit
section
variable[Trk][Sg][Sf]{P:Program}[Se P][Anch]{w0 w:World}{M:List Nat}{N:Nat}{ds:List Deferred}
theorem AQO[Sl (P:=P)]{G:Gx}(hG:GxOk P G)(c:Code)(an:An){sh:Sh}{σ:AS}{x:O6 sh.cs}{L:A8}{w:World}{A B:A5}{X:Nat->A5}{Z:List PanicEntry->A5}(h:exec G N (fun _=>(none:Option Unit)) c an (I3 sh) (fun _ _=>none) (fun _=>none) σ=some x)(hH:Holds (P:=P) w0 [] M σ L w)(hA:∀L' w',EnvS (D6 c++D5 an) L L'->Holds (P:=P) w0 [] M (B8 (D6 c++D5 an) sh σ x) L' w'->A ds L' w'):CW P N c ds L w A B X Z:=
 AAh (n:=3) (ADY (I9 hG c an _ _ _ _ _ _ _ _ _ _ _ _ _ h hH (fun σ1 L1 w1 h1 hR hE1 hH1=>by
  obtain⟨S,ρ,γ,μ,ι,hS⟩:=hH1;exact hA L1 w1 hE1 (U4 hS hR h1)) (fun i σ2 L2 w2 h2=>by cases h2) (fun r σ2 L2 w2 h2 h3 _ hH2=>by cases h2) PZ.no))
end
section
variable[Trk][Sg][Sf]{P:Program}[Se P]{ρ:Nat->Value}{R:Nat->Option AR}{M:List Nat}{w:World}{l:List SV}{vs:List Value}
theorem AAj{k:IntKind}{x:Int}(h:OkL (P:=P) ρ R M w (.int k x::l) vs):∃r,vs=.int k x::r/\InK k x/\OkL (P:=P) ρ R M w l r:=by
 obtain⟨u,c,r,rfl,⟨rfl,hk⟩,hc,hr⟩:=h;have hc:#[Value.int k x]=toArray c:=hc;have:c=[Value.int k x]:=by simpa using hc.symm
 subst this;exact⟨r,rfl,hk,hr⟩
theorem AEq{t:Ty}{x:List (den t)}(h:OkL (P:=P) ρ R M w (.dat (.sl t) x::l) vs):∃v r,vs=v::r/\OkD (P:=P) M w (.sl t) x v/\v.cells=#[v]/\OkL (P:=P) ρ R M w l r:=by
 obtain⟨u,c,r,rfl,⟨_,hd⟩,hc,hr⟩:=h;obtain⟨a,n,rfl,_⟩:=(OkD.rds hd).shape;have hc:#[Value.slice a x.length n]=toArray c:=hc;have:c=[Value.slice a x.length n]:=by simpa using hc.symm
 subst this;exact⟨_,r,rfl,hd,rfl,hr⟩
theorem ABZ{s:SV}(h:OkL (P:=P) ρ R M w (s::l) vs)(hs:∀u,Ok (P:=P) ρ R M w s u->u.cells=#[u]):∃u r,vs=u::r/\OkL (P:=P) ρ R M w l r:=by
 obtain⟨u,c,r,rfl,hu,hc,hr⟩:=h;rw[hs u hu]at hc;have:c=[u]:=by simpa using hc.symm
 subst this;exact⟨u,r,rfl,hr⟩
theorem AC5{i:Nat}(h:OkL (P:=P) ρ R M w (.own i::l) vs):∃r,vs=ρ i::r/\OkL (P:=P) ρ R M w l r:=by
 obtain⟨u,c,r,rfl,⟨rfl,h1,_⟩,hc,hr⟩:=h;rw[h1]at hc;have:c=[ρ i]:=by simpa using hc.symm
 subst this;exact⟨r,rfl,hr⟩
end
end Go.Rx
namespace Go.Proofs.YtgioiejbphljoaaGreatDoor
open Go Go.Sx Go.Rx Go.RowKit
theorem ACN{P:Program}{kt:TypeId}{α β:Type}{K:Ky P kt Int}{E:Enc α}{E':Enc β}{ag ag':Bool}{M M':List Nat}{w:World}{b:Nat}{g:A4 Int α}{f:A4 Int β}(h:MapH K E ag M w b g)(hc:∀k x v,g k=some x->Vl E ag M w v x->∃y,f k=some y/\Vl E' ag' M' w v y)(hn:∀k,g k=none->f k=none):MapH K E' ag' M' w b f:=by
 obtain⟨es,c,xs,h1,h2,h3,h4⟩:=h;have key:∀(es:List MapEntry) (xs:List (Int×α)),EntK K E ag M w es xs->(∀x∈xs,g x.1=some x.2)->∃ys:List (Int×β),EntK K E' ag' M' w es ys/\ys.map (·.1)=xs.map (·.1)/\∀y∈ys,f y.1=some y.2:=by
  intro es;induction es with
  |nil=>
   intro xs h _
   cases xs with
   |nil=>exact⟨[],trivial,rfl,fun _ h=>by cases h⟩
   |cons _ _=>exact h.elim
  |cons e es ih=>
   intro xs h hx
   cases xs with
   |nil=>exact h.elim
   |cons x xs=>
    obtain⟨k1,k2,k3⟩:=h
    obtain⟨ys,y1,y2,y3⟩:=ih xs k3 fun z hz=>hx z (AaQ _ hz)
    obtain⟨y,hy1,hy2⟩:=hc x.1 x.2 e.val (hx x (AaT ..)) k2
    exact⟨(x.1,y)::ys,⟨k1,hy2,y1⟩,by simp[y2],fun z hz=>(mem_cons.1 hz).elim (fun e=>by subst e;exact hy1) (y3 z)⟩
 obtain⟨ys,y1,y2,y3⟩:=key _ _ h3 fun x hx=>(h4.2 x.1 x.2).1 hx;refine⟨es,c,ys,h1,h2,y1,by rw[y2];exact h4.1,fun a y=>⟨fun hm=>y3 _ hm,fun hf=>?_⟩⟩;cases hg:g a with
 |none=>rw[hn a hg]at hf;cases hf
 |some x=>
  have h5:(a,x)∈xs:=(h4.2 a x).2 hg
  have h6:a∈ys.map (·.1):=by rw[y2];exact mem_map.2 ⟨_,h5,rfl⟩
  obtain⟨z,hz,rfl⟩:=mem_map.1 h6
  have:=y3 z hz
  rw[hf]at this
  cases this
  exact hz
def s70(d:Desk):AS:=⟨[(1,.ptr 1 0),(2,.ptr 2 0),(3,.int .i64 0),(4,.ptr 4 0)],
 [(4,.row 99 [.int .i64 d.terms.answer,.int .i64 d.terms.mark,.int .i64 d.terms.lately,.dat (.sl (.st 1)) d.reports,.dat (.sl (.st 2)) d.disputes,.dat (.sl (.st 3)) d.answers,.own 13,.own 14]),(14,.own false (.mp 3 (.int .i64) (.sl (.st 3))) (fnone:A4 Int (List Answer))),(13,.own false (.mp 3 (.int .i64) (.st 1)) (fnone:A4 Int Report)),
  (2,.row 99 [.int .i64 0,.int .i64 0,.int .i64 0,.nilS,.nilS,.nilS,.raw (.map none),.raw (.map none)]),(1,.row 28 [.int .i64 d.terms.answer,.int .i64 d.terms.mark,.int .i64 d.terms.lately,.dat (.sl (.st 1)) d.reports,.dat (.sl (.st 2)) d.disputes,.dat (.sl (.st 3)) d.answers])],[],[]⟩
noncomputable def AOx:Code:=match f70.body with
 |some (.seq _ (.seq _ (.seq c _)))=>c
 |_=>.skip
def AOy:Sh:=⟨[(.cont 13,.own (.mp 3 (.int .i64) (.st 1)))],[4,14,13,2,1]⟩
theorem AGw:GxOk prog gxb:=B1 trivial
theorem AXz(d:Desk):exec gxb 65 (fun _=>(none:Option Unit)) AOx anpre70.r.r (I3 AOy) (fun _ _=>none) (fun _=>none) (s70 d)=U8 d:=by kernel_rfl
def Q3(d:Desk):Option (Desk_99×Int):=(U8 d).bind fun f=>(ACM ⟨d,f,fnone⟩ 0 4).bind fun e=>if e=0 then (AJZ d.answers fnone).bind fun h=>some (⟨d,f,h⟩,0) else some (⟨d,f,fnone⟩,e)
def ctr70:Ctr:=⟨[.d (.st 4)],[.d (.st 10),.d (.int .i64)],fun a=>Q3 a.1⟩
theorem ANa{M:List Nat}{W:World}{d:Desk}{f:A4 Int Report}{h:A4 Int (List Answer)}{v3 v4 v5 v6 v7:Value}(k0:InK .i64 d.terms.answer)(k1:InK .i64 d.terms.mark)(k2:InK .i64 d.terms.lately)(k3:OkD (P:=prog) M W (.sl (.st 1)) d.reports v3)(k4:OkD (P:=prog) M W (.sl (.st 2)) d.disputes v4)(k5:OkD (P:=prog) M W (.sl (.st 3)) d.answers v5)(k6:OkD (P:=prog) M W (.mp 3 (.int .i64) (.st 1)) f v6)(k7:OkD (P:=prog) M W (.mp 3 (.int .i64) (.sl (.st 3))) h v7)(c3:v3.cells=#[v3])(c4:v4.cells=#[v4])(c5:v5.cells=#[v5])(c6:v6.cells=#[v6])(c7:v7.cells=#[v7]):
  OkD (P:=prog) M W (.st 10) (⟨d,f,h⟩:Desk_99) (.agg (toArray [.int .i64 d.terms.answer,.int .i64 d.terms.mark,.int .i64 d.terms.lately,v3,v4,v5,v6,v7])):=
 H8 (ρ:=fun _=>undef) (R:=fun _=>none) (M:=M) (fun _ h=>h) (.st 10) (.agg [.int .i64 d.terms.answer,.int .i64 d.terms.mark,.int .i64 d.terms.lately,.dat (.sl (.st 1)) d.reports,.dat (.sl (.st 2)) d.disputes,.dat (.sl (.st 3)) d.answers,.dat (.mp 3 (.int .i64) (.st 1)) f,.dat (.mp 3 (.int .i64) (.sl (.st 3))) h]) (fun i hi=>by cases hi) rfl
  ⟨_,rfl,_,[_],_,rfl,⟨rfl,k0⟩,rfl,_,[_],_,rfl,⟨rfl,k1⟩,rfl,_,[_],_,rfl,⟨rfl,k2⟩,rfl,v3,[v3],_,rfl,⟨rfl,k3⟩,c3,v4,[v4],_,rfl,⟨rfl,k4⟩,c4,v5,[v5],_,rfl,⟨rfl,k5⟩,c5,v6,[v6],_,rfl,⟨rfl,k6⟩,c6,v7,[v7],_,rfl,⟨rfl,k7⟩,c7,rfl⟩
theorem ok70:Ctr.ok prog 70 ctr70:=by
 refine⟨by decide,fun M w a vals r hM hg ha hr=>?_⟩;obtain⟨d,_⟩:=a;obtain⟨vd,_,rfl,hvd,rfl⟩:=ha;have hvd:OkD (P:=prog) M w (.st 4) d vd:=hvd;have hr:Q3 d=some r:=hr;unfold Q3 at hr;obtain⟨f,hf,hr⟩:=C5 hr;obtain⟨e,he,hr⟩:=C5 hr;have h0:Holds (P:=prog) w [] M ⟨[(0,.str 4 d)],[],[],[]⟩ [(0,vd)] w:=by
  refine Holds.start hM (fun t s ht=>?_) ⟨trivial,hg⟩;rw[fnd_cons]at ht;split at ht
  . rename_i e;subst e;cases ht;exact⟨vd,rfl,hvd⟩
  . cases ht
 refine B9 (l:=[vd]) (fn:=f70) func70 rfl rfl rfl ?_;refine A3 ?_;refine ABY AGw (by exact rfl) h0 fun L1 w1 hE1 h1=>?_;refine A3 ?_;refine ABY AGw (by exact rfl) h1 fun L2 w2 hE2 h2=>?_;have h3:=AFQ (env':=(s70 d).env) (res':=(s70 d).res) h2 ⟨rfl,rfl,rfl,rfl,trivial⟩ fun _=>rfl;clear h1 h2;refine A3 ?_;refine AQO AGw AOx anpre70.r.r (sh:=AOy) (σ:=s70 d) ((AXz d).trans hf) h3 fun L3 w3 hE3 h4=>?_;obtain⟨S,ρ,γ,μ,ι,hS⟩:=h4;obtain⟨v4,l4,bb4,hb4,rfl⟩:=hS.env 4 (.ptr 4 0) rfl;obtain⟨v2,l2,bb2,hb2,rfl⟩:=hS.env 2 (.ptr 2 0) rfl;obtain⟨v1,l1,bb1,hb1,rfl⟩:=hS.env 1 (.ptr 1 0) rfl;obtain⟨v3,l3,rfl,_⟩:=hS.env 3 (.int .i64 0) rfl;obtain⟨b4,e4,r4,o4,i4⟩:=hS.rowAt (i:=4) (e:=99) (l:=[.int .i64 d.terms.answer,.int .i64 d.terms.mark,.int .i64 d.terms.lately,.dat (.sl (.st 1)) d.reports,.dat (.sl (.st 2)) d.disputes,.dat (.sl (.st 3)) d.answers,.own 13,.own 14]) rfl;obtain⟨b2,e2,r2,o2,i2⟩:=hS.rowAt (i:=2) (e:=99) (l:=[.int .i64 0,.int .i64 0,.int .i64 0,.nilS,.nilS,.nilS,.raw (.map none),.raw (.map none)]) rfl;obtain⟨b1,e1,r1,o1,i1⟩:=hS.rowAt (i:=1) (e:=28) (l:=[.int .i64 d.terms.answer,.int .i64 d.terms.mark,.int .i64 d.terms.lately,.dat (.sl (.st 1)) d.reports,.dat (.sl (.st 2)) d.disputes,.dat (.sl (.st 3)) d.answers]) rfl;have i13:=hS.res 13 (.own false (.mp 3 (.int .i64) (.st 1)) f) rfl;have i14:=hS.res 14 (.own false (.mp 3 (.int .i64) (.sl (.st 3))) (fnone:A4 Int (List Answer))) rfl;obtain⟨b13,e13⟩:∃b,ρ 13=.map (some b):=hS.row 13 _ rfl;obtain⟨b14,e14⟩:∃b,ρ 14=.map (some b):=hS.row 14 _ rfl;rw[hb4]at e4;cases e4;rw[hb2]at e2;cases e2;rw[hb1]at e1;cases e1;obtain⟨qa,g4,k0,oa⟩:=AAj o4;obtain⟨qb,ea,k1,ob⟩:=AAj oa;obtain⟨qc,eb,k2,oc⟩:=AAj ob;obtain⟨vr,qd,ec,dr,cr,od⟩:=AEq oc;obtain⟨vx,qe,ed,dx,cx,oe⟩:=AEq od;obtain⟨vy,qf,ee,dy,cy,of⟩:=AEq oe;obtain⟨qg,ef,og⟩:=AC5 of;obtain⟨qh,eg,oh⟩:=AC5 og;have oh:qh=[]:=oh;rw[oh]at eg;rw[eg,e14]at ef;rw[ef,e13]at ee;rw[ee]at ed;rw[ed]at ec;rw[ec]at eb;rw[eb]at ea;rw[ea]at g4;rw[g4]at r4 i4;obtain⟨pa,g1,_,oa1⟩:=AAj o1;obtain⟨pb,fa,_,ob1⟩:=AAj oa1;obtain⟨pc,fb,_,oc1⟩:=AAj ob1;obtain⟨vr1,pd,fc,_,_,od1⟩:=AEq oc1;obtain⟨vx1,pe,fd,_,_,oe1⟩:=AEq od1;obtain⟨va1,pf,fe,da1,_,of1⟩:=AEq oe1;have of1:pf=[]:=of1;rw[of1]at fe;rw[fe]at fd;rw[fd]at fc;rw[fc]at fb;rw[fb]at fa;rw[fa]at g1;rw[g1]at r1 i1;have hn2:(γ 2).length=8:=by
  obtain⟨_,t1,a1,u1⟩:=ABZ o2 fun u h=>by obtain⟨rfl,_⟩:=h;rfl
  obtain⟨_,t2,a2,u2⟩:=ABZ u1 fun u h=>by obtain⟨rfl,_⟩:=h;rfl
  obtain⟨_,t3,a3,u3⟩:=ABZ u2 fun u h=>by obtain⟨rfl,_⟩:=h;rfl
  obtain⟨_,t4,a4,u4⟩:=ABZ u3 fun u h=>by have h:u=.slice none 0 0:=h;rw[h];rfl
  obtain⟨_,t5,a5,u5⟩:=ABZ u4 fun u h=>by have h:u=.slice none 0 0:=h;rw[h];rfl
  obtain⟨_,t6,a6,u6⟩:=ABZ u5 fun u h=>by have h:u=.slice none 0 0:=h;rw[h];rfl
  obtain⟨_,t7,a7,u7⟩:=ABZ u6 fun u h=>by obtain⟨rfl,_⟩:=h;rfl
  obtain⟨_,t8,a8,u8⟩:=ABZ u7 fun u h=>by obtain⟨rfl,_⟩:=h;rfl
  have u8:t8=[]:=u8;rw[a1,a2,a3,a4,a5,a6,a7,a8,u8];rfl
 have i13:S[ι 13]?=some (mapO K3 ReportE true b13 f):=by rw[i13];show some (mapRes (P:=prog) [] 3 (.int .i64) (.st 1) (blk (ρ 13)) f)=_;rw[e13];rfl
 have i14:S[ι 14]?=some (mapO K3 (enc (P:=prog) (.sl (.st 3))) false b14 fnone):=by rw[i14];show some (mapRes (P:=prog) [] 3 (.int .i64) (.sl (.st 3)) (blk (ρ 14)) fnone)=_;rw[e14];rfl
 have hI:=hS.hp;have hgl:=hS.anch.2;have hne:∀{i j:Nat} {a b:AR},A1 (B8 (D6 AOx++D5 anpre70.r.r) AOy (s70 d) f).res i=some a->A1 (B8 (D6 AOx++D5 anpre70.r.r) AOy (s70 d) f).res j=some b->i≠j->ι i≠ι j:=fun {i j a b} h1 h2 hn e=>hn (hS.inj _ _ _ _ h1 h2 e);have n4:ι 4≠ι 14:=hne (i:=4) (j:=14) rfl rfl (by decide);have n2:ι 2≠ι 14:=hne (i:=2) (j:=14) rfl rfl (by decide);have n1:ι 1≠ι 14:=hne (i:=1) (j:=14) rfl rfl (by decide);have n13:ι 13≠ι 14:=hne (i:=13) (j:=14) rfl rfl (by decide);have n24:ι 2≠ι 4:=hne (i:=2) (j:=4) rfl rfl (by decide);have n213:ι 2≠ι 13:=hne (i:=2) (j:=13) rfl rfl (by decide);clear hne hS o1 o4 oa ob oc od oe of og oa1 ob1 oc1 od1 oe1;have hI1:Hp w [] M (S.set (ι 14) (mapO K3 rawE false b14 fnone)) w3:=hI.upd (ι 14) i14 (Kp.refl _ _) (fun b hb=>.inl hb) rfl fun M' hM'=>ACN (hI.mapAt' _ i14) (fun k x v h=>by cases h) (fun k _=>rfl);have x1:Adv (mm S M) (mm (S.set (ι 14) (mapO K3 rawE false b14 fnone)) M) w3 w3:=hI.updA (r':=mapO K3 rawE false b14 fnone) (ι 14) i14 (Kp.refl _ _) (fun b hb=>.inl hb);have memM2:∀b∈bb2::M,b∈mm S M:=fun b hb=>mem_mm.2 ((mem_cons.1 hb).imp (fun e=>⟨_,AaP i2,by rw[e];exact mem_singleton.2 rfl⟩) id);have nin:∀{b:Nat} {j:Nat} {r:Res},S[j]?=some r->b∈r.fp->ι 2≠j->b∉bb2::M:=fun {b j r} hj hb hn hm=>by
  rcases mem_cons.1 hm with e|hm
  . exact hI.dis (ι 2) j _ _ i2 hj hn bb2 (mem_singleton.2 rfl) (e▸hb)
  . exact hI.sepM _ (AaP hj) b hb hm
 have n214:ι 2≠ι 14:=n2;have h4r:RdC (bb2::M) w3 bb4 0 _:=G5 (nin i4 (mem_singleton.2 rfl) n24) r4;have d13:OkD (P:=prog) (bb2::M) w3 (.mp 3 (.int .i64) (.st 1)) f (.map (some b13)):=⟨[_],⟨_,K3,rfl,rfl,b13,rfl,nin i13 (mem_singleton.2 rfl) n213,ACN (hI.mapAt' _ i13) (fun k x v h hv=>⟨x,h,hv.mon fun b hb=>.inl (memM2 b hb)⟩) (fun k h=>h)⟩,.inr ⟨rfl,rfl⟩⟩;have d14:OkD (P:=prog) (bb2::M) w3 (.mp 3 (.int .i64) (.sl (.st 3))) (fnone:A4 Int (List Answer)) (.map (some b14)):=⟨[_],⟨_,K3,rfl,rfl,b14,rfl,nin i14 (mem_singleton.2 rfl) n214,ACN (hI.mapAt' _ i14) (fun k x v h=>by cases h) (fun k h=>h)⟩,.inr ⟨rfl,rfl⟩⟩;have hdesk:=ANa k0 k1 k2 (OkD.adv dr (Adv.drop memM2)) (OkD.adv dx (Adv.drop memM2)) (OkD.adv dy (Adv.drop memM2)) d13 d14 cr cx cy rfl rfl;obtain⟨cs,hR,hcs⟩:=id hdesk;have hcs:cs=[.int .i64 d.terms.answer,.int .i64 d.terms.mark,.int .i64 d.terms.lately,vr,vx,vy,.map (some b13),.map (some b14)]:=by
  rcases hcs with⟨_,h⟩|⟨h,_⟩
  . have h:=Value.agg.inj h;simpa using h.symm
  . cases h
 subst hcs;have hw3:w.heap.size<=w3.heap.size:=hI.kp.size;have hb2:w.heap.size<=bb2:=((hI.own _ (AaP i2)).2 bb2 (mem_singleton.2 rfl)).resolve_left (fun h=>by cases h);refine A3 ?_;refine AOw (fun b hb=>hI.mlt b (memM2 b hb)) (hgl.adv (Adv.drop memM2)) h4r hR r2 ?_ l2 l4 he (fun he0 L4 w4 hE4 lk4=>?_) (fun hne L4 w4 w5 hE4 hk5 hr5 hke lk4 l34=>?_)
 . exact hn2
 . rw[Aac he0]at hr;obtain⟨h,hh,hr⟩:=C5 hr;cases hr
   refine A3 ?_;have hw4:w.heap.size<=w4.heap.size:=Aad hw3 hE4.size;refine ARn (S0:=S.set (ι 14) (mapO K3 rawE false b14 fnone)) (jm:=ι 14) (j4:=ι 4) (j1:=ι 1) (bm:=b14) (hI1.ext hE4) (AbZ (List.getElem?_eq_some_iff.1 i14).1) (by rw[AbA (AcE n4)];exact i4) rfl (by rw[AbA (AcE n1)];exact i1) rfl (OkD.rds (OkD.adv da1 (x1.trans (Adv.of_ext hE4)))) n4 hw4 ((lk4 1 (by decide)).trans l1) ((lk4 4 (by decide)).trans l4) hh fun L5 w5 g os lk5 hg5 hh5 hH5=>?_;rw[List.set_set]at hH5;have hlo:(N3 os).length=os.length:=by simp[N3]
   have at1:∀{j:Nat} {q:Res},S[j]?=some q->j≠ι 14->(N3 os++S.set (ι 14) (mapO K3 rawE false b14 g))[os.length+j]?=some q:=fun {j q} hj hn=>by
    rw[Aa8 (by rw[hlo];omega),hlo,AbT,AbA (AcE hn)];exact hj
   have at14:(N3 os++S.set (ι 14) (mapO K3 rawE false b14 g))[os.length+ι 14]?=some (mapO K3 rawE false b14 g):=by
    rw[Aa8 (by rw[hlo];omega),hlo,AbT,AbZ (List.getElem?_eq_some_iff.1 i14).1]
   refine A3 ?_;refine A7 ?_;refine Y0 ((lk5 4 (by decide)).trans ((lk4 4 (by decide)).trans l4)) (hH5.1.row _ (at1 i4 n4)).rd.cells isAgg99 rfl sizeOf99 rfl ?_;refine N2 (os.length+ι 2) hH5.1 (at1 i2 n2) ((lk5 2 (by decide)).trans ((lk4 2 (by decide)).trans l2)) rfl rfl sizeOf99 rfl (by rw[hn2];rfl) ((enc (P:=prog) (.st 10)).one hR) ?_;intro w6 hI6 x6;refine C6 rfl rfl ?_;refine Reg.nil ?_;refine C0 ?_;rw[AFR (by rw[hn2];rfl)]at hI6 x6;have hx6:=x1.trans ((Adv.of_ext hE4).trans (hH5.2.trans x6));have keep:∀{j:Nat} {q:Res},(N3 os++S.set (ι 14) (mapO K3 rawE false b14 g))[j]?=some q->j≠os.length+ι 2->((N3 os++S.set (ι 14) (mapO K3 rawE false b14 g)).set (os.length+ι 2) (rowR 99 bb2 [.int .i64 d.terms.answer,.int .i64 d.terms.mark,.int .i64 d.terms.lately,vr,vx,vy,.map (some b13),.map (some b14)]))[j]?=some q:=fun {j q} hj hn=>by
    rw[AbA (AcE hn)];exact hj
   have f13:=keep (at1 i13 n13) (by omega);have f14:=keep at14 (by omega);have fown:∀o∈os,RdS AnswerE M w6 o.2.1 o.2.2:=fun o ho=>by
    obtain⟨i,hi⟩:=Aar ho;have hil:i<os.length:=(List.getElem?_eq_some_iff.1 hi).1;have h1:(N3 os++S.set (ι 14) (mapO K3 rawE false b14 g))[i]?=some (ownR [] AnswerE 60 o.2.1 o.2.2):=by
     rw[Aaw (by rw[hlo];exact hil)];simp only[N3,List.getElem?_map,hi];rfl
    have h2:=keep h1 (by omega);exact((hI6.ownAt i h2).mon fun b hb=>.inr (mem_mm.2 (.inr hb))).rd fun b hb=>hI6.sepM _ (AaP h2) b hb
   have c13:OkD (P:=prog) M w6 (.mp 3 (.int .i64) (.st 1)) f (.map (some b13)):=⟨[_],⟨_,K3,rfl,rfl,b13,rfl,hI.sepM _ (AaP i13) b13 (mem_singleton.2 rfl),ACN (hI6.mapAt' _ f13) (fun k x v h hv=>⟨x,h,hv.mon fun b hb=>.inl (mem_mm.2 (.inr hb))⟩) (fun k h=>h)⟩,.inr ⟨rfl,rfl⟩⟩;have c14:OkD (P:=prog) M w6 (.mp 3 (.int .i64) (.sl (.st 3))) h (.map (some b14)):=⟨[_],⟨_,K3,rfl,rfl,b14,rfl,hI.sepM _ (AaP i14) b14 (mem_singleton.2 rfl),ACN (hI6.mapAt' _ f14) (fun k x v hk hv=>by
    obtain⟨o,ho,ho2⟩:=mem_map.1 ((hg5.2 k x).2 hk);cases ho2
    obtain⟨cs,⟨h1,_⟩,⟨h2,_⟩|⟨_,h2⟩⟩:=hv
    . cases h2
    . rw[h1]at h2;have h2:=List.singleton_inj.1 h2;subst h2;exact⟨o.2.2,(hh5.2 o.1 o.2.2).1 (mem_map.2 ⟨o,ho,rfl⟩),[_],⟨_,rfl,fown o ho⟩,.inr ⟨rfl,rfl⟩⟩) (fun k hk=>by
    refine hh5.none fun x hx e=>?_;obtain⟨o,ho,rfl⟩:=mem_map.1 hx;have h1:=(hg5.2 o.1 o.2.1).1 (mem_map.2 ⟨o,ho,rfl⟩);rw[show o.1=k from e,hk]at h1;cases h1)⟩,.inr ⟨rfl,rfl⟩⟩
   have memM:∀b∈M,b∈mm ((N3 os++S.set (ι 14) (mapO K3 rawE false b14 g)).set (os.length+ι 2) (rowR 99 bb2 [.int .i64 d.terms.answer,.int .i64 d.terms.mark,.int .i64 d.terms.lately,vr,vx,vy,.map (some b13),.map (some b14)])) M:=fun b hb=>mem_mm.2 (.inr hb);have hfin:=ANa (d:=d) (f:=f) (h:=h) k0 k1 k2 ((OkD.adv dr hx6).mon memM) ((OkD.adv dx hx6).mon memM) ((OkD.adv dy hx6).mon memM) c13 c14 cr cx cy rfl rfl;have r6:=hI6.row (os.length+ι 2) (AbZ (List.getElem?_eq_some_iff.1 (at1 i2 n2)).1);exact H2 (rs:=[.cell 2 99,.tmp 3]) (vs:=[_,_]) rfl (.cons (.agg ((lk5 2 (by decide)).trans ((lk4 2 (by decide)).trans l2)) r6.rd.cells isAgg99 rfl sizeOf99) (.cons (.tmp rfl) .nil)) rfl ⟨[_,_],rfl,⟨_,_,rfl,hfin,_,rfl,⟨[_],⟨rfl,(by decide:InK .i64 0)⟩,.inr ⟨rfl,rfl⟩⟩⟩,hI6.kp⟩
 . rw[if_neg hne]at hr;cases hr
   have hA5:Adv (bb2::M) (bb2::M) w3 w5:=⟨(hE4.mono fun b hb=>by cases hb).trans (hk5.mono fun b hb=>.inl (mem_cons.2 (.inl (mem_singleton.1 hb)))),fun b hb=>.inl hb⟩;refine H2 (rs:=[.cell 2 99,.tmp 3]) (vs:=[_,_]) rfl (.cons (.agg ((lk4 2 (by decide)).trans l2) hr5.rd.cells isAgg99 rfl sizeOf99) (.cons (.tmp l34) .nil)) rfl ⟨[_,_],rfl,⟨_,_,rfl,(OkD.adv hdesk hA5).mon fun b hb=>AaQ _ hb,_,rfl,⟨[_],⟨rfl,hke⟩,.inr ⟨rfl,rfl⟩⟩⟩,?_⟩;exact(hI.kp.trans hE4).tail hk5 fun c hc=>by rw[mem_singleton.1 hc];exact .inr hb2
end Go.Proofs.YtgioiejbphljoaaGreatDoor
namespace Go.Rx
open Go Go.Sx Go.RowKit
section
variable[Trk]
theorem AQP(htk:¬Trk.t){M:List Nat}{w W W':World}(h:Adv M M w W)(k:KI M w.heap.size W W'):Adv M M w W':=
 ⟨⟨k.1.trans h.kp.os,k.2.1.trans h.kp.tape,k.2.2.1.trans h.kp.output,Aad h.kp.size k.2.2.2.1,fun b hb hn=>(k.2.2.2.2 b hb hn).trans (h.kp.block b hb hn),fun t=>absurd t htk⟩,fun b hb=>.inl hb⟩
theorem ATu{M:List Nat}{w W:World}(hM:MLt M w)(h:Adv M M w W):MLt M W:=fun b hb=>Aah (hM b hb) h.kp.size
end
section
variable[Trk][Sg][Sf]{P:Program}[Se P]
theorem AGL{ρ:Nat->Value}{R:Nat->Option AR}{M:List Nat}{w:World}:∀{l:List (IntKind×Int)} {vs:List Value},OkL (P:=P) ρ R M w (l.map fun p=>.int p.1 p.2) vs->vs=(l.map fun p=>Value.int p.1 p.2)/\∀p∈l,InK p.1 p.2
 |[],vs,h=>⟨h,fun _ h=>by cases h⟩
 |p::l,vs,h=>by
  obtain⟨u,c,r,rfl,⟨rfl,hk⟩,h2,h3⟩:=h;obtain⟨rfl,h4⟩:=AGL h3;have h2:#[Value.int p.1 p.2]=toArray c:=h2;have:c=[Value.int p.1 p.2]:=by simpa using h2.symm
  subst this;exact⟨rfl,fun q hq=>(mem_cons.1 hq).elim (fun e=>by subst e;exact hk) (h4 q)⟩
end
end Go.Rx
namespace Go.Sx
open Go Go.RowKit
variable[Trk]
theorem AJa{n:Nat}{P:Program}{N:Nat}{ops:Array Oper}{rest:List Oper}{ds:List Deferred}{L:A8}{w:World}{A B:A5}{X:Nat->A5}{Z:List PanicEntry->A5}{d e b o m:Nat}{x:Operand}{cs:List Value}{ty:TypeId}{pos:String}{af:Array Edge}(hx:ev L x=some (.pointer (some ⟨b,o,none⟩)))(hc:Cells w b o cs)(he:∀w,(isAgg e).run P w=.ok true w)(hn:cs.length=m)(hz:∀w,(sizeOf e).run P w=.ok m w)(hN:blt d N=true)(h:Rgi n P N ops rest ds ((d,.agg cs.toArray)::L) w A B X Z):Rgi n P N ops (⟨some d,.load e x,ty,pos,af,none⟩::rest) ds L w A B X Z:=by
 subst hn;refine Rgi.val _ rfl rfl hN rfl (fun a ha=>?_) h;have:=run_loadCells_list (P:=P) w ⟨b,o,none⟩ cs (fun j v hj=>by rw[add_none];exact hc j v hj);have h9:=ha.eval hx;simp[execOp,h9,Instr.loadAt,Instr.sureAddr,loadVar,he,hz,this]
end Go.Sx
namespace Go.Proofs.YtgioiejbphljoaaGreatDoor
open Go Go.Sx Go.Rx Go.RowKit
def AGM(d:Desk_99)(day:Int):List Dispute->Option (List (Dispute×Verdict))
 |[]=>some []
 |x::l=>(F4 d x day).bind fun r=>(AGM d day l).bind fun ys=>some (if 3<=r.1 then(x,r.2)::ys else ys)
section
variable{α:Type}{M:List Nat}{w:World}{d:Desk_99}{day:Int}
theorem AGN{l:List α}{i:Nat}(h:i<l.length):l.drop i=l[i]::l.drop (i+1):=Ab5 h
theorem AVg:GxOk prog { gxb with fs:=[(57,ctr57)] }:=B1 ⟨⟨ok57,call57⟩,trivial⟩
theorem AMM{l:List α}{n:Nat}{x:α}(h:l[n]?=some x):l.take (n+1)=l.take n++[x]:=by
 rw[Ab8,h];rfl
def ASh(d:Desk_99)(day:Int)(l:List Dispute)(i:Int):List (Nat×SV):=[(1,.rp (.str 10 d) 0),(2,.rp (.int .i64 day) 0),(10,.dat (.sl (.st 2)) l),(12,.int .i64 i)]
theorem AFd(n:Nat)(hM:MLt M w)(hg:GlOk (P:=prog) M w){v1 v2:Value}(h1:Ok (P:=prog) (fun _=>undef) (fun _=>none) M w (.rp (.str 10 d) 0) v1)(h2:Ok (P:=prog) (fun _=>undef) (fun _=>none) M w (.rp (.int .i64 day) 0) v2){ys:List (Dispute×Verdict)}(hd:AGM d day d.desk.disputes=some ys)(val:α->Dispute×Verdict)(zs:List α)(hzs:zs.map val=ys):
  SeqStopsK Fence.wide n prog 84 #[v1,v2] (fun x=>#[M8 (.st 2) (val x).1,M8 (.st 12) (val x).2]) (KI M w.heap.size) (fun ys=>ys=zs) (fun pre=>pre <+: zs) zs.length w:=by
 intro lp J Jx W hW hJ _ hY h0
 have hE:Ext w W:=ACT hW (fun h=>h)
 have hA0:Adv M M w W:=Adv.of_ext hE
 subst hzs
 obtain⟨b,o0,u,vs,rfl,hc,hu,hcu⟩:=id h1
 obtain⟨v10,hv10,hk10⟩:∃v10,vs[4]?=some v10/\Ok (P:=prog) (fun _=>undef) (fun _=>none) M w (.dat (.sl (.st 2)) d.desk.disputes) v10:=by
  rcases AFE (G:=gxb) (t:=25) (o:=4) (v:=.str 10 d) (s:=.dat (.sl (.st 2)) d.desk.disputes) rfl hu with⟨_,y,h3,h4⟩|⟨n,cs,h3,_⟩
  . rw[hcu]at h3;exact⟨y,h3,h4⟩
  . cases h3
 have hds:=OkD.rds hk10.2
 obtain⟨a10,c10,hv,hlen,hle⟩:=hds.shape
 subst hv
 refine callsIn_wide.2 ?_
 let R:Ending->World->Prop:=fun e W'=>(∃v,e=.returned v)/\((∃xs,xs=zs/\J xs W')\/(∃pre,pre <+: zs/\Jx pre W'))
 have hret:∀(pre:List α) (L:Sx.A8) (W':World),pre <+: zs->Jx pre W'->ABs prog f84 R [] L W':=fun pre L W' h1 h2=>H2 (rs:=[]) (vs:=[]) rfl .nil rfl ⟨⟨_,rfl⟩,.inr ⟨pre,h1,h2⟩⟩
 refine B9 (l:=[.func (.yield lp) #[] #[],.pointer (some ⟨b,o0+0,none⟩),v2]) (fn:=f84) func84 rfl rfl rfl ?_
 refine A3 ?_
 refine A7 ?_
 refine M3 rfl underlying99 rfl sizeOf28 rfl ?_
 refine M3 rfl underlying28 rfl sizeOf25 rfl ?_
 refine J8 rfl ((hc.adv hA0).cells.at 4 hv10) isAgg25 rfl ?_
 refine AFk rfl underlying25 rfl ?_
 refine E5 rfl rfl ?_
 refine Reg.nil ?_
 refine C4 ?_
 let ls:=d.desk.disputes
 have hlen_:InK .i64 ((ls.length:Nat):Int):=hds.inK
 refine AAc (ι:=A8×Nat×Nat) (fun q=>q.1) (fun q W'=>(Sx.A6 q.1 0=some (.func (.yield lp) #[] #[])/\Sx.A6 q.1 1=some (.pointer (some ⟨b,o0+0,none⟩))/\Sx.A6 q.1 2=some v2/\Sx.A6 q.1 10=some (.slice a10 ls.length c10)/\Sx.A6 q.1 11=some (.int .i64 (ls.length:Nat))/\Sx.A6 q.1 12=some (.int .i64 (q.2.1:Nat)))/\q.2.1<=ls.length/\AGM d day (ls.drop q.2.1)=some ((zs.drop q.2.2).map val)/\q.2.2<=zs.length/\J (zs.take q.2.2) W'/\Adv M M w W') (fun q=>ls.length-q.2.1) (_,0,0) ⟨⟨rfl,rfl,rfl,rfl,rfl,rfl⟩,Aas _,by simpa using hd,Aas _,by simpa using h0,hA0⟩ (Sub.refl _) ?_
 rintro⟨L,i,k⟩ W1 ⟨⟨l0,l1,l2,l10,l11,l12⟩,hi,hdi,hk,hJi,hA1⟩
 dsimp only at l0 l1 l2 l10 l11 l12 hi hdi hk hJi ⊢
 refine A3 ?_
 refine A7 ?_
 refine AEw l12 l11 rfl ?_
 refine Reg.nil ?_
 refine A3 ?_
 refine T4 (by show Sx.A6 ((13,_)::L) 13=_;rw[look_cons,Aac rfl]) (fun hlt=>?_) (fun hge=>?_)
 . have hlt:i<ls.length:=by simpa using hlt
   rw[AGN hlt]at hdi
   obtain⟨r,hr,hdi⟩:=C5 hdi
   obtain⟨ys',hys',hdi⟩:=C5 hdi
   have hdi:=AaO hdi
   refine E2 ?_
   refine A3 ?_
   refine C4 ?_
   have hst:Holds (P:=prog) W1 [] M ⟨ASh d day ls i,[],[],[]⟩ ((13,.bool (decide ((i:Int)<(ls.length:Int))))::L) W1:=by
    refine Holds.start (ATu hM hA1) (fun t s ht=>?_) ⟨trivial,hg.adv hA1⟩;unfold ASh at ht;rw[fnd_cons]at ht;split at ht
    . rename_i e;subst e;cases ht;exact⟨_,(by rw[look_cons,if_neg (by decide)];exact l1),Ok.adv hA1 _ h1⟩
    rw[fnd_cons]at ht;split at ht
    . rename_i e;subst e;cases ht;exact⟨_,(by rw[look_cons,if_neg (by decide)];exact l2),Ok.adv hA1 _ h2⟩
    rw[fnd_cons]at ht;split at ht
    . rename_i e;subst e;cases ht;exact⟨_,(by rw[look_cons,if_neg (by decide)];exact l10),Ok.adv hA1 _ hk10⟩
    rw[fnd_cons]at ht;split at ht
    . rename_i e;subst e;cases ht;exact⟨_,(by rw[look_cons,if_neg (by decide)];exact l12),rfl,InK.i64.2 (by rw[InK.i64]at hlen_;omega)⟩
    cases ht
   have hix:ixo ls (i:Int)=some ls[i]:=AIB (AaV hlt)
   refine A3 ?_
   refine ABn AVg hst hix rfl rfl fun L2 W2 hE2 hst2=>?_
   refine A3 ?_
   refine ABn AVg hst2 hr rfl rfl fun L3 W3 hE3 hst3=>?_
   obtain⟨S,ρ,γ,μ,ι,hS⟩:=hst3
   have hex:Ext W1 W3:=hS.hp.kp
   obtain⟨v5,l5,b5,hb5,rfl⟩:=hS.env 5 (.ptr 5 0) rfl
   obtain⟨v7,l7,b7,hb7,rfl⟩:=hS.env 7 (.ptr 7 0) rfl
   obtain⟨v6,l6,rfl,hk6⟩:=hS.env 6 (.int .u8 r.1) rfl
   obtain⟨c5,hc5,hr5,ho5,_⟩:=hS.rowAt (i:=5) rfl
   obtain⟨c7,hc7,hr7,ho7,_⟩:=hS.rowAt (i:=7) rfl
   rw[hb5]at hc5;cases hc5
   rw[hb7]at hc7;cases hc7
   obtain⟨hg5,_⟩:=AGL (l:=[(.i64,ls[i].id),(.i64,ls[i].report),(.i64,ls[i].day)]) ho5
   obtain⟨hg7,_⟩:=AGL (l:=[(.i64,r.2.day),(.u8,r.2.is_),(.i64,r.2.by_.id),(.i64,r.2.by_.dispute),(.i64,r.2.by_.day),(.u8,r.2.by_.says),(.i64,r.2.by_.about),(.i64,r.2.by_.cents)]) ho7
   rw[hg5]at hr5
   rw[hg7]at hr7
   have hJ3:J (zs.take k) W3:=hJ _ _ _ none hJi (Ext.grownBy hex) (fun r hr=>by cases hr)
   have hA3:Adv M M w W3:=hA1.trans (Adv.of_ext hex)
   have look3:∀t,t∉[5,6,7,13,14,15,16,17,18,19,20,21,22]->Sx.A6 L3 t=Sx.A6 L t:=fun t ht=>by
    rw[hE3 t (fun h=>ht ((by decide:∀u∈C2 _,u∈[5,6,7,13,14,15,16,17,18,19,20,21,22]) t h)),hE2 t (fun h=>ht ((by decide:∀u∈C2 _,u∈[5,6,7,13,14,15,16,17,18,19,20,21,22]) t h)),look_cons,if_neg (fun e=>ht (by subst e;decide))]
   have q0:=(look3 0 (by decide)).trans l0
   have q1:=(look3 1 (by decide)).trans l1
   have q2:=(look3 2 (by decide)).trans l2
   have q10:=(look3 10 (by decide)).trans l10
   have q11:=(look3 11 (by decide)).trans l11
   have q12:=(look3 12 (by decide)).trans l12
   clear look3 hE2 hE3 hS hst2 hst
   clear_value ls
   have add1:InK .i64 ((i:Int)+1):=InK.i64.2 (by rw[InK.i64]at hlen_;omega)
   refine A3 ?_
   refine AJC n ?_
   refine Rgi.val (.int .u8 r.1) rfl rfl rfl rfl (fun a ha=>by simp[execOp,ha.eval (x:=.tmp 6) l6]) ?_
   refine Rgi.val (.bool (decide (3<=r.1))) rfl rfl rfl rfl (fun a ha=>by
    have h9:=ha.eval (x:=.tmp 23) (v:=.int .u8 r.1) rfl;have h8:=ha.eval (x:=.const (.int .u8 3)) (v:=.int .u8 3) rfl;simp[execOp,h9,h8,eqGuard_geq,binOp_geq]) ?_
   refine Rgi.val (.bool (decide (3<=r.1))) rfl rfl rfl rfl (fun a ha=>by
    simp[execOp,ha.eval (x:=.tmp 24) (v:=.bool (decide (3<=r.1))) rfl]) ?_
   have look4:∀{p q u:Value} (t:Nat),t∉[23,24,25]->Sx.A6 ((25,p)::(24,q)::(23,u)::L3) t=Sx.A6 L3 t:=fun t ht=>by
    rw[look_cons,if_neg (fun e=>ht (by subst e;decide)),look_cons,if_neg (fun e=>ht (by subst e;decide)),look_cons,if_neg (fun e=>ht (by subst e;decide))]
   have m0:=(look4 (p:=.bool (decide (3<=r.1))) (q:=.bool (decide (3<=r.1))) (u:=.int .u8 r.1) 0 (by decide)).trans q0
   have m1:=(look4 (p:=.bool (decide (3<=r.1))) (q:=.bool (decide (3<=r.1))) (u:=.int .u8 r.1) 1 (by decide)).trans q1
   have m2:=(look4 (p:=.bool (decide (3<=r.1))) (q:=.bool (decide (3<=r.1))) (u:=.int .u8 r.1) 2 (by decide)).trans q2
   have m5:=(look4 (p:=.bool (decide (3<=r.1))) (q:=.bool (decide (3<=r.1))) (u:=.int .u8 r.1) 5 (by decide)).trans l5
   have m7:=(look4 (p:=.bool (decide (3<=r.1))) (q:=.bool (decide (3<=r.1))) (u:=.int .u8 r.1) 7 (by decide)).trans l7
   have m10:=(look4 (p:=.bool (decide (3<=r.1))) (q:=.bool (decide (3<=r.1))) (u:=.int .u8 r.1) 10 (by decide)).trans q10
   have m11:=(look4 (p:=.bool (decide (3<=r.1))) (q:=.bool (decide (3<=r.1))) (u:=.int .u8 r.1) 11 (by decide)).trans q11
   have m12:=(look4 (p:=.bool (decide (3<=r.1))) (q:=.bool (decide (3<=r.1))) (u:=.int .u8 r.1) 12 (by decide)).trans q12
   have m25:Sx.A6 ((25,Value.bool (decide (3<=r.1)))::(24,.bool (decide (3<=r.1)))::(23,.int .u8 r.1)::L3) 25=some (.bool (decide (3<=r.1))):=by rw[look_cons,Aac rfl]
   generalize ((25,Value.bool (decide (3<=r.1)))::(24,.bool (decide (3<=r.1)))::(23,.int .u8 r.1)::L3)=L4 at m0 m1 m2 m5 m7 m10 m11 m12 m25
   by_cases h3:3<=r.1
   . rw[Aab h3]at m25
     rw[Aac h3]at hdi
     obtain⟨z,hz,hzs,hkz⟩:∃z,zs[k]?=some z/\val z=(ls[i],r.2)/\ys'=(zs.drop (k+1)).map val:=by
      rcases Aag k zs.length with h|h
      . rw[AGN h,Aaj,AcH]at hdi;exact⟨zs[k],AaV h,hdi.1.symm,hdi.2⟩
      . rw[List.drop_of_length_le h]at hdi;cases hdi
     have hklt:k<zs.length:=(List.getElem?_eq_some_iff.1 hz).1
     have htk:=AMM hz
     have hY3:=hY (zs.take k) z W3 hJ3 (by rw[Aa3];omega)
     dsimp only at hY3
     rw[hzs]at hY3
     refine Rgi.take (t:=25) rfl m25 ?_
     refine Rgi.val (.func (.yield lp) #[] #[]) rfl rfl rfl rfl (fun a ha=>by simp[execOp,ha.eval (x:=.tmp 0) m0]) ?_
     refine Rgi.take (t:=25) rfl m25 ?_
     refine AJa m5 hr5.rd.cells isAgg53 rfl sizeOf53 rfl ?_
     refine Rgi.take (t:=25) rfl m25 ?_
     refine AJa m7 hr7.rd.cells isAgg111 rfl sizeOf111 rfl ?_
     refine Rgi.take (t:=25) rfl m25 ?_
     refine AIq rfl rfl rfl rfl hY3 ?_
     rintro e W4 (⟨rfl,hJ4,hk4⟩|⟨rfl,hJx4⟩)
     . refine⟨_,rfl,?_⟩
       refine Rgi.take (t:=25) rfl m25 ?_
       refine Rgi.val (.bool false) rfl rfl rfl rfl (fun a ha=>by simp[execOp,ha.eval (x:=.tmp 29) rfl,Op.unary]) ?_
       refine Rgi.val (.bool false) rfl rfl rfl rfl (fun a ha=>by
        have h9:=ha.eval (x:=.tmp 25) (v:=.bool true) m25;simp[execOp,h9,ha.eval (x:=.tmp 30) rfl,asBool]) ?_
       refine Rgi.nil ?_
       refine ABG rfl ?_
       refine E2 ?_
       refine A7 ?_
       refine AH5 m12 rfl rfl add1 ?_
       refine E5 rfl rfl ?_
       refine Reg.nil ⟨rfl,(_,i+1,k+1),?_,Sub.refl _,by dsimp only;omega⟩
       exact⟨⟨m0,m1,m2,m10,m11,rfl⟩,hlt,by rw[<-hkz];exact hys',hklt,by rw[htk];exact hJ4,AQP id hA3 hk4⟩
     . refine⟨_,rfl,?_⟩
       refine Rgi.take (t:=25) rfl m25 ?_
       refine Rgi.val (.bool true) rfl rfl rfl rfl (fun a ha=>by simp[execOp,ha.eval (x:=.tmp 29) rfl,Op.unary]) ?_
       refine Rgi.val (.bool true) rfl rfl rfl rfl (fun a ha=>by
        have h9:=ha.eval (x:=.tmp 25) (v:=.bool true) m25;simp[execOp,h9,ha.eval (x:=.tmp 30) rfl,asBool]) ?_
       refine Rgi.nil ?_
       refine ABr rfl ?_
       refine C0 ?_
       exact hret _ _ _ (htk▸List.take_prefix _ _) hJx4
   . rw[AaY h3]at m25
     rw[if_neg h3]at hdi
     refine Rgi.pass (t:=25) rfl rfl m25 rfl ?_
     refine Rgi.pass (t:=25) rfl rfl m25 rfl ?_
     refine Rgi.pass (t:=25) rfl rfl m25 rfl ?_
     refine Rgi.pass (t:=25) rfl rfl m25 rfl ?_
     refine Rgi.pass (t:=25) rfl rfl m25 rfl ?_
     refine Rgi.val (.bool false) rfl rfl rfl rfl (fun a ha=>by
      have h9:=ha.eval (x:=.tmp 25) (v:=.bool false) m25;have h8:=ha.eval (x:=.const (.bool false)) (v:=.bool false) rfl;simp[execOp,h9,h8,asBool]) ?_
     refine Rgi.nil ?_
     refine ABG rfl ?_
     refine E2 ?_
     refine A7 ?_
     refine AH5 m12 rfl rfl add1 ?_
     refine E5 rfl rfl ?_
     refine Reg.nil ⟨rfl,(_,i+1,k),?_,Sub.refl _,by dsimp only;omega⟩
     exact⟨⟨m0,m1,m2,m10,m11,rfl⟩,hlt,by rw[<-hdi];exact hys',hk,hJ3,hA3⟩
 . have hge:¬i<ls.length:=by simpa using hge
   obtain rfl:i=ls.length:=by omega
   rw[List.drop_length]at hdi
   have hdi:=AaO hdi
   have hkz:zs.length<=k:=by
    have:=AaX List.length hdi;simp at this;omega
   refine T3 (J7 ?_)
   refine H2 (rs:=[]) (vs:=[]) rfl .nil rfl ⟨⟨_,rfl⟩,.inl ⟨zs,rfl,?_⟩⟩
   rwa [Aa7 hkz]at hJi
theorem C45(hM:MLt M w){vd:Value}(hvd:OkD (P:=prog) M w (.st 10) d vd)(hkd:InK .i64 day):Calls prog 45 (toArray [vd,.int .i64 day]) w fun e w'=>∃p1 p2,e=.returned (.func (.func 84) #[] #[p1,p2])/\Ok (P:=prog) (fun _=>undef) (fun _=>none) M w' (.rp (.str 10 d) 0) p1/\Ok (P:=prog) (fun _=>undef) (fun _=>none) M w' (.rp (.int .i64 day) 0) p2/\Ext w w':=by
 have hvd0:=hvd;obtain⟨cs,h1,h3⟩:=hvd;obtain rfl:vd=.agg (toArray cs):=h3.elim (fun h=>h.2) fun h=>by cases h.1
 refine B9 (l:=[.agg (toArray cs),.int .i64 day]) (fn:=f45) func45 rfl rfl rfl ?_;have hI:=Hp.start (Mu:=[]) hM;refine A3 ?_;refine A7 ?_;refine R7 hI rfl rfl rfl ?_;intro b w2 hI2 x2;have hC2:=hI2.freezeRow 0 rfl;have hI2:=hI2.erase 0;refine R7 hI2 rfl rfl rfl ?_;intro b3 w3 hI3 x3;have hC3:=hI3.freezeRow 0 rfl;have hI3':=hI3.erase 0;have x3':Adv (mm [] M) (mm [] M) w2 w3:=x3.trans (E3 (σ:=[_]) 0);refine C6 rfl rfl ?_;refine Reg.nil ?_;refine A3 ?_;refine A7 ?_;refine AEB (xs:=[.tmp 2,.tmp 3]) rfl rfl ?_;refine C6 rfl rfl ?_;refine Reg.nil ?_;refine C0 ?_;exact H2 (rs:=[.tmp 4]) (vs:=[_]) rfl (.cons (.tmp rfl) .nil) rfl ⟨.pointer (some ⟨b,0,none⟩),.pointer (some ⟨b3,0,none⟩),rfl,⟨b,0,_,_,rfl,hC2.adv x3',OkD.adv hvd0 (Adv.of_ext hI3'.kp),rfl⟩,⟨b3,0,_,_,rfl,hC3,⟨rfl,hkd⟩,rfl⟩,hI3'.kp⟩
end
open Classical in
def D4(d:Desk_99)(day:Int):Option (List (Dispute×Verdict)):=(AGM d day d.desk.disputes).bind fun ys=>if ∀y∈ys,AEG [.st 2,.st 12] y then some ys else none
def AX0:Ctr:=⟨[.d (.st 10),.d (.int .i64)],[.it [.st 2,.st 12]],fun a=>D4 a.1 a.2.1⟩
theorem ok45:Ctr.ok prog 45 AX0:=by
 refine⟨by decide,fun M w a vals r hM hg ha hr=>?_⟩;obtain⟨d,day,_⟩:=a;obtain⟨vd,_,rfl,hvd,⟨vk,_,rfl,hvk,rfl⟩⟩:=ha;have hvd:OkD (P:=prog) M w (.st 10) d vd:=hvd;have hr:D4 d day=some r:=hr;obtain⟨rfl,hkd⟩:vk=.int .i64 day/\InK .i64 day:=by
  have h:OkD (P:=prog) M w (.int .i64) day vk:=hvk;exact E4 (ρ:=fun _=>undef) (R:=fun _=>none) (.int .i64) h
 unfold D4 at hr;obtain⟨ys,hys,hr⟩:=C5 hr;split at hr
 . rename_i hok;cases hr
   have hvd0:=hvd;obtain⟨cs,h1,h3⟩:=hvd;obtain rfl:vd=.agg (toArray cs):=h3.elim (fun h=>h.2) fun h=>by cases h.1
   refine B9 (l:=[.agg (toArray cs),.int .i64 day]) (fn:=f45) func45 rfl rfl rfl ?_;have hI:=Hp.start (Mu:=[]) hM;refine A3 ?_;refine A7 ?_;refine R7 hI rfl rfl rfl ?_;intro b w2 hI2 x2;have hC2:=hI2.freezeRow 0 rfl;have hI2:=hI2.erase 0;refine R7 hI2 rfl rfl rfl ?_;intro b3 w3 hI3 x3;have hC3:=hI3.freezeRow 0 rfl;have hI3':=hI3.erase 0;have x3':Adv (mm [] M) (mm [] M) w2 w3:=x3.trans (E3 (σ:=[_]) 0);refine C6 rfl rfl ?_;refine Reg.nil ?_;refine A3 ?_;refine A7 ?_;refine AEB (xs:=[.tmp 2,.tmp 3]) rfl rfl ?_;refine C6 rfl rfl ?_;refine Reg.nil ?_;refine C0 ?_;refine H2 (rs:=[.tmp 4]) (vs:=[_]) rfl (.cons (.tmp rfl) .nil) rfl ⟨[_],rfl,⟨_,rfl,⟨_,_,rfl,call84,hok,fun M1 w1 hA hM1 α val zs hzs=>?_⟩,rfl,rfl⟩,hI3'.kp⟩;exact AFd 2 hM1 ((hg.adv (Adv.of_ext hI3'.kp)).adv hA) (v1:=.pointer (some ⟨b,0,none⟩)) (v2:=.pointer (some ⟨b3,0,none⟩)) ⟨b,0,_,_,rfl,(hC2.adv x3').adv hA,OkD.adv hvd0 ((Adv.of_ext hI3'.kp).trans hA),rfl⟩ ⟨b3,0,_,_,rfl,hC3.adv hA,⟨rfl,hkd⟩,rfl⟩ hys val zs hzs
 . cases hr
def bwN(l:List Asked):Nat->List (Int×Asked)
 |0=>[]
 |n+1=>match l[n]? with
  |some x=>((n:Int),x)::bwN l n
  |none=>bwN l n
theorem AJb(n:Nat){M:List Nat}{w:World}(hM:MLt M w)(hg:GlOk (P:=prog) M w){l:List Asked}{v1:Value}(h1:Ok (P:=prog) (fun _=>undef) (fun _=>none) M w (.rp (.dat (.sl (.st 5)) l) 0) v1){α:Type}(val:α->Int×Asked)(zs:List α)(hzs:zs.map val=bwN l l.length):
  SeqStopsK Fence.wide n prog 85 #[v1] (fun x=>#[M8 (.int .i64) (val x).1,M8 (.st 5) (val x).2]) (KI M w.heap.size) (fun ys=>ys=zs) (fun pre=>pre <+: zs) zs.length w:=by
 intro lp J Jx W hW hJ _ hY h0
 have hE:Ext w W:=ACT hW (fun h=>h)
 have hA0:Adv M M w W:=Adv.of_ext hE
 obtain⟨b,o0,u,vs,rfl,hc,hu,hcu⟩:=id h1
 have hds:=OkD.rds hu.2
 obtain⟨a10,c10,rfl,hlen,hle⟩:=hds.shape
 obtain rfl:vs=[.slice a10 l.length c10]:=by
  have h:#[Value.slice a10 l.length c10]=toArray vs:=hcu;simpa using h.symm
 have hlen_:InK .i64 ((l.length:Nat):Int):=hds.inK
 rw[InK.i64]at hlen_
 refine callsIn_wide.2 ?_
 let R:Ending->World->Prop:=fun e W'=>(∃v,e=.returned v)/\((∃xs,xs=zs/\J xs W')\/(∃pre,pre <+: zs/\Jx pre W'))
 have hret:∀(pre:List α) (L:Sx.A8) (W':World),pre <+: zs->Jx pre W'->ABs prog f85 R [] L W':=fun pre L W' h1 h2=>H2 (rs:=[]) (vs:=[]) rfl .nil rfl ⟨⟨_,rfl⟩,.inr ⟨pre,h1,h2⟩⟩
 refine B9 (l:=[.func (.yield lp) #[] #[],.pointer (some ⟨b,o0+0,none⟩)]) (fn:=f85) func85 rfl rfl rfl ?_
 refine A3 ?_
 refine A7 ?_
 refine J8 rfl ((hc.adv hA0).cells.at 0 rfl) isAgg29 rfl ?_
 refine AFk rfl underlying29 rfl ?_
 refine AN1 rfl rfl rfl (InK.i64.2 (by omega)) ?_
 refine C6 rfl rfl ?_
 refine Reg.nil ?_
 refine C4 ?_
 refine AAc (ι:=A8×Nat×Nat) (fun q=>q.1) (fun q W'=>(Sx.A6 q.1 0=some (.func (.yield lp) #[] #[])/\Sx.A6 q.1 1=some (.pointer (some ⟨b,o0+0,none⟩))/\Sx.A6 q.1 3=some (.int .i64 ((q.2.1:Nat)-1:Int)))/\q.2.1<=l.length/\bwN l q.2.1=(zs.drop q.2.2).map val/\q.2.2<=zs.length/\J (zs.take q.2.2) W'/\Adv M M w W') (fun q=>q.2.1) (_,l.length,0) ⟨⟨rfl,rfl,rfl⟩,Aae _,by simpa using hzs.symm,Aas _,by simpa using h0,hA0⟩ (Sub.refl _) ?_
 rintro⟨L,i,k⟩ W1 ⟨⟨l0,l1,l3⟩,hi,hdi,hk,hJi,hA1⟩
 dsimp only at l0 l1 l3 hi hdi hk hJi ⊢
 refine A3 ?_
 refine A3 ?_
 refine A7 ?_
 refine E5 l3 rfl ?_
 refine ANy rfl rfl rfl ?_
 refine Reg.nil ?_
 refine T4 rfl (fun hlt=>?_) (fun hge=>?_)
 . have hlt:0<i:=by have:=AaW hlt;omega
   obtain⟨m,rfl⟩:∃m,i=m+1:=⟨i-1,by omega⟩
   have e3:(((m+1:Nat):Int)-1)=(m:Int):=by omega
   rw[e3]at l3
   have hx:l[m]?=some l[m]:=AaV (by omega)
   simp only[bwN,hx]at hdi
   obtain⟨z,hz,hzs2,hkz⟩:∃z,zs[k]?=some z/\val z=((m:Int),l[m])/\bwN l m=(zs.drop (k+1)).map val:=by
    rcases Aag k zs.length with h|h
    . rw[AGN h,Aaj,AcH]at hdi;exact⟨zs[k],AaV h,hdi.1.symm,hdi.2⟩
    . rw[List.drop_of_length_le h]at hdi;cases hdi
   have hklt:k<zs.length:=(List.getElem?_eq_some_iff.1 hz).1
   have htk:=AMM hz
   have hY3:=hY (zs.take k) z W1 hJi (by rw[Aa3];omega)
   dsimp only at hY3
   rw[hzs2]at hY3
   obtain⟨b4,o4,c4,cs4,hv4,_,_,hR4,hC4⟩:=(hds.adv hA1).at m (Aah (Abm m) hi)
   cases hv4
   obtain⟨rfl,_⟩:=(AHr (x:=l[m])).1 hR4
   refine E2 ?_
   refine A3 ?_
   refine C4 ?_
   refine A3 ?_
   refine AJC n ?_
   refine Rgi.val (.func (.yield lp) #[] #[]) rfl rfl rfl rfl (fun a ha=>by simp[execOp,ha.eval (x:=.tmp 0) l0]) ?_
   refine Rgi.val (.int .i64 (m:Int)) rfl rfl rfl rfl (fun a ha=>by simp[execOp,ha.eval (x:=.tmp 3) l3]) ?_
   refine Rgi.val (.slice (some ⟨b4,o4,none⟩) l.length c10) rfl rfl rfl rfl (fun a ha=>by
    have h9:=ha.eval (x:=.tmp 1) l1;simp[execOp,h9,Instr.loadAt,Instr.sureAddr,loadVar,isAgg29,show W1.cell? ⟨b,o0,none⟩=some (.slice (some ⟨b4,o4,none⟩) l.length c10) from(hc.adv hA1).cells.at 0 rfl]) ?_
   refine Rgi.val (.int .i64 (m:Int)) rfl rfl rfl rfl (fun a ha=>by simp[execOp,ha.eval (x:=.tmp 3) l3]) ?_
   refine Rgi.val (.pointer (some ⟨b4,o4+m*4,none⟩)) rfl rfl rfl rfl (fun a ha=>by
    have h7:=ha.eval (x:=.tmp 13) (v:=.slice (some ⟨b4,o4,none⟩) l.length c10) rfl;have h8:=ha.eval (x:=.tmp 14) (v:=.int .i64 (m:Int)) rfl;have h3:(m:Int)<(l.length:Int):=by omega
    simp[execOp,h7,h8,Instr.indexAt,asIntOf,run_underlying underlying29,sizeOf47,add_none];try (intro h9_;exact absurd h9_ (by omega))) ?_
   refine AJa rfl hC4 isAgg47 rfl sizeOf47 rfl ?_
   refine AIq rfl rfl rfl rfl hY3 ?_
   rintro e W4 (⟨rfl,hJ4,hk4⟩|⟨rfl,hJx4⟩)
   . refine⟨_,rfl,?_⟩
     refine Rgi.val (.bool false) rfl rfl rfl rfl (fun a ha=>by simp[execOp,ha.eval (x:=.tmp 17) rfl,Op.unary]) ?_
     refine Rgi.nil ?_
     refine ABG rfl ?_
     refine E2 ?_
     refine A7 ?_
     refine E5 l3 rfl ?_
     refine AN1 rfl rfl rfl (InK.i64.2 (by omega)) ?_
     refine C6 rfl rfl ?_
     refine Reg.nil ⟨rfl,(_,m,k+1),?_,Sub.refl _,by dsimp only;omega⟩
     exact⟨⟨l0,l1,rfl⟩,Nat.le_of_succ_le hi,hkz,hklt,by rw[htk];exact hJ4,AQP id hA1 hk4⟩
   . refine⟨_,rfl,?_⟩
     refine Rgi.val (.bool true) rfl rfl rfl rfl (fun a ha=>by simp[execOp,ha.eval (x:=.tmp 17) rfl,Op.unary]) ?_
     refine Rgi.nil ?_
     refine ABr rfl ?_
     refine C0 ?_
     exact hret _ _ _ (htk▸List.take_prefix _ _) hJx4
 . have hge:¬(0:Int)<=(i:Int)-1:=by simpa using hge
   obtain rfl:i=0:=by omega
   have hkz:zs.length<=k:=by
    have:=AaX List.length hdi;simp[bwN]at this;omega
   refine T3 (J7 ?_)
   refine H2 (rs:=[]) (vs:=[]) rfl .nil rfl ⟨⟨_,rfl⟩,.inl ⟨zs,rfl,?_⟩⟩
   rwa [Aa7 hkz]at hJi
theorem C47{M:List Nat}{w:World}(hM:MLt M w){l:List Asked}{vd:Value}(hvd:OkD (P:=prog) M w (.sl (.st 5)) l vd):Calls prog 47 (toArray [vd]) w fun e w'=>∃p1,e=.returned (.func (.func 85) #[] #[p1])/\Ok (P:=prog) (fun _=>undef) (fun _=>none) M w' (.rp (.dat (.sl (.st 5)) l) 0) p1/\Ext w w':=by
 have hvd0:=hvd;obtain⟨sa,c,hv,_⟩:=(OkD.rds hvd);subst hv;refine B9 (l:=[_]) (fn:=Tryz.f47) func47 rfl rfl rfl ?_;have hI:=Hp.start (Mu:=[]) hM;refine A3 ?_;refine A7 ?_;refine R7 hI rfl rfl rfl ?_;intro b w2 hI2 x2;have hC2:=hI2.freezeRow 0 rfl;have hI2:=hI2.erase 0;refine C6 rfl rfl ?_;refine Reg.nil ?_;refine A3 ?_;refine A7 ?_;refine AEB (xs:=[.tmp 1]) rfl rfl ?_;refine C6 rfl rfl ?_;refine Reg.nil ?_;refine C0 ?_;exact H2 (rs:=[.tmp 2]) (vs:=[_]) rfl (.cons (.tmp rfl) .nil) rfl ⟨.pointer (some ⟨b,0,none⟩),rfl,⟨b,0,_,_,rfl,hC2,⟨rfl,OkD.adv hvd0 (Adv.of_ext hI2.kp)⟩,rfl⟩,hI2.kp⟩
open Classical in
def V9(l:List Asked):Option (List (Int×Asked)):=if ∀y∈bwN l l.length,AEG [.int .i64,.st 5] y then some (bwN l l.length) else none
def N1(_:Unit)(n:Int):Option (List Report):=if 0<=n/\n*64<=140737488355328 then some [] else none
def ctr120:Ctr:=⟨[.nl,.d (.int .i64)],[.own (.sl 45 (.st 1))],fun a=>N1 a.1 a.2.1⟩
theorem ATv(M:List Nat)(w:World)(n:Nat)(hc:n*64<=140737488355328):Calls prog 120 #[.slice none 0 0,.int .i64 n] w fun e w'=>∃v,e=.returned v/\(Sx.Own ReportE 45 0 M w' v ([]:List Report)/\∀b∈ob v,w.heap.size<=b)/\Ext w w':=by
 rcases Nat.eq_zero_or_pos n with rfl|hn
 . have h:=Any8.slices_Grow_room AFw none 0 0 0 w (Aae _) (by decide) (by decide) (Aae _);change Calls prog 120 _ _ _ at h;refine h.mono ?_;rintro e w' ⟨rfl,rfl⟩;exact⟨_,rfl,⟨.inl ⟨none,rfl,rfl⟩,fun b hb=>by cases hb⟩,Kp.refl _ _⟩
 . obtain⟨i0,z,h1,h2,h3,h4,h5⟩:=rsl24.info;have h:=Any8.slices_Grow_grow AFw i0 z h1 h2 (by rw[h3];decide) none 0 0 n [] w (Aae _) (by omega) (by rw[h4];omega) (by omega) (by simp) (fun _=>rfl) (fun a ha=>by cases ha);change Calls prog 120 _ _ _ at h;refine h.mono ?_;have hG:=grownCap_ge w (0+n) 0 45;have hG2:=grownCap_le_maxLen w (0+n) 0 45 (by unfold maxLen;omega);change ∀e w',e=Ending.returned (.slice (some ⟨w.heap.size,0,none⟩) 0 (grownCap w (0+n) 0 45))/\w'=w.drew.alloc (.cells (([]:List Value).toArray++Builtin.zeroCells z.cells (0+n-0)++Builtin.zeroCells z.cells (grownCap w (0+n) 0 45-(0+n))) 45)->_;generalize grownCap w (0+n) 0 45=G at hG hG2;rintro e w' ⟨rfl,rfl⟩;obtain⟨c,rfl⟩:∃c,G=c+1:=⟨G-1,by omega⟩;have hz:z.cells.size=8:=h5;refine⟨_,rfl,⟨.inr ⟨w.heap.size,c,_,rfl,Aas _,heap_alloc_new w.drew _,Aas _,hG2,?_,?_⟩,fun b hb=>?_⟩,?_⟩
   . simp only[Array.size_append,List.size_toArray,size_zeroCells,hz,List.length_nil];show _=(c+1)*8;omega
   . simp[Chunks]
   . have:b=w.heap.size:=by simpa[ob] using hb
     omega
   . exact⟨rfl,rfl,rfl,by simp,fun k hk _=>Below.heap_alloc w.drew _ k hk,fun _=>Nat.le_succ _⟩
theorem ok120:Ctr.ok prog 120 ctr120:=by
 refine⟨by decide,fun M w a vals r hM _ ha hr=>?_⟩;obtain⟨v,q,rfl,hv,ha⟩:=ha;have hv:v=.slice none 0 0:=hv;subst hv;obtain⟨v2,q2,rfl,hv2,ha⟩:=ha;have ha:q2=[]:=ha;subst ha;obtain⟨cs,hi,h9|⟨_,rfl⟩⟩:=hv2
 . cases h9.1
 have key:∀m:Int,[v2]=[Value.int .i64 m]->N1 () m=some r->Calls prog 120 #[.slice none 0 0,v2] w fun e w'=>∃vs,e=.returned (ACW vs)/\KsOk (P:=prog) M (obK ctr120.rs vs++M) w w' ctr120.rs r vs/\Ext w w':=fun m hi1 hr=>by
  obtain rfl:v2=Value.int .i64 m:=by simpa using hi1
  unfold N1 at hr;split at hr
  . rename_i hc;cases hr
    obtain⟨n,rfl⟩:∃n:Nat,m=n:=⟨m.toNat,by omega⟩;refine(ATv M w n (by omega)).mono ?_;rintro e w' ⟨v,rfl,h1,h2⟩;exact⟨[v],rfl,⟨v,rfl,ALc h1⟩,h2⟩
  . cases hr
 exact key _ hi.1 hr
def I7(d:Desk)(day:Int):Option (Desk_99×Int):=(Q3 d).bind fun (r1,r2)=>Option.bind (α:=(Bool)) (cond (decide (r2=0)) ((D8 (0:Int) (100000:Int) ([day])).bind fun r4=>some (!r4)) (some false)) ((fun x5=>Option.bind (α:=(Int)) (cond (x5) (some (2:Int)) (some r2)) ((fun x6=>some (r1,x6)))))
def AZY:An:=.nd (.x) (.nd (.x) (.nd (.nd (.jn [.norm ⟨[(.slot 20,.d .bool)],[6,4]⟩] (.x)) (.jn [.norm ⟨[(.slot 7,.d (.int .i64))],[6,4]⟩] (.x))) (.x)))
def ctr40:Ctr:=⟨[.d (.st 4),.d (.int .i64)],[.d (.st 10),.d (.int .i64)],fun a=>I7 a.1 a.2.1⟩
theorem ok40:Ctr.ok prog 40 ctr40:=B0 (G:={ gxb with fs:=[(44,ctr44),(70,ctr70)] }) (an:=AZY) (B1 ⟨⟨ok44,call44⟩,⟨⟨ok70,call70⟩,trivial⟩⟩) func40 rfl rfl rfl rfl (fun a=>by kernel_rfl)
def U9(slices:(List (List Report))):Option (List Report):=(B7 (S:=(Int×Int)) (R:=(Int)) (fun (x6,x7)=>cond (decide (x6<(slices.length:Int))) ((ixo slices x6).bind fun y8=>(chk .i64 (x7+(y8.length:Int))).bind fun n9=>cond (decide (n9<0)) (none) ((chk .i64 (x6+1)).bind fun n10=>some (Sum.inl (n10,n9)))) (some (Sum.inr x7))) ((0:Int),(0:Int))).bind ((fun x11=>(N1 () x11).bind fun r12=>(B7 (S:=(Int×(List Report))) (R:=((List Report))) (fun (x18,x19)=>cond (decide (x18<(slices.length:Int))) ((ixo slices x18).bind fun y20=>(appo 64 x19 y20).bind fun l21=>(chk .i64 (x18+1)).bind fun n22=>some (Sum.inl (n22,l21))) (some (Sum.inr x19))) ((0:Int),r12)).bind ((fun x23=>some x23))))
def AZZ:An:=.nd (.x) (.nd (.x) (.nd (.nd (.x) (.lp ⟨[(.slot 11,.d (.int .i64)),(.slot 3,.d (.int .i64))],[]⟩ [.exit 0 ⟨[(.slot 3,.d (.int .i64))],[]⟩] (.x))) (.nd (.x) (.nd (.nd (.x) (.lp ⟨[(.slot 27,.d (.int .i64)),(.slot 6,.own (.sl 45 (.st 1)))],[]⟩ [.exit 2 ⟨[(.slot 6,.own (.sl 45 (.st 1)))],[]⟩] (.x))) (.x)))))
def ctr80:Ctr:=⟨[.d (.sl (.sl (.st 1)))],[.own (.sl 45 (.st 1))],fun a=>U9 a.1⟩
theorem ok80:Ctr.ok prog 80 ctr80:=B0 (G:={ gxb with fs:=[(120,ctr120)] }) (an:=AZZ) (B1 ⟨⟨ok120,call120⟩,trivial⟩) func80 rfl rfl rfl rfl (fun a=>by kernel_rfl)
def V0(l:(List Report))(day:Int):Option (A4 Int Report):=(K7 l day).bind fun (r1,r2)=>(B7 (S:=(Int×(A4 Int Report))) (R:=((A4 Int Report))) (fun (x10,x11)=>cond (decide (x10<(r1.length:Int))) ((ixo r1 x10).bind fun y12=>(chk .i64 (x10+1)).bind fun n13=>some (Sum.inl (n13,(B4 x11 y12.id y12)))) (some (Sum.inr x11))) ((0:Int),(fnone:(A4 Int Report)))).bind ((fun x14=>some x14))
def AZa:An:=.nd (.x) (.nd (.x) (.nd (.x) (.nd (.nd (.x) (.lp ⟨[(.slot 19,.d (.int .i64)),(.cont 10,.own (.mp 3 (.int .i64) (.st 1)))],[14,10]⟩ [.exit 0 ⟨[(.cont 10,.own (.mp 3 (.int .i64) (.st 1)))],[10]⟩] (.x))) (.x))))
def ctr46:Ctr:=⟨[.d (.sl (.st 1)),.d (.int .i64)],[.own (.mp 3 (.int .i64) (.st 1))],fun a=>V0 a.1 a.2.1⟩
theorem ok46:Ctr.ok prog 46 ctr46:=B0 (G:={ gxb with fs:=[(29,ctr29)] }) (an:=AZa) (B1 ⟨⟨ok29,call29⟩,trivial⟩) func46 rfl rfl rfl rfl (fun a=>by kernel_rfl)
def Z4(d:Desk)(day:Int):Option ((List Int)×Int):=(I7 d day).bind fun (r1,r2)=>cond ((!decide (r2=0))) (some (([]:(List Int)),r2)) ((P3 r1.desk.disputes).bind fun r3=>(G8 ([(60:Nat),(61:Nat)]) r3).bind fun (_,m4)=>(B7 (S:=(Int×(List Int))) (R:=((List Int))) (fun (x13,x14)=>cond (decide (x13<(m4.length:Int))) ((ixo m4 x13).bind fun y15=>(F4 r1 y15 day).bind fun (r16,r17)=>Option.bind (α:=((List Int))) (cond (decide (r16=1)) ((appo 8 x14 ([y15.id])).bind fun l18=>some l18) (some x14)) ((fun x19=>(chk .i64 (x13+1)).bind fun n20=>some (Sum.inl (n20,x19))))) (some (Sum.inr x14))) ((0:Int),([]:(List Int)))).bind ((fun x21=>some (x21,(0:Int)))))
def AZb:An:=.nd (.x) (.nd (.x) (.nd (.x) (.nd (.x) (.nd (.nd (.x) (.lp ⟨[(.slot 29,.d (.int .i64)),(.slot 8,.own (.sl 3 (.int .i64)))],[25,6]⟩ [.exit 0 ⟨[(.slot 8,.own (.sl 3 (.int .i64)))],[]⟩] (.nd (.x) (.nd (.x) (.nd (.nd (.x) (.nd (.x) (.nd (.x) (.jn [.norm ⟨[(.slot 8,.own (.sl 3 (.int .i64)))],[25,6]⟩] (.x))))) (.x)))))) (.x)))))
def ctr24:Ctr:=⟨[.d (.st 4),.d (.int .i64)],[.own (.sl 3 (.int .i64)),.d (.int .i64)],fun a=>Z4 a.1 a.2.1⟩
theorem ok24:Ctr.ok prog 24 ctr24:=B0 (G:={ gxb with fs:=[(40,ctr40),(57,ctr57),(59,ctr59),(60,ctr60),(61,ctr61)],fm:=[(58,ctrm58)] }) (an:=AZb) (AEn ⟨⟨ok40,call40⟩,⟨⟨ok57,call57⟩,⟨⟨ok59,call59⟩,⟨⟨ok60,call60⟩,⟨⟨ok61,call61⟩,trivial⟩⟩⟩⟩⟩ trivial ⟨⟨okm58,call58⟩,trivial⟩) func24 rfl rfl rfl rfl (fun a=>by kernel_rfl)
def AAO(d:Desk)(id:Int)(day:Int):Option (Int×Int×Int):=(I7 d day).bind fun (r1,r2)=>cond ((!decide (r2=0))) (some ((0:Int),(0:Int),r2)) ((X0 r1.desk.disputes (fun a3=>AAB a3 id)).bind fun r4=>cond (decide (r4<0)) (some ((0:Int),(0:Int),(6:Int))) ((ixo r1.desk.disputes r4).bind fun y5=>(F4 r1 y5 day).bind fun (r6,r7)=>some (r6,r7.day,(0:Int))))
def AZc:An:=.x
def ctr23:Ctr:=⟨[.d (.st 4),.d (.int .i64),.d (.int .i64)],[.d (.int .u8),.d (.int .i64),.d (.int .i64)],fun a=>AAO a.1 a.2.1 a.2.2.1⟩
theorem ok23:Ctr.ok prog 23 ctr23:=B0 (G:={ gxb with fs:=[(40,ctr40),(55,ctr55),(56,ctr56),(57,ctr57)] }) (an:=AZc) (B1 ⟨⟨ok40,call40⟩,⟨⟨ok55,call55⟩,⟨⟨ok56,call56⟩,⟨⟨ok57,call57⟩,trivial⟩⟩⟩⟩) func23 rfl rfl rfl rfl (fun a=>by kernel_rfl)
def AAk(id:Int)(day:Int)(where_:Int)(decided:Int):Option Bool:=(AAY).bind fun r1=>(AAO r1 id day).bind fun (r2,r3,r4)=>Option.bind (α:=(Bool)) (cond (decide (r4=0)) (cond (decide (r2=where_)) (some (decide (r3=decided))) (some false)) (some false)) ((fun x5=>some x5))
def AZd:An:=.nd (.x) (.nd (.x) (.nd (.jn [.norm ⟨[(.slot 8,.d .bool)],[]⟩] (.x)) (.x)))
def ctr31:Ctr:=⟨[.d (.int .i64),.d (.int .i64),.d (.int .u8),.d (.int .i64)],[.d .bool],fun a=>AAk a.1 a.2.1 a.2.2.1 a.2.2.2.1⟩
theorem ok31:Ctr.ok prog 31 ctr31:=B0 (G:={ gxb with fs:=[(23,ctr23),(33,ctr33)] }) (an:=AZd) (B1 ⟨⟨ok23,call23⟩,⟨⟨ok33,call33⟩,trivial⟩⟩) func31 rfl rfl rfl rfl (fun a=>by kernel_rfl)
def AAl(d:Desk)(report:Int)(day:Int):Option (Int×Int):=(I7 d day).bind fun (r1,r2)=>cond ((!decide (r2=0))) (some ((0:Int),r2)) (cond ((!((r1.facts report).isSome))) (some ((0:Int),(6:Int))) ((B7 (S:=(Int×Int)) (R:=(Int)) (fun (x20,x21)=>cond (decide (x21<(r1.desk.disputes.length:Int))) (Option.bind (α:=((Int)⊕(Int))) ((ixo r1.desk.disputes x21).bind fun y22=>cond ((!decide (y22.report=report))) (some (Sum.inl x20)) ((F4 r1 y22 day).bind fun (r23,r24)=>cond (decide (r23=1)) (some (Sum.inr r23)) (Option.bind (α:=(Bool)) (cond (decide (r23=2)) ((chk .i64 (day-r24.day)).bind fun n25=>some (decide (n25<=r1.desk.terms.mark))) (some false)) ((fun x26=>Option.bind (α:=(Int)) (cond (x26) (some r23) (some x20)) ((fun x27=>some (Sum.inl x27)))))))) ((Sum.elim (fun x28=>(chk .i64 (x21+1)).bind fun n29=>some (Sum.inl (x28,n29))) (fun x30=>some (Sum.inr x30))))) (some (Sum.inr x20))) ((0:Int),(0:Int))).bind ((fun x31=>some (x31,(0:Int))))))
def AZe:An:=.nd (.x) (.nd (.x) (.nd (.x) (.nd (.x) (.nd (.x) (.nd (.x) (.nd (.nd (.x) (.lp ⟨[(.slot 12,.d (.int .u8)),(.slot 39,.d (.int .i64))],[8]⟩ [.exit 0 ⟨[(.slot 12,.d (.int .u8))],[]⟩] (.nd (.x) (.nd (.x) (.nd (.jn [.norm ⟨[(.slot 12,.d (.int .u8))],[8]⟩,.exit 0 ⟨[(.slot 12,.d (.int .u8))],[]⟩] (.nd (.x) (.nd (.x) (.nd (.x) (.nd (.x) (.nd (.x) (.nd (.jn [.norm ⟨[(.slot 58,.d .bool)],[8]⟩] (.x)) (.jn [.norm ⟨[(.slot 12,.d (.int .u8))],[8]⟩] (.x))))))))) (.x)))))) (.x)))))))
def ctr28:Ctr:=⟨[.d (.st 4),.d (.int .i64),.d (.int .i64)],[.d (.int .u8),.d (.int .i64)],fun a=>AAl a.1 a.2.1 a.2.2.1⟩
theorem ok28:Ctr.ok prog 28 ctr28:=B0 (G:={ gxb with fs:=[(40,ctr40),(57,ctr57)] }) (an:=AZe) (B1 ⟨⟨ok40,call40⟩,⟨⟨ok57,call57⟩,trivial⟩⟩) func28 rfl rfl rfl rfl (fun a=>by kernel_rfl)
def Q4(id:Int)(day:Int)(mark:Int):Option Bool:=(AAY).bind fun r1=>(AAl r1 id day).bind fun (r2,r3)=>Option.bind (α:=(Bool)) (cond (decide (r3=0)) (some (decide (r2=mark))) (some false)) ((fun x4=>some x4))
def AZf:An:=.nd (.x) (.nd (.x) (.nd (.jn [.norm ⟨[(.slot 6,.d .bool)],[]⟩] (.x)) (.x)))
def ctr32:Ctr:=⟨[.d (.int .i64),.d (.int .i64),.d (.int .u8)],[.d .bool],fun a=>Q4 a.1 a.2.1 a.2.2.1⟩
theorem ok32:Ctr.ok prog 32 ctr32:=B0 (G:={ gxb with fs:=[(28,ctr28),(33,ctr33)] }) (an:=AZf) (B1 ⟨⟨ok28,call28⟩,⟨⟨ok33,call33⟩,trivial⟩⟩) func32 rfl rfl rfl rfl (fun a=>by kernel_rfl)
end Go.Proofs.YtgioiejbphljoaaGreatDoor
namespace Go.Proofs.YtgioiejbphljoaaGreatDoor
open Go Go.Sx Go.Rx
namespace S
def ASi{α:Type}(l:List α)(id:α->Option Int)(right:α->Option Bool):Option Bool:=(B7 (S:=(Int×(A4 Int Bool))) (R:=(Unit⊕Bool)) (fun (x16,x17)=>cond (decide (x16<(l.length:Int))) ((ixo l x16).bind fun y18=>Option.bind (α:=(Bool)) ((right y18).bind fun y19=>cond ((!y19)) (some true) ((id y18).bind fun y20=>some ((x17 y20).getD false))) ((fun x21=>cond (x21) (some (Sum.inr (Sum.inr false))) ((id y18).bind fun y22=>(chk .i64 (x16+1)).bind fun n23=>some (Sum.inl (n23,(B4 x17 y22 true))))))) (some (Sum.inr (Sum.inl ())))) ((0:Int),(fnone:(A4 Int Bool)))).bind ((Sum.elim (fun _=>some true) (fun r24=>some r24)))
section
variable{α:Type}{k:α->Int}{D:Desk_99}
theorem AX1{l:List α}(h:(l.map k).Nodup){n:Nat}(hn:n<l.length):∀x∈l.take n,k x≠k l[n]:=fun x hx=>by
 rw[List.Nodup,Abi,AbQ]at h;obtain⟨i,hi,rfl⟩:=List.mem_take_iff_getElem.1 hx;exact h i n (by omega) hn (by omega)
theorem ANb{l:List α}{id:α->Option Int}{right:α->Option Bool}(hl:l.length<=1000000)(h1:∀x∈l,right x=some true)(h2:∀x,id x=some (k x))(hn:(l.map k).Nodup):ASi l id right=some true:=by
 refine Ret.eq ?_;unfold ASi;refine Ret.bind (C9 l.length (fun n (t:Int×A4 Int Bool)=>t.1=n/\∀i,(∀x∈l.take n,k x≠i)->t.2 i=none) ⟨rfl,fun i _=>rfl⟩ ?_ ?_)
 . rintro n hlt ⟨_,m⟩ ⟨rfl,hm⟩;dsimp only at hm;refine Ret.condT (ltT hlt) (Ret.bind (O2 hlt (Ret.bind (X9 (h1 _ (Aak hlt)) (Ret.condF rfl (X9 (h2 _) (Ret.ok ?_)))))));rw[hm _ (AX1 hn hlt)];refine Ret.condF rfl (X9 (h2 _) (Ret.bind (Ret.chk (by omega) (Ret.next ⟨by dsimp only;omega,fun i hi=>?_⟩))));dsimp only[B4];rw[if_neg (fun e=>hi l[n] ((G4 hlt).2 (.inr rfl)) e.symm)];exact hm i fun x hx=>hi x ((G4 hlt).2 (.inl hx))
 . rintro⟨_,m⟩ ⟨rfl,hm⟩;exact Ret.condF (ltF (Aae _)) (Ret.done (Ret.elimL (Ret.ok rfl)))
def Fc(d:Desk)(f:A4 Int Report):Prop:=∀i,f i=fct d.reports i
theorem AQQ{l:List Report}(hc:AOm l){i:Int}{r:Report}:fct l i=some r↔r∈l/\r.kind<=7/\r.id=i:=by
 constructor
 . intro h;obtain⟨h1,h2,h3⟩:=ABX h;exact⟨h1,h3,h2⟩
 . rintro⟨h1,h2,rfl⟩;exact AVb hc h1 h2
theorem AX3{d:Desk}(hr:VL d.reports):Ret (U8 d) (Fc d):=by
 have hl:=hr.len;unfold U8;refine Ret.bind (C9 d.reports.length (fun n (t:Int×A4 Int Report)=>t.1=n/\∀i r,t.2 i=some r↔r∈d.reports.take n/\r.kind<=7/\r.id=i) ⟨rfl,fun i r=>by simp[fnone]⟩ ?_ ?_)
 . rintro n hlt ⟨_,m⟩ ⟨rfl,hm⟩;dsimp only at hm;refine Ret.condT (ltT hlt) (Ret.bind (O2 hlt (Ret.bind (Ret.cond (fun h=>?_) fun h=>?_))))
   . have h:=AaW h;refine Ret.ok (Ret.bind (Ret.chk (by omega) (Ret.next ⟨by dsimp only;omega,fun i r=>?_⟩)));rw[G4 hlt];dsimp only[B4];by_cases e:i=d.reports[n].id
     . subst e;rw[Aac rfl];constructor
       . intro h;cases h;exact⟨.inr rfl,h,rfl⟩
       . rintro⟨h1|h1,h2,h3⟩
         . rw[hr.cons r (Ab1 h1) _ (Aak hlt) h3]
         . rw[h1]
     . rw[if_neg e,hm];constructor
       . rintro⟨h1,h2⟩;exact⟨.inl h1,h2⟩
       . rintro⟨h1|rfl,h2,h3⟩
         . exact⟨h1,h2,h3⟩
         . exact absurd h3.symm e
   . have h:=AaZ h;refine Ret.ok (Ret.bind (Ret.chk (by omega) (Ret.next ⟨by dsimp only;omega,fun i r=>?_⟩)));rw[G4 hlt,hm];constructor
     . rintro⟨h1,h2⟩;exact⟨.inl h1,h2⟩
     . rintro⟨h1|rfl,h2,h3⟩
       . exact⟨h1,h2,h3⟩
       . exact absurd h2 h
 . rintro⟨_,m⟩ ⟨rfl,hm⟩;dsimp only at hm;rw[Aay]at hm;refine Ret.condF (ltF (Aae _)) (Ret.done (Ret.ok fun i=>?_));apply Option.ext;intro r;rw[hm,AQQ hr.cons]
def An(d:Desk)(h:A4 Int (List Answer)):Prop:=∀i,(h i).getD []=d.answers.filter fun a=>decide (a.dispute=i)
theorem ANc:∀(l pre:List Answer) (h:A4 Int (List Answer)),(∀i,(h i).getD []=pre.filter fun a=>decide (a.dispute=i))->pre.length+l.length<=1000000->∃h',AJZ l h=some h'/\∀i,(h' i).getD []=(pre++l).filter fun a=>decide (a.dispute=i)
 |[],pre,h,hh,_=>⟨h,rfl,by simpa using hh⟩
 |a::l,pre,h,hh,hl=>by
  have hlen:((h a.dispute).getD []).length<=pre.length:=by rw[hh];exact AbD ..
  have hl':pre.length+l.length+1<=1000000:=by simpa[Nat.add_assoc] using hl
  have e:appo 48 ((h a.dispute).getD []) [a]=some ((h a.dispute).getD []++[a]):=ABv (by simp only[List.length_singleton];omega) (by simp only[List.length_singleton];omega);have hs:∀i,(B4 h a.dispute ((h a.dispute).getD []++[a]) i).getD []=(pre++[a]).filter fun a=>decide (a.dispute=i):=fun i=>by
   dsimp only[B4];rw[Abb];by_cases e:i=a.dispute
   . subst e;rw[Aac rfl];simp[hh]
   . rw[if_neg e,hh];have e2:¬a.dispute=i:=fun h=>e h.symm;simp[e2]
  obtain⟨h',e',hh'⟩:=ANc l (pre++[a]) (B4 h a.dispute ((h a.dispute).getD []++[a])) hs (by simp;omega);refine⟨h',?_,fun i=>by rw[hh',Aax];rfl⟩;unfold AJZ;rw[e,bindS,e']
theorem AX4(h:TV D.desk.terms):N8 D=some 0:=by
 obtain⟨t1,t2,t3⟩:=h;unfold N8;rw[d_in1,d_in2,AAi t1,AAi t2,AAi t3];rfl
theorem AX5(h:VL D.desk.reports):N9 D=some 0:=by
 unfold N9;rw[AGv h];rfl
theorem AX6(h:Vd D.desk)(hf:Fc D.desk D.facts):O0 D=some 0:=by
 obtain⟨⟨t1,t2,t3⟩,hr,hx,_⟩:=h;have hl:=hr.len;have hlx:=hx.len;refine Ret.eq ?_;unfold O0;refine Ret.bind (C9 D.desk.reports.length (fun n (t:Int×A4 Int Bool)=>t.1=n/\∀i,(∀x∈D.desk.reports.take n,x.id≠i)->t.2 i=none) ⟨rfl,fun i _=>rfl⟩ ?_ ?_)
 . rintro n hlt ⟨_,m⟩ ⟨rfl,hm⟩;dsimp only at hm;refine Ret.condT (ltT hlt) (Ret.bind (O2 hlt (Ret.bind (Ret.chk (by omega) (Ret.next ⟨by dsimp only;omega,fun i hi=>?_⟩)))));dsimp only[B4];rw[if_neg (fun e=>hi _ ((G4 hlt).2 (.inr rfl)) e.symm)];exact hm i fun x hx=>hi x ((G4 hlt).2 (.inl hx))
 rintro⟨_,m⟩ ⟨rfl,hm⟩;dsimp only at hm;rw[Aay]at hm;refine Ret.condF (ltF (Aae _)) (Ret.done (Ret.bind (Ret.condF (AaY (by omega)) ?_)));have hu:Y5 D.desk.disputes (fun a16=>S9 a16) (fun a17=>N4 a17 D m)=some true:=ANb (k:=(·.id)) (by omega) (fun x hxm=>?_) (fun _=>rfl) hx.nd
 . rw[hu];exact Ret.ok (Ret.ok rfl)
 . obtain⟨v1,v2,f,hfx,v3,v4⟩:=hx.v x hxm;refine Ret.eq ?_;unfold N4;rw[hf,hfx];have v2:=hm x.id v2;refine Ret.bind (Ret.condT rfl ?_);dsimp only[Option.getD_some];rw[d_in1,AAi v1,bindS,v2];refine Ret.condT rfl (Ret.condT rfl (Ret.bind (Ret.chk (by omega) (Ret.bind (Ret.chk (by omega) ?_)))));rw[d_in1,AAi (show _/\_ from⟨v3,by omega⟩)];exact Ret.ok (Ret.ok rfl)
theorem AX7(h:Vd D.desk)(hf:Fc D.desk D.facts):O1 D=some 0:=by
 obtain⟨⟨t1,t2,t3⟩,hr,hx,ha⟩:=h;have hlx:=hx.len;have hla:=ha.len;have hu:Y6 D.desk.answers (fun a4=>T2 a4) (fun a5=>N5 a5 D)=some true:=ANb (k:=(·.id)) (by omega) (fun a ham=>?_) (fun _=>rfl) ha.nd
 . unfold O1;rw[AaY (by omega),hu];rfl
 . obtain⟨v1,v2,v3,x,hxm,v4,v5,v6⟩:=ha.v a ham;refine Ret.eq ?_;unfold N5;refine Ret.bind ?_;refine(AD7 (s:=D.desk.disputes) (f:=fun a1=>O9 a1 a) (fun _ _=>rfl) (by omega) (fun h=>?_) fun k hk h hp=>?_:Ret (AHs _ _) _)
   . have:=AaZ (h x hxm);exact absurd v4 this
   have h:=AaW h;have hxk:D.desk.disputes[k]=x:=by
    have hnd:=hx.nd;rw[List.Nodup,Abi,AbQ]at hnd;obtain⟨j,hj,rfl⟩:=AbV hxm;rcases AcQ k j with e|e|e
    . exact absurd (h.trans v4.symm) (hnd k j hk hj e)
    . subst e;rfl
    . exact absurd (v4.trans h.symm) (hnd j k hj hk e)
   refine Ret.bind (Ret.condF (AaY (by omega)) ?_);have vab:0<=a.about/\a.about<=100000:=by
    by_cases e:a.says=2
    . obtain⟨_,_,f,hfx,_⟩:=hx.v x hxm;exact(v6 e f hfx).1
    . have:=(v5 e).1;omega
   rw[d_in1,AAi v1,bindS];refine Ret.condF rfl ?_;rw[d_in2,AAi v2,AAi vab,bindS];refine Ret.ok (Ret.condF rfl (Ret.bind (O2 hk ?_)));rw[hxk];by_cases e:a.says=2
   . obtain⟨_,_,f,hfx,_⟩:=hx.v x hxm;refine Ret.bind (Ret.condF (AaY (by omega)) (Ret.ok ?_));rw[AaY (show ¬a.says=3 by omega)];refine Ret.condF rfl (Ret.condT (Aab e) ?_);rw[hf,hfx];obtain⟨w1,w2,w3⟩:=v6 e f hfx;have hfm:=ABX hfx;obtain⟨u1,u2,u3,u4,u5,u6,u7,u8,u9,u10,u11⟩:=hr.v f hfm.1;rw[AGv (l:=[_]) ⟨by simp,fun r hr=>?_,fun a ha b hb _=>?_⟩,bindS]
     . exact Ret.ok rfl
     . rw[mem_singleton.1 hr];exact⟨u1,u2,u3,u4,u5,u6,w1,⟨w2,w3⟩,u9,u10,fun h=>by have:=hfm.2.2;dsimp only[Option.getD_some]at h;omega⟩
     . rw[mem_singleton.1 ha,mem_singleton.1 hb]
   . obtain⟨w1,w2⟩:=v5 e;refine Ret.bind (Ret.val (a:=true) ?_ (Ret.condT rfl (Ret.bind (Ret.condT (Aab w1) (Ret.ok (Ret.ok (Aab w2)))))));by_cases e1:a.says=1
     . rw[Aab e1];rfl
     . rw[AaY e1,Aab (show a.says=3 by omega)];rfl
end
structure Dw(d:Desk)(D:Desk_99):Prop where
 d:D.desk=d
 f:Fc D.desk D.facts
 a:An D.desk D.answers
theorem ATw{d:Desk}(h:Vd d):∃D,Q3 d=some (D,0)/\Dw d D:=by
 obtain⟨f,hf,hfc⟩:=AX3 h.r;have hla:=h.a.len;obtain⟨h',e',hh'⟩:=ANc d.answers [] fnone (fun i=>rfl) (by simp;omega);refine⟨⟨d,f,h'⟩,?_,rfl,hfc,hh'⟩;unfold Q3;rw[hf,bindS];have s1:=AX4 (D:=⟨d,f,fnone⟩) h.t;have s2:=AX5 (D:=⟨d,f,fnone⟩) h.r;have s3:=AX6 (D:=⟨d,f,fnone⟩) h hfc;have s4:=AX7 (D:=⟨d,f,fnone⟩) h hfc;have:ACM ⟨d,f,fnone⟩ 0 4=some 0:=by
  show (N8 _).bind _=_;rw[s1,bindS,Aac rfl];show (N9 _).bind _=_;rw[s2,bindS,Aac rfl];show (O0 _).bind _=_;rw[s3,bindS,Aac rfl];show (O1 _).bind _=_;rw[s4,bindS,Aac rfl];rfl
 rw[this,bindS,Aac rfl,e'];rfl
theorem ADe{d:Desk}(h:Vd d){day:Int}(hd:0<=day/\day<=100000):∃D,I7 d day=some (D,0)/\Dw d D:=by
 obtain⟨D,h1,h2⟩:=ATw h;refine⟨D,?_,h2⟩;unfold I7;rw[h1,bindS,d_in1,AAi hd];rfl
end S
namespace S
def P8(x y:Int):Int:=if x<y then -1 else if y<x then 1 else 0
theorem p_cmp{x y:Int}:D7 x y=some (P8 x y):=by
 unfold D7 AAJ P8;by_cases h:x<y
 . simp[h]
 . by_cases h2:y<x
   . simp[h,h2]
   . simp[h,h2]
theorem p_Or{a b:Int}:AAX [a,b]=some (if a=0 then b else a):=by
 refine Ret.eq ?_;unfold AAX;refine Ret.bind (Ret.loop (fun t:Int=>t=0\/t=1/\a=0\/t=2/\a=0/\b=0) (fun t=>2-t.toNat) (.inl rfl) ?_);rintro _ (rfl|⟨rfl,rfl⟩|⟨rfl,rfl,rfl⟩)
 . refine Ret.condT rfl (Ret.bind (Ret.val (show ixo [a,b] 0=some a from rfl) ?_));by_cases c:a=0
   . rw[Aab c];exact Ret.condF rfl (Ret.bind (Ret.chk (by omega) (Ret.next ⟨.inr (.inl ⟨rfl,c⟩),by decide⟩)))
   . rw[AaY c];exact Ret.condT rfl (Ret.done (Ret.elimR (Ret.ok (by rw[if_neg c]))))
 . refine Ret.condT rfl (Ret.bind (Ret.val (show ixo [0,b] 1=some b from rfl) ?_));by_cases c:b=0
   . rw[Aab c];exact Ret.condF rfl (Ret.bind (Ret.chk (by omega) (Ret.next ⟨.inr (.inr ⟨rfl,rfl,c⟩),by decide⟩)))
   . rw[AaY c];exact Ret.condT rfl (Ret.done (Ret.elimR (Ret.ok (by rw[Aac rfl]))))
 . exact Ret.condF rfl (Ret.done (Ret.elimL (Ret.ok (by simp))))
def alt(a b:Answer):Bool:=decide (a.day<b.day\/a.day=b.day/\a.id<b.id)
theorem p_first{a b:Answer}:K9 a b=some (alt a b):=by
 unfold K9;rw[p_cmp,bindS,p_cmp,bindS,p_Or,bindS];congr 1;unfold alt P8;rw[Bool.eq_iff_iff,decide_eq_true_iff,decide_eq_true_iff];split<;>split<;>(try split)<;>(try split)<;>omega
def win(x:Dispute)(last:Int)(a:Answer):Bool:=inB x.day last a.day
def AFS(x:Dispute)(last:Int)(v:Verdict)(a:Answer):Verdict:=if win x last a&&(decide (v.is_=5)||alt a v.by_) then⟨a.day,a.says+1,a⟩ else v
def zeroA:Answer:=Answer.mk 0 0 0 0 0 0
def AOz(x:Dispute)(A:Int)(l:List Answer):Verdict:=l.foldl (AFS x (x.day+A)) ⟨x.day+A+1,5,zeroA⟩
def dec(d:Desk)(x:Dispute):Verdict:=AOz x d.terms.answer (d.answers.filter fun a=>decide (a.dispute=x.id))
theorem ARo{s:Int}(h:1<=s/\s<=3):(AGt s).getD 0=s+1:=by
 have:s=1\/s=2\/s=3:=by omega
 rcases this with rfl|rfl|rfl<;>rfl
theorem AIr{α β:Type}{f:β->α->β}{b:β}{l:List α}{n:Nat}(h:n<l.length):(l.take (n+1)).foldl f b=f ((l.take n).foldl f b) l[n]:=by
 rw[P9 h,AcT];rfl
theorem ARp{d:Desk}{D:Desk_99}(hD:Dw d D)(hv:Vd d){x:Dispute}(hx:x∈d.disputes):P0 D x=some (dec d x):=by
 have hxv:=hv.x.v x hx;have ht:=hv.t.1;obtain⟨_,_,f,hf,x1,x2⟩:=hxv;have hfm:=(hv.r.v f (ABX hf).1).2.2.2.2.2.1;have hal:=hv.a.len;have hd:=hD.d;refine Ret.eq ?_;unfold P0;rw[hD.a,hd];let aa:=d.answers.filter fun a=>decide (a.dispute=x.id);have hlen:aa.length<=40:=Aad (AbD ..) hal;have has:∀a∈aa,1<=a.says/\a.says<=3:=fun a ha=>(hv.a.v a (List.mem_filter.1 ha).1).2.2.1;show Ret (Option.bind _ _) (·=AOz x d.terms.answer aa);refine Ret.bind (Ret.chk (by omega) (Ret.bind (Ret.chk (by omega) (Ret.bind (C9 aa.length (fun n (t:Int×Int×Int×Int×Int×Int×Int×Int×Int)=>∃v:Verdict,v=(aa.take n).foldl (AFS x (x.day+d.terms.answer)) ⟨x.day+d.terms.answer+1,5,zeroA⟩/\t=((n:Int),v.day,v.is_,v.by_.id,v.by_.dispute,v.by_.day,v.by_.says,v.by_.about,v.by_.cents)) ⟨_,rfl,rfl⟩ ?_ ?_)))))
 . rintro n hlt _ ⟨v,hvv,rfl⟩;have hs:=has _ (Aak hlt);refine Ret.condT (ltT hlt) (Ret.bind (Ret.val (a:=aa[n]) (AIB (AaV hlt)) (Ret.bind ?_)));rw[d_in1,bindS];have key:∀b:Bool,b=(win x (x.day+d.terms.answer) aa[n]&&(decide (v.is_=5)||alt aa[n] v.by_))->Ret (Option.bind (α:=(Int×Int×Int×Int×Int×Int×Int×Int)) (cond b (some (aa[n].day,((AGt aa[n].says).getD 0),aa[n].id,aa[n].dispute,aa[n].day,aa[n].says,aa[n].about,aa[n].cents)) (some (v.day,v.is_,v.by_.id,v.by_.dispute,v.by_.day,v.by_.says,v.by_.about,v.by_.cents))) ((fun (x52,x53,x54,x55,x56,x57,x58,x59)=>(chk .i64 ((n:Int)+1)).bind fun n60=>some (Sum.inl (n60,x52,x53,x54,x55,x56,x57,x58,x59))))) (Nxt (fun (t:Int×Int×Int×Int×Int×Int×Int×Int×Int)=>∃v:Verdict,v=(aa.take (n+1)).foldl (AFS x (x.day+d.terms.answer)) ⟨x.day+d.terms.answer+1,5,zeroA⟩/\t=(((n+1:Nat):Int),v.day,v.is_,v.by_.id,v.by_.dispute,v.by_.day,v.by_.says,v.by_.about,v.by_.cents)) (fun (r:Int×Int×Int×Int×Int×Int×Int×Int)=>Ret (some (Verdict.mk r.1 r.2.1 (Answer.mk r.2.2.1 r.2.2.2.1 r.2.2.2.2.1 r.2.2.2.2.2.1 r.2.2.2.2.2.2.1 r.2.2.2.2.2.2.2))) (·=AOz x d.terms.answer aa))):=fun b hb=>by
    cases b with
    |true=>
     refine Ret.bind (Ret.condT rfl (Ret.ok (Ret.bind (Ret.chk (by omega) (Ret.next ⟨_,rfl,?_⟩)))))
     rw[AIr hlt,<-hvv]
     unfold AFS
     rw[Aac hb.symm,ARo hs]
     rfl
    |false=>
     refine Ret.bind (Ret.condF rfl (Ret.ok (Ret.bind (Ret.chk (by omega) (Ret.next ⟨_,rfl,?_⟩)))))
     rw[AIr hlt,<-hvv]
     unfold AFS
     rw[if_neg (by rw[<-hb];decide)]
     rfl
   refine Ret.cond (fun h1=>?_) fun h1=>Ret.ok (key _ (by rw[show win x (x.day+d.terms.answer) aa[n]=false from h1];rfl));have h1:win x (x.day+d.terms.answer) aa[n]=true:=h1;refine Ret.cond (fun h2=>Ret.ok (key _ (by rw[h1,h2];rfl))) fun h2=>?_;have e:(Answer.mk v.by_.id v.by_.dispute v.by_.day v.by_.says v.by_.about v.by_.cents)=v.by_:=rfl;rw[e,p_first,bindS];exact Ret.ok (key _ (by rw[h1,h2];rfl))
 . rintro _ ⟨v,hvv,rfl⟩;refine Ret.condF (ltF (Aae _)) (Ret.done (Ret.ok ?_));rw[Aay]at hvv;show _=List.foldl _ _ _;rw[<-hvv]
structure DecL(x:Dispute)(A:Int)(l:List Answer)(v:Verdict):Prop where
 is5:v.is_=5->v=⟨x.day+A+1,5,zeroA⟩/\∀a∈l,win x (x.day+A) a=false
 by_:v.is_≠5->v=⟨v.by_.day,v.by_.says+1,v.by_⟩/\v.by_∈l/\win x (x.day+A) v.by_=true/\∀a∈l,win x (x.day+A) a=true->alt a v.by_=false
section
variable{x:Dispute}{d:Desk}{day:Int}{α:Type}{n:Nat}
theorem ATx{a b c:Answer}(h1:alt a b=true)(h2:alt c b=false):alt c a=false:=by
 unfold alt at *;rw[decide_eq_true_iff]at h1;rw[decide_eq_false_iff_not]at *;omega
theorem AZg{A:Int}:∀(l:List Answer),(∀a∈l,1<=a.says/\a.says<=3)->DecL x A l (AOz x A l):=by
 have key:∀(l p:List Answer) (v:Verdict),(∀a∈l,1<=a.says/\a.says<=3)->DecL x A p v->DecL x A (p++l) (l.foldl (AFS x (x.day+A)) v):=by
  intro l;induction l with
  |nil=>intro p v _ h;simpa using h
  |cons a l ih=>
   intro p v hs h
   have:p++a::l=(p++[a])++l:=by simp
   rw[this]
   refine ih _ _ (fun b hb=>hs b (AaQ _ hb)) ?_
   have ha:=hs a (AaT ..)
   unfold AFS
   by_cases c:(win x (x.day+A) a&&(decide (v.is_=5)||alt a v.by_))=true
   . rw[Aac c]
     rw[Bool.and_eq_true,Bool.or_eq_true]at c
     refine⟨fun h5=>?_,fun _=>⟨rfl,mem_append.2 (.inr (mem_singleton.2 rfl)),c.1,fun b hb hw=>?_⟩⟩
     . have h5:a.says+1=5:=h5
       omega
     . show alt b a=false
       rcases mem_append.1 hb with hb|hb
       . by_cases c5:v.is_=5
         . rw[(h.is5 c5).2 b hb]at hw;cases hw
         . rcases c.2 with c2|c2
           . exact absurd (AaW c2) c5
           . exact ATx c2 ((h.by_ c5).2.2.2 b hb hw)
       . rw[mem_singleton.1 hb]
         unfold alt
         exact AaY (by omega)
   . rw[if_neg c]
     refine⟨fun h5=>⟨(h.is5 h5).1,fun b hb=>?_⟩,fun h5=>⟨(h.by_ h5).1,mem_append.2 (.inl (h.by_ h5).2.1),(h.by_ h5).2.2.1,fun b hb hw=>?_⟩⟩
     . rcases mem_append.1 hb with hb|hb
       . exact(h.is5 h5).2 b hb
       . rw[mem_singleton.1 hb]
         rw[Aab h5,Bool.true_or,Bool.and_true]at c
         simpa using c
     . rcases mem_append.1 hb with hb|hb
       . exact(h.by_ h5).2.2.2 b hb hw
       . rw[mem_singleton.1 hb]at hw ⊢
         rw[hw,AaY h5,Bool.false_or,Bool.true_and]at c
         simpa using c
 intro l hl;have:=key l [] ⟨x.day+A+1,5,zeroA⟩ hl ⟨fun _=>⟨rfl,fun a ha=>by cases ha⟩,fun h=>absurd rfl h⟩;rw[Aam]at this;exact this
theorem AIs(hv:Vd d)(x:Dispute):DecL x d.terms.answer (d.answers.filter fun a=>decide (a.dispute=x.id)) (dec d x):=AZg _ fun a ha=>(hv.a.v a (List.mem_filter.1 ha).1).2.2.1
theorem ATy(hv:Vd d):x.day<=(dec d x).day/\(dec d x).day<=x.day+d.terms.answer+1:=by
 have ht:=hv.t.1;have h:=AIs hv x;by_cases c:(dec d x).is_=5
 . rw[(h.is5 c).1];show _<=x.day+d.terms.answer+1/\x.day+d.terms.answer+1<=_;omega
 . obtain⟨h1,_,h2,_⟩:=h.by_ c;have h2:=K6 h2;rw[h1];show _<=(dec d x).by_.day/\(dec d x).by_.day<=_;omega
theorem AGO(hv:Vd d)(hx:x∈d.disputes):0<=(dec d x).day/\(dec d x).day<=100000:=by
 obtain⟨_,_,f,hf,x1,x2⟩:=hv.x.v x hx;have hfm:=(hv.r.v f (ABX hf).1).2.2.2.2.2.1;have:=ATy hv (x:=x);omega
theorem ARq(hv:Vd d)(x:Dispute):2<=(dec d x).is_/\(dec d x).is_<=5:=by
 by_cases c:(dec d x).is_=5
 . omega
 . obtain⟨h1,h2,_⟩:=(AIs hv x).by_ c;have:=(hv.a.v _ (List.mem_filter.1 h2).1).2.2.1;rw[h1];show 2<=(dec d x).by_.says+1/\(dec d x).by_.says+1<=5;omega
def wh(d:Desk)(x:Dispute)(day:Int):Int:=if (dec d x).day<=day then(dec d x).is_ else if x.day<=day then 1 else 0
theorem AGx{D:Desk_99}(hD:Dw d D)(hv:Vd d)(hx:x∈d.disputes):F4 D x day=some (wh d x day,dec d x):=by
 unfold F4 wh;rw[ARp hD hv hx,bindS];by_cases c:(dec d x).day<=day
 . rw[Aab c,condT,Aac c]
 . rw[AaY c,condF,if_neg c];by_cases c2:x.day<=day
   . rw[Aab c2,condT,Aac c2]
   . rw[AaY c2,condF,if_neg c2]
theorem AQR{l:List α}{k:α->Int}(h:(l.map k).Nodup){x:α}(hx:x∈l)(hn:n<l.length)(he:k l[n]=k x):l[n]=x:=by
 rw[List.Nodup,Abi,AbQ]at h;obtain⟨j,hj,rfl⟩:=AbV hx;rcases AcQ n j with e|e|e
 . exact absurd he (h n j hn hj e)
 . subst e;rfl
 . exact absurd he.symm (h j n hj hn e)
theorem ATz(hv:Vd d)(hx:x∈d.disputes)(hd:0<=day/\day<=100000):AAO d x.id day=some (wh d x day,(dec d x).day,0):=by
 obtain⟨D,h1,hD⟩:=ADe hv hd;have hlx:=hv.x.len;refine Ret.eq ?_;unfold AAO;rw[h1,bindS];refine Ret.condF (by decide) (Ret.bind ?_);rw[hD.d];refine(AD7 (s:=d.disputes) (f:=fun a3=>AAB a3 x.id) (fun _ _=>rfl) (by omega) (fun h=>?_) fun k hk h hp=>?_:Ret (AHs _ _) _)
 . exact absurd rfl (AaZ (h x hx))
 . refine Ret.condF (AaY (by omega)) (Ret.bind (O2 hk ?_));rw[AQR hv.x.nd hx hk (AaW h),AGx hD hv hx];exact Ret.ok rfl
def isO(d:Desk)(report day:Int)(x:Dispute):Bool:=decide (x.report=report)&&decide (wh d x day=1)
def isS(d:Desk)(report day:Int)(x:Dispute):Bool:=decide (x.report=report)&&(decide (wh d x day=2)&&decide (day-(dec d x).day<=d.terms.mark))
def AIt(d:Desk)(report day:Int):Int:=if d.disputes.any (isO d report day) then 1 else if d.disputes.any (isS d report day) then 2 else 0
theorem AFT{l:List α}{p:α->Bool}(h:n<l.length):(l.take (n+1)).any p=((l.take n).any p||p l[n]):=by
 rw[P9 h,List.any_append];simp
theorem AVh(hv:Vd d){report day:Int}(hd:0<=day/\day<=100000):AAl d report day=some (if (fct d.reports report).isSome then(AIt d report day,0) else(0,6)):=by
 obtain⟨D,h1,hD⟩:=ADe hv hd;have hlx:=hv.x.len;refine Ret.eq ?_;unfold AAl;rw[h1,bindS];refine Ret.condF (by decide) ?_;rw[hD.f,hD.d];cases hf:fct d.reports report with
 |none=>exact Ret.condT rfl (Ret.ok rfl)
 |some f=>
  refine Ret.condF rfl ?_
  refine Ret.bind (C9 d.disputes.length (fun n (t:Int×Int)=>t.2=n/\(d.disputes.take n).any (isO d report day)=false/\t.1=if (d.disputes.take n).any (isS d report day) then 2 else 0) ⟨rfl,rfl,rfl⟩ ?_ ?_)
  . rintro n hlt ⟨m,_⟩ ⟨rfl,ho,hm⟩
    dsimp only at hm
    have hx:=Aak hlt
    refine Ret.condT (ltT hlt) (Ret.bind (Ret.bind (O2 hlt (Ret.cond (fun c=>?_) fun c=>?_))))
    . have c:decide (d.disputes[n].report=report)=false:=by simpa using c
      refine Ret.ok (Ret.elimL (Ret.bind (Ret.chk (by omega) (Ret.next ⟨by dsimp only;omega,?_,?_⟩))))
      . rw[AFT hlt,ho];unfold isO;rw[c];rfl
      . dsimp only;rw[AFT hlt,hm];unfold isS;rw[c,Bool.false_and,Bool.or_false]
    . have c:decide (d.disputes[n].report=report)=true:=by simpa using c
      rw[AGx hD hv hx,bindS]
      refine Ret.cond (fun c1=>?_) fun c1=>?_
      . refine Ret.ok (Ret.elimR (Ret.done (Ret.ok ?_)))
        have:d.disputes.any (isO d report day)=true:=List.any_eq_true.2 ⟨_,hx,by unfold isO;rw[c,c1];rfl⟩
        unfold AIt
        rw[Aac this,AaW c1]
        rfl
      . refine Ret.bind ?_
        have key:∀b:Bool,b=(decide (wh d d.disputes[n] day=2)&&decide (day-(dec d d.disputes[n]).day<=d.terms.mark))->Ret (Option.bind (α:=(Int)) (cond b (some (wh d d.disputes[n] day)) (some m)) fun x27=>some (Sum.inl x27:Int⊕Int)) fun a=>Ret (Sum.elim (fun x28=>(chk .i64 ((n:Int)+1)).bind fun n29=>some (Sum.inl (x28,n29))) (fun x30=>some (Sum.inr x30)) a) (Nxt (fun (t:Int×Int)=>t.2=((n+1:Nat):Int)/\(d.disputes.take (n+1)).any (isO d report day)=false/\t.1=if (d.disputes.take (n+1)).any (isS d report day) then 2 else 0) fun a=>Ret (some (a,(0:Int))) (·=if (some f).isSome then(AIt d report day,0) else(0,6))):=fun b hb=>by
         have eo:(d.disputes.take (n+1)).any (isO d report day)=false:=by rw[AFT hlt,ho];unfold isO;rw[c,c1];rfl
         have es:(d.disputes.take (n+1)).any (isS d report day)=((d.disputes.take n).any (isS d report day)||b):=by rw[AFT hlt,hb];unfold isS;rw[c,Bool.true_and]
         cases b with
         |true=>
          refine Ret.bind (Ret.condT rfl (Ret.ok (Ret.ok (Ret.elimL (Ret.bind (Ret.chk (by omega) (Ret.next ⟨by dsimp only;omega,eo,?_⟩)))))))
          rw[es,Bool.or_true,Aac rfl]
          symm at hb
          rw[Bool.and_eq_true]at hb
          exact AaW hb.1
         |false=>
          refine Ret.bind (Ret.condF rfl (Ret.ok (Ret.ok (Ret.elimL (Ret.bind (Ret.chk (by omega) (Ret.next ⟨by dsimp only;omega,eo,?_⟩)))))))
          rw[es,Bool.or_false]
          exact hm
        have hdi:=AGO hv hx
        refine Ret.cond (fun c2=>Ret.bind (Ret.chk (by omega) (Ret.ok (key _ ?_)))) fun c2=>Ret.ok (key _ ?_)
        . rw[c2,Bool.true_and]
        . rw[c2];rfl
  . rintro⟨m,_⟩ ⟨rfl,ho,hm⟩
    dsimp only at hm
    rw[Aay]at ho hm
    refine Ret.condF (ltF (Aae _)) (Ret.done (Ret.ok ?_))
    rw[Aac (show(some f).isSome=true from rfl)]
    unfold AIt
    rw[if_neg (by rw[ho];decide),hm]
end
end S
namespace S
def AKf{α:Type}(D:Nat->α->Option Int)(a b:α)(a2_:List Nat):Option Int:=(B7 (S:=(Int)) (R:=(Unit⊕Int)) (fun x7=>cond (decide (x7<(a2_.length:Int))) ((ixo a2_ x7).bind fun y8=>(D y8 a).bind fun y9=>(D y8 b).bind fun y10=>(D7 y9 y10).bind fun r11=>cond ((!decide (r11=0))) (some (Sum.inr (Sum.inr r11))) ((chk .i64 (x7+1)).bind fun n12=>some (Sum.inl n12))) (some (Sum.inr (Sum.inl ())))) (0:Int)).bind ((Sum.elim (fun _=>some (0:Int)) (fun r13=>some r13)))
def cf2{α:Type}(k1 k2:α->Int)(a b:α):Int:=if P8 (k1 a) (k1 b)=0 then P8 (k2 a) (k2 b) else P8 (k1 a) (k1 b)
section
variable{x:Int}{y:Int}{α:Type}{k1:α->Int}{k2:α->Int}{a:α}{b:α}
theorem ANd:P8 x y<0↔x<y:=by unfold P8;split<;>(try split)<;>omega
theorem AMO:P8 x y=0↔x=y:=by unfold P8;split<;>(try split)<;>omega
theorem AEs:cf2 k1 k2 a b<0↔k1 a<k1 b\/k1 a=k1 b/\k2 a<k2 b:=by
 unfold cf2;split
 . rename_i h;rw[AMO]at h;rw[ANd];omega
 . rename_i h;rw[AMO]at h;rw[ANd];omega
theorem AGy{D:Nat->α->Option Int}{i j:Nat}(h1:∀y,D i y=some (k1 y))(h2:∀y,D j y=some (k2 y)):AKf D a b [i,j]=some (cf2 k1 k2 a b):=by
 refine Ret.eq ?_;unfold AKf;refine Ret.bind (Ret.loop (fun t:Int=>t=0\/t=1/\P8 (k1 a) (k1 b)=0\/t=2/\P8 (k1 a) (k1 b)=0/\P8 (k2 a) (k2 b)=0) (fun t=>2-t.toNat) (.inl rfl) ?_);rintro _ (rfl|⟨rfl,e⟩|⟨rfl,e,e2⟩)
 . refine Ret.condT rfl (Ret.bind (Ret.val (show ixo [i,j] 0=some i from rfl) ?_));rw[h1,h1,bindS,bindS,p_cmp,bindS];by_cases c:P8 (k1 a) (k1 b)=0
   . rw[Aab c];exact Ret.condF rfl (Ret.bind (Ret.chk (by omega) (Ret.next ⟨.inr (.inl ⟨rfl,c⟩),by decide⟩)))
   . rw[AaY c];exact Ret.condT rfl (Ret.done (Ret.elimR (Ret.ok (by unfold cf2;rw[if_neg c]))))
 . refine Ret.condT rfl (Ret.bind (Ret.val (show ixo [i,j] 1=some j from rfl) ?_));rw[h2,h2,bindS,bindS,p_cmp,bindS];by_cases c:P8 (k2 a) (k2 b)=0
   . rw[Aab c];exact Ret.condF rfl (Ret.bind (Ret.chk (by omega) (Ret.next ⟨.inr (.inr ⟨rfl,e,c⟩),by decide⟩)))
   . rw[AaY c];exact Ret.condT rfl (Ret.done (Ret.elimR (Ret.ok (by unfold cf2;rw[Aac e]))))
 . exact Ret.condF rfl (Ret.done (Ret.elimL (Ret.ok (by unfold cf2;rw[Aac e,e2]))))
def le2{α:Type}(k1 k2:α->Int)(a b:α):Prop:=k1 a<k1 b\/k1 a=k1 b/\k2 a<=k2 b
theorem AIu{x:List α}{cmp:α->α->Option Int}(hc:∀a b,cmp a b=some (cf2 k1 k2 a b))(one:∀a b,a∈x->b∈x->k1 a=k1 b->k2 a=k2 b->a=b)(hl:x.length<=1000000):Ret (ACw x cmp) fun out=>out.Perm x/\out.Pairwise (le2 k1 k2):=by
 have hok:AMG x cmp (cf2 k1 k2):=by
  refine⟨fun a b _ _=>hc a b,⟨fun a=>?_,fun a b c h1 h2=>?_,fun a b c h1 h2=>?_⟩,fun a b ha hb h1 h2=>?_⟩
  . show decide (cf2 k1 k2 a.1 a.1<0)=false;rw[decide_eq_false_iff_not,AEs];omega
  . have h1:=AaW h1;have h2:=AaW h2;refine Aab ?_;rw[AEs]at *;omega
  . have h1:=AaZ h1;have h2:=AaZ h2;refine AaY ?_;rw[AEs]at *;omega
  . rw[AEs]at h1 h2;exact one a b ha hb (by omega) (by omega)
 have hex:x.length<4611686018427387904/\∃cf,AMG x cmp cf:=⟨by omega,_,hok⟩;have hs:ACw x cmp=some (x.mergeSort fun a b=>!decide (hex.2.choose b a<0)):=by
  unfold ACw;rw[dif_pos hex]
 refine Ret.val hs ⟨List.mergeSort_perm _ _,?_⟩;have hsp:=hex.2.choose_spec.1;have hm:=List.map_mergeSort (r:=fun a b=>!decide (hex.2.choose b a<0)) (s:=fun a b=>!decide (cf2 k1 k2 b a<0)) (f:=id) (l:=x) fun a ha b hb=>by
  have h1:=hsp b a hb ha;rw[hc]at h1;rw[<-AaO h1];rfl
 simp only[List.map_id]at hm;rw[hm];have hle:∀a b:α,(!decide (cf2 k1 k2 b a<0))=true↔le2 k1 k2 a b:=fun a b=>by
  rw[Bool.not_eq_true',decide_eq_false_iff_not,AEs];unfold le2;omega
 refine(List.pairwise_mergeSort (fun a b c h1 h2=>?_) (fun a b=>?_) x).imp fun h=>(hle _ _).1 h
 . rw[hle]at *;unfold le2 at *;omega
 . rw[Bool.or_eq_true,hle,hle];unfold le2;omega
theorem AB3{l1 l2:List α}(hp:l1.Perm l2)(h1:l1.Pairwise (le2 k1 k2))(h2:l2.Pairwise (le2 k1 k2))(one:∀a b,a∈l1->b∈l1->k1 a=k1 b->k2 a=k2 b->a=b):l1=l2:=by
 refine List.Perm.eq_of_pairwise (fun a b ha hb hab hba=>?_) h1 h2 hp;unfold le2 at hab hba;exact one a b ha (hp.mem_iff.2 hb) (by omega) (by omega)
theorem Z5{l:List α}{k:α->Int}(h:(l.map k).Nodup):∀a b,a∈l->b∈l->k a=k b->a=b:=fun a b ha hb e=>by
 obtain⟨i,hi,rfl⟩:=AbV ha;exact AQR h hb hi e
def AO0(d:Desk)(day:Int)(out:List Int):Prop:=∃m:List Dispute,m.Perm d.disputes/\m.Pairwise (le2 (·.day) (·.id))/\out=(m.filter fun y=>decide (wh d y day=1)).map (·.id)
theorem AX8{d:Desk}(hv:Vd d){day:Int}(hd:0<=day/\day<=100000):Ret (Z4 d day) fun r=>r.2=0/\AO0 d day r.1:=by
 obtain⟨D,h1,hD⟩:=ADe hv hd;have hlx:=hv.x.len;unfold Z4;rw[h1,bindS];refine Ret.condF (by decide) ?_;rw[hD.d];have hc:P3 d.disputes=some d.disputes:=by
  unfold P3;have h2:appo 24 ([]:List Dispute) d.disputes=some d.disputes:=ABv (xs:=([]:List Dispute)) (by simp;omega) (by simp;omega);refine AJm (fun h=>?_) ?_
  . rw[h];rfl
  . show (appo 24 ([]:List Dispute) d.disputes).bind (fun l7=>some l7)=some d.disputes;rw[h2,bindS]
 rw[hc,bindS];have ho:=AIu (x:=d.disputes) (cmp:=fun a b=>J6 a b [60,61]) (k1:=(·.day)) (k2:=(·.id)) (fun a b=>AGy (D:=fd130.D) (fun _=>rfl) (fun _=>rfl)) (fun a b ha hb _ e=>Z5 hv.x.nd a b ha hb e) (by omega);refine Ret.bind (Ret.bind (ho.mono fun m hm=>Ret.ok ?_));obtain⟨hp,hs⟩:=hm;have hml:m.length=d.disputes.length:=hp.length_eq;refine Ret.bind (C9 m.length (fun n (t:Int×List Int)=>t.1=n/\t.2=((m.take n).filter fun y=>decide (wh d y day=1)).map (·.id)) ⟨rfl,rfl⟩ ?_ ?_)
 . rintro n hlt ⟨_,o⟩ ⟨rfl,rfl⟩;have hx:m[n]∈d.disputes:=hp.mem_iff.1 (Aak hlt);refine Ret.condT (ltT hlt) (Ret.bind (O2 hlt ?_));rw[AGx hD hv hx,bindS];have hol:(((m.take n).filter fun y=>decide (wh d y day=1)).map (·.id)).length<=n:=by
    rw[Aa1];exact Aad (AbD ..) (by rw[Aa3];omega)
   refine Ret.bind (Ret.cond (fun c=>?_) fun c=>?_)
   . refine Ret.bind (Ret.appo (by simp only[List.length_singleton];omega) (by simp only[List.length_singleton];omega) (Ret.ok (Ret.bind (Ret.chk (by omega) (Ret.next ⟨by dsimp only;omega,?_⟩)))));dsimp only;rw[P9 hlt,Abb,Aai];congr 1;rw[Aa5,Aac c];rfl
   . refine Ret.ok (Ret.bind (Ret.chk (by omega) (Ret.next ⟨by dsimp only;omega,?_⟩)));dsimp only;rw[P9 hlt,Abb,Aai,Aa5,if_neg (by rw[c];decide)];simp
 . rintro⟨_,o⟩ ⟨rfl,rfl⟩;refine Ret.condF (ltF (Aae _)) (Ret.done (Ret.ok ⟨rfl,m,hp,hs,?_⟩));dsimp only;rw[Aay]
end
end S
namespace S
def Aim(K:List Report)(r o:Report):Prop:=o∈K/\o.id=r.of_/\o.source=r.source/\o.account=r.account
def Wd(K:List Report)(i:Int)(r:Report):Prop:=r∈K/\r.kind=9/\r.of_=i/\∃o,Aim K r o/\o.kind≠9
def Least(p:Report->Prop)(l:List Report):Option Int->Prop
 |none=>∀r∈l,¬p r
 |some z=>∃r∈l,p r/\r.id=z/\∀s∈l,p s->z<=s.id
def Latest(p:Report->Prop)(l:List Report):Option Report->Prop
 |none=>∀r∈l,¬p r
 |some r=>r∈l/\p r/\∀s∈l,p s->s.made<r.made\/s.made=r.made/\s.id<=r.id
def WdR(K:List Report)(i:Int)(z:Option Int):Prop:=Least (Wd K i) K z
def Co(K:List Report)(o r:Report):Prop:=r.kind=8/\Aim K r o/\(0<=r.cents/\r.cents<=most o.kind)/\WdR K r.id none
structure Ok(K:List Report):Prop where
 v:∀r∈K,V r
 nd:(K.map (·.id)).Nodup
 len:K.length<=60
section
variable{p:Report->Prop}{a:Option Int}{q:Report->Prop}
theorem Ok.one{K:List Report}(h:Ok K){a b:Report}(ha:a∈K)(hb:b∈K)(e:a.id=b.id):a=b:=by
 exact Z5 h.nd a b ha hb e
theorem Least.uniq{l:List Report}{a b:Option Int}(h1:Least p l a)(h2:Least p l b):a=b:=by
 cases a with
 |none=>
  cases b with
  |none=>rfl
  |some y=>obtain⟨r,hr,hp,_⟩:=h2;exact absurd hp (h1 r hr)
 |some x=>
  cases b with
  |none=>obtain⟨r,hr,hp,_⟩:=h1;exact absurd hp (h2 r hr)
  |some y=>
   obtain⟨r,hr,hp,rfl,hx⟩:=h1
   obtain⟨s,hs,hq,rfl,hy⟩:=h2
   have:=hx s hs hq
   have:=hy r hr hp
   rw[show r.id=s.id by omega]
theorem Least.congr{l l':List Report}(h:Least p l a)(e:∀r,r∈l/\p r↔r∈l'/\q r):Least q l' a:=by
 cases a with
 |none=>
  intro r hr hq
  obtain⟨h1,h2⟩:=(e r).2 ⟨hr,hq⟩
  exact h r h1 h2
 |some x=>
  obtain⟨r,hr,hp,hx,hm⟩:=h
  obtain⟨h1,h2⟩:=(e r).1 ⟨hr,hp⟩
  exact⟨r,h1,h2,hx,fun s hs hq=>by
   obtain⟨h3,h4⟩:=(e s).2 ⟨hs,hq⟩;exact hm s h3 h4⟩
theorem Latest.congr{l l':List Report}{a:Option Report}(h:Latest p l a)(e:∀r,r∈l/\p r↔r∈l'/\q r):Latest q l' a:=by
 cases a with
 |none=>
  intro r hr hq
  obtain⟨h1,h2⟩:=(e r).2 ⟨hr,hq⟩
  exact h r h1 h2
 |some x=>
  obtain⟨hr,hp,hm⟩:=h
  obtain⟨h1,h2⟩:=(e x).1 ⟨hr,hp⟩
  exact⟨h1,h2,fun s hs hq=>by
   obtain⟨h3,h4⟩:=(e s).2 ⟨hs,hq⟩;exact hm s h3 h4⟩
theorem Latest.uniq{K:List Report}(hK:Ok K){a b:Option Report}(h1:Latest p K a)(h2:Latest p K b):a=b:=by
 cases a with
 |none=>
  cases b with
  |none=>rfl
  |some y=>exact absurd h2.2.1 (h1 y h2.1)
 |some x=>
  cases b with
  |none=>exact absurd h1.2.1 (h2 x h1.1)
  |some y=>
   obtain⟨hx,px,mx⟩:=h1
   obtain⟨hy,py,my⟩:=h2
   have:=mx y hy py
   have:=my x hx px
   rw[hK.one hx hy (by omega)]
theorem Least.push{l:List Report}{z:Option Int}(h:Least p l z)(x:Report):(¬p x->Least p (l++[x]) z)/\(p x->(z=none\/∃y,z=some y/\x.id<y)->Least p (l++[x]) (some x.id))/\(p x->∀y,z=some y->y<=x.id->Least p (l++[x]) z):=by
 have mem:∀s,s∈l++[x]↔s∈l\/s=x:=fun s=>by simp
 refine⟨fun hx=>?_,fun hx hz=>?_,fun hx y hy hle=>?_⟩
 . cases z with
   |none=>
    intro r hr
    rcases (mem r).1 hr with h1|rfl
    . exact h r h1
    . exact hx
   |some y=>
    obtain⟨r,hr,hp,he,hm⟩:=h
    exact⟨r,(mem r).2 (.inl hr),hp,he,fun s hs hq=>by
     rcases (mem s).1 hs with h1|rfl
     . exact hm s h1 hq
     . exact absurd hq hx⟩
 . refine⟨x,(mem x).2 (.inr rfl),hx,rfl,fun s hs hq=>?_⟩;rcases (mem s).1 hs with h1|rfl
   . rcases hz with rfl|⟨y,rfl,hlt⟩
     . exact absurd hq (h s h1)
     . obtain⟨r,hr,hp,he,hm⟩:=h;have:=hm s h1 hq;omega
   . exact Int.le_refl _
 . subst hy;obtain⟨r,hr,hp,he,hm⟩:=h;exact⟨r,(mem r).2 (.inl hr),hp,he,fun s hs hq=>by
    rcases (mem s).1 hs with h1|rfl
    . exact hm s h1 hq
    . exact hle⟩
theorem Latest.push{l:List Report}{z:Option Report}(h:Latest p l z)(x:Report):(¬p x->Latest p (l++[x]) z)/\(p x->(z=none\/∃y,z=some y/\(y.made<x.made\/y.made=x.made/\y.id<x.id))->Latest p (l++[x]) (some x))/\(p x->∀y,z=some y->¬(y.made<x.made\/y.made=x.made/\y.id<x.id)->Latest p (l++[x]) z):=by
 have mem:∀s,s∈l++[x]↔s∈l\/s=x:=fun s=>by simp
 refine⟨fun hx=>?_,fun hx hz=>?_,fun hx y hy hle=>?_⟩
 . cases z with
   |none=>
    intro r hr
    rcases (mem r).1 hr with h1|rfl
    . exact h r h1
    . exact hx
   |some y=>
    obtain⟨hr,hp,hm⟩:=h
    exact⟨(mem y).2 (.inl hr),hp,fun s hs hq=>by
     rcases (mem s).1 hs with h1|rfl
     . exact hm s h1 hq
     . exact absurd hq hx⟩
 . refine⟨(mem x).2 (.inr rfl),hx,fun s hs hq=>?_⟩;rcases (mem s).1 hs with h1|rfl
   . rcases hz with rfl|⟨y,rfl,hlt⟩
     . exact absurd hq (h s h1)
     . have:=h.2.2 s h1 hq;omega
   . omega
 . subst hy;obtain⟨hr,hp,hm⟩:=h;exact⟨(mem y).2 (.inl hr),hp,fun s hs hq=>by
    rcases (mem s).1 hs with h1|rfl
    . exact hm s h1 hq
    . omega⟩
def P1:List Report->Int->List Report
 |[],_=>[]
 |r::l,k=>if r.made<=k/\r∉P1 l k then r::P1 l k else P1 l k
theorem kn_mem:∀{l:List Report} {k:Int} {r:Report},r∈P1 l k↔r∈l/\r.made<=k
 |[],k,r=>by simp[P1]
 |x::l,k,r=>by
  unfold P1;split
  . rename_i h;rw[Aap,Aap,kn_mem];constructor
    . rintro (rfl|h1)
      . exact⟨.inl rfl,h.1⟩
      . exact⟨.inr h1.1,h1.2⟩
    . rintro⟨rfl|h1,h2⟩
      . exact .inl rfl
      . exact .inr ⟨h1,h2⟩
  . rename_i h;rw[Aap,kn_mem];constructor
    . rintro⟨h1,h2⟩;exact⟨.inr h1,h2⟩
    . rintro⟨rfl|h1,h2⟩
      . exact kn_mem.1 (Ab6 fun h3=>h ⟨h2,h3⟩)
      . exact⟨h1,h2⟩
theorem kn_nd:∀{l:List Report} {k:Int},(P1 l k).Nodup
 |[],k=>Abw
 |x::l,k=>by
  unfold P1;split
  . rename_i h;exact List.nodup_cons.2 ⟨h.2,kn_nd⟩
  . exact kn_nd
theorem AQS:∀{l:List Report} {k:Int},(P1 l k).length<=l.length
 |[],k=>Aae _
 |x::l,k=>by
  unfold P1;have:=AQS (l:=l) (k:=k);split
  . simp only[List.length_cons];omega
  . simp only[List.length_cons];omega
theorem ACD{l:List Report}(h:VL l)(k:Int):Ok (P1 l k):=by
 refine⟨fun r hr=>h.v r (kn_mem.1 hr).1,?_,Aad AQS h.len⟩;rw[List.Nodup,Abi];exact List.Pairwise.imp_of_mem (fun {a b} ha hb hne e=>hne (h.cons a (kn_mem.1 ha).1 b (kn_mem.1 hb).1 e)) kn_nd
def Rep(K:List Report)(m:A4 Int Report):Prop:=∀i r,m i=some r↔r∈K/\r.id=i
theorem ABa{S β:Type}{f:S->β->Option S}(I:List β->S->Prop):∀(l pre:List β) (s:S),I pre s->(∀pre x s,x∈l->I pre s->∃s',f s x=some s'/\I (pre++[x]) s')->∃s',l.foldlM f s=some s'/\I (pre++l) s'
 |[],pre,s,h,_=>⟨s,rfl,by simpa using h⟩
 |x::l,pre,s,h,hs=>by
  obtain⟨s1,h1,h2⟩:=hs pre x s (AaT ..) h;obtain⟨s2,h3,h4⟩:=ABa I l (pre++[x]) s1 h2 fun pre y s hy=>hs pre y s (AaQ _ hy);refine⟨s2,?_,by simpa using h4⟩;rw[AbM,h1];exact h3
theorem Rep.lists{K:List Report}(hK:Ok K){m:A4 Int Report}(h:Rep K m):Lists m (K.map fun r=>(r.id,r)):=by
 refine⟨?_,fun a y=>?_⟩
 . rw[Aau];exact hK.nd
 . rw[h,Abr];constructor
   . rintro⟨r,hr,e⟩;cases e;exact⟨hr,rfl⟩
   . rintro⟨hr,rfl⟩;exact⟨y,hr,rfl⟩
theorem Rep.mem{K:List Report}{m:A4 Int Report}(h:Rep K m){l:List (Int×Report)}(hl:Lists m l)(r:Report):r∈l.map (·.2)↔r∈K:=by
 rw[Abr];constructor
 . rintro⟨⟨a,y⟩,hy,rfl⟩;exact((h a y).1 ((hl.2 a y).1 hy)).1
 . intro hr;exact⟨(r.id,r),(hl.2 _ _).2 ((h _ _).2 ⟨hr,rfl⟩),rfl⟩
theorem AGP{S κ α R:Type}{f:S->κ×α->Option S}{m:A4 κ α}{l0:List (κ×α)}(h0:Lists m l0){s0:S}(Spec:S->Prop)(hall:∀l,Lists m l->∃s,l.foldlM f s0=some s/\Spec s)(uniq:∀s s',Spec s->Spec s'->s=s'){K:S->Option R}{Q:R->Prop}(h:∀s,Spec s->Ret (K s) Q):Ret (W5 m fun l=>(l.foldlM f s0).bind K) Q:=by
 obtain⟨r,hr,hs⟩:=hall _ h0;obtain⟨a,ha,hq⟩:=h r hs;refine⟨a,AI7 h0 fun l hl=>?_,hq⟩;obtain⟨s,h1,h2⟩:=hall l hl;rw[h1,bindS,uniq s r h2 hs,ha]
theorem AVi{m:A4 Int Report}{r:Report}(h:m r.of_=none):F0 (Store.mk m) r=some (Report.mk 0 0 0 0 0 0 0 0,false):=by
 unfold F0;simp[h]
theorem AVj{m:A4 Int Report}{r o:Report}(h:m r.of_=some o):F0 (Store.mk m) r=some (o,decide (o.source=r.source/\o.account=r.account)):=by
 unfold F0;by_cases c1:o.source=r.source
 . simp[h,c1];rw[<-c1]
 . simp[h,c1]
end
section
variable{K:List Report}(hK:Ok K){m:A4 Int Report}(hm:Rep K m)
include hK hm
theorem ASj{r:Report}{Q:Report×Bool->Prop}(h1:∀o,Aim K r o->Q (o,true))(h2:∀o',(∀o,¬Aim K r o)->Q (o',false)):Ret (F0 (Store.mk m) r) Q:=by
 rcases hq:m r.of_ with _|o
 . rw[AVi hq];refine Ret.ok (h2 _ fun o ha=>?_);rw[(hm _ o).2 ⟨ha.1,ha.2.1⟩]at hq;cases hq
 . obtain⟨ho,he⟩:=(hm _ o).1 hq;rw[AVj hq];by_cases c:o.source=r.source/\o.account=r.account
   . rw[Aab c];exact Ret.ok (h1 o ⟨ho,he,c.1,c.2⟩)
   . rw[AaY c];exact Ret.ok (h2 _ fun o' ha=>c (by rw[<-hK.one ha.1 ho (by rw[ha.2.1,he])];exact⟨ha.2.2.1,ha.2.2.2⟩))
end
def Co'(K:List Report)(i:Int)(r:Report):Prop:=∃o∈K,o.id=i/\o.kind<=7/\WdR K i none/\Co K o r
structure Dk(K:List Report)(d:Desk_139):Prop where
 reports:Rep K d.store.reports
 gone:∀i,WdR K i (d.gone i)
 fixed:∀i,∃z:Option Report,d.fixed i=z.map (·.id)/\Latest (Co' K i) K z
theorem AQT{l:List Report}(hv:VL l){known:Int}{Q:Desk_139->Prop}(h:∀d,Dk (P1 l known) d->Q d):Ret (Q1 l known) Q:=by
 have hK:Ok (P1 l known):=ACD hv known;have hC:=hv.cons;have hl:=hv.len;generalize hKe:P1 l known=K at h hK;unfold Q1;refine Ret.bind (C9 l.length (fun n (t:Int×A4 Int Report)=>t.1=n/\∀i r,t.2 i=some r↔(r∈l.take n/\r.made<=known)/\r.id=i) ⟨rfl,fun i r=>by simp[fnone]⟩ ?_ ?_)
 . rintro n hlt ⟨_,m⟩ ⟨rfl,hm⟩;dsimp only at hm;refine Ret.condT (ltT hlt) (Ret.bind (O2 hlt (Ret.bind (Ret.cond (fun c=>?_) fun c=>?_))))
   . have c:=AaW c;refine Ret.ok (Ret.bind (Ret.chk (by omega) (Ret.next ⟨by dsimp only;omega,fun i r=>?_⟩)));rw[G4 hlt];show B4 m l[n].id l[n] i=some r↔_;unfold B4;by_cases e:i=l[n].id
     . subst e;simp only[if_true];constructor
       . intro h9;have:=AaO h9;exact⟨⟨.inr this.symm,by rw[<-this];exact c⟩,by rw[<-this]⟩
       . rintro⟨⟨h9|h9,h8⟩,h7⟩
         . rw[hC r (Ab1 h9) l[n] (Aak hlt) h7]
         . rw[h9]
     . simp only[e,if_false];rw[hm];constructor
       . rintro⟨⟨h9,h8⟩,h7⟩;exact⟨⟨.inl h9,h8⟩,h7⟩
       . rintro⟨⟨h9|h9,h8⟩,h7⟩
         . exact⟨⟨h9,h8⟩,h7⟩
         . exact absurd (by rw[<-h7,h9]) e
   . have c:=AaZ c;refine Ret.ok (Ret.bind (Ret.chk (by omega) (Ret.next ⟨by dsimp only;omega,fun i r=>?_⟩)));rw[G4 hlt];dsimp only;rw[hm];constructor
     . rintro⟨⟨h9,h8⟩,h7⟩;exact⟨⟨.inl h9,h8⟩,h7⟩
     . rintro⟨⟨h9|h9,h8⟩,h7⟩
       . exact⟨⟨h9,h8⟩,h7⟩
       . exact absurd (h9▸h8) c
 rintro⟨_,m⟩ ⟨rfl,hm⟩;dsimp only at hm;rw[Aay]at hm;refine Ret.condF (ltF (Aae _)) (Ret.done ?_);have hm:Rep K m:=fun i r=>by rw[hm,<-hKe,kn_mem]
 have hl0:=hm.lists hK;have mem1:∀{lx:List (Int×Report)},Lists m lx->∀x∈lx,x.2∈K:=fun hlx x hx=>(hm.mem hlx x.2).1 (mem_map.2 ⟨x,hx,rfl⟩);refine AGP hl0 (fun s:A4 Int Int=>∀i,WdR K i (s i)) (fun lx hlx=>?_) (fun s s' hs hs'=>funext fun i=>(hs i).uniq (hs' i)) fun g hg=>?_
 . refine Exists.imp (fun s (h:_/\_)=>⟨h.1,fun i=>(h.2 i).congr fun r=>by rw[Aam,hm.mem hlx]⟩) (ABa (fun (pre:List (Int×Report)) (s:A4 Int Int)=>∀i,Least (Wd K i) (pre.map (·.2)) (s i)) lx [] (fnone:A4 Int Int) (fun i r hr=>by simp at hr) (fun pre x s hx hI=>?_))
   . obtain⟨xk,r⟩:=x;have hr:r∈K:=mem1 hlx _ hx;have no:(∀i,¬Wd K i r)->∀i,Least (Wd K i) ((pre++[(xk,r)]).map (·.2)) (s i):=fun hn i=>by rw[Aai];exact((hI i).push r).1 (hn i)
     show Ret _ fun s':A4 Int Int=>∀i,Least (Wd K i) ((pre++[(xk,r)]).map (·.2)) (s' i);refine Ret.bind (ASj hK hm (fun o ha=>?_) fun o' hna=>?_)
     . dsimp only;by_cases c1:r.kind=9
       . rw[Aab c1];by_cases c2:o.kind=9
         . rw[Aab c2];refine Ret.bind (Ret.condT rfl (Ret.condT rfl (Ret.ok (Ret.bind (Ret.condF rfl (Ret.ok (Ret.ok (no fun i hw=>?_))))))));obtain⟨_,_,h3,o2,ha2,h9⟩:=hw;exact h9 (by rw[hK.one ha2.1 ha.1 (by rw[ha2.2.1,ha.2.1])];exact c2)
         . rw[AaY c2];have hw:Wd K o.id r:=⟨hr,c1,ha.2.1.symm,o,ha,c2⟩;have oth:∀i,i≠o.id->¬Wd K i r:=fun i hi hw=>hi (by rw[ha.2.1,hw.2.2.1]);refine Ret.bind (Ret.condT rfl (Ret.condT rfl (Ret.ok (Ret.bind (Ret.condT rfl (Ret.bind ?_))))));have put:(s o.id=none\/∃y,s o.id=some y/\r.id<y)->∀i,Least (Wd K i) ((pre++[(xk,r)]).map (·.2)) (B4 s o.id r.id i):=fun hz i=>by
            rw[Aai];unfold B4;by_cases e:i=o.id
            . subst e;rw[Aac rfl];exact((hI _).push r).2.1 hw hz
            . rw[if_neg e];exact((hI i).push r).1 (oth i e)
           cases hz:s o.id with
           |none=>exact Ret.condT rfl (Ret.ok (Ret.bind (Ret.condT rfl (Ret.ok (Ret.ok (Ret.ok (put (.inl hz))))))))
           |some y=>
            refine Ret.condF rfl (Ret.ok ?_)
            by_cases c3:r.id<y
            . rw[Aab (show r.id<(some y).getD 0 from c3)]
              exact Ret.bind (Ret.condT rfl (Ret.ok (Ret.ok (Ret.ok (put (.inr ⟨y,hz,c3⟩))))))
            . rw[AaY (show ¬r.id<(some y).getD 0 from c3)]
              refine Ret.bind (Ret.condF rfl (Ret.ok (Ret.ok (Ret.ok fun i=>?_))))
              rw[Aai]
              by_cases e:i=o.id
              . subst e;exact((hI _).push r).2.2 hw y hz (by omega)
              . exact((hI i).push r).1 (oth i e)
       . rw[AaY c1];exact Ret.bind (Ret.condF rfl (Ret.ok (Ret.bind (Ret.condF rfl (Ret.ok (Ret.ok (no fun i hw=>c1 hw.2.1)))))))
     . dsimp only;have hn:∀i,¬Wd K i r:=fun i hw=>by
        obtain⟨_,_,_,o2,ha2,_⟩:=hw;exact hna o2 ha2
       refine Ret.bind (Ret.cond (fun _=>Ret.condF rfl (Ret.ok ?_)) fun _=>Ret.ok ?_)<;>exact Ret.bind (Ret.condF rfl (Ret.ok (Ret.ok (no hn))))
 refine AGP hl0 (fun s:A4 Int Int=>∀i,∃z:Option Report,s i=z.map (·.id)/\Latest (Co' K i) K z) (fun lx hlx=>?_) (fun s s' hs hs'=>funext fun i=>?_) fun f hf=>?_
 . refine Exists.imp (fun s (h:_/\_)=>⟨h.1,fun i=>(by
    obtain⟨z,hz,hz2⟩:=h.2.2 i;exact⟨z,hz,hz2.congr fun r=>by rw[Aam,hm.mem hlx]⟩)⟩) (ABa (fun (pre:List (Int×Report)) (s:A4 Int Int)=>(∀x∈pre,x.2∈K)/\∀i,∃z:Option Report,s i=z.map (·.id)/\Latest (Co' K i) (pre.map (·.2)) z) lx [] (fnone:A4 Int Int) ⟨(fun x hx=>by simp at hx),fun i=>⟨none,rfl,fun r hr=>by simp at hr⟩⟩ (fun pre x s hx hI=>?_))
   . obtain⟨xk,r⟩:=x;have hr:r∈K:=mem1 hlx _ hx;obtain⟨hpre,hI⟩:=hI;have hpre':∀x∈pre++[(xk,r)],x.2∈K:=fun x hx=>by
      rcases mem_append.1 hx with h9|h9
      . exact hpre x h9
      . have:x=(xk,r):=by simpa using h9
        rw[this];exact hr
     have no:(∀i,¬Co' K i r)->(∀x∈pre++[(xk,r)],x.2∈K)/\∀i,∃z:Option Report,s i=z.map (·.id)/\Latest (Co' K i) ((pre++[(xk,r)]).map (·.2)) z:=fun hn=>⟨hpre',fun i=>by
      obtain⟨z,hz,hz2⟩:=hI i;rw[Aai];exact⟨z,hz,(hz2.push r).1 (hn i)⟩⟩
     show Ret _ fun s':A4 Int Int=>(∀x∈pre++[(xk,r)],x.2∈K)/\∀i,∃z:Option Report,s' i=z.map (·.id)/\Latest (Co' K i) ((pre++[(xk,r)]).map (·.2)) z;refine Ret.bind (ASj hK hm (fun o ha=>?_) fun o' hna=>?_)
     . dsimp only;have hov:=hK.v o ha.1;have one:∀{i o2},o2∈K->o2.id=i->Co K o2 r->o2=o:=fun h1 _ h3=>hK.one h1 ha.1 (by rw[h3.2.1.2.1,ha.2.1]);by_cases c1:r.kind=8
       . rw[Aab c1];refine Ret.bind (Ret.condF rfl (Ret.condF rfl ?_));unfold H6;refine Ret.bind (Ret.ok ?_);by_cases c2:o.kind<=7
         . refine Ret.condF (by simp;exact c2) ?_;rw[AQK hov.1,AGG (by simp),bindS];by_cases c3:0<=r.cents/\r.cents<=most o.kind
           . refine Ret.condF (by simp[inB,c3]) ?_;unfold R8;refine Ret.bind (Ret.ok ?_);dsimp only;have gs:∀i,(g i).isSome=true↔¬WdR K i none:=fun i=>by
              cases hq:g i with
              |none=>simp;have:=hg i;rw[hq]at this;exact this
              |some y=>simp;intro h9;have:=(hg i).uniq h9;rw[hq]at this;cases this
             by_cases c4:(g r.id).isSome=true
             . rw[c4];exact Ret.condT rfl (Ret.ok (Ret.condT rfl (Ret.ok (no fun i hc=>by
                obtain⟨o2,_,_,_,_,h5⟩:=hc;exact(gs r.id).1 c4 h5.2.2.2))))
             . have c4':(g r.id).isSome=false:=by simpa using c4
               rw[c4'];refine Ret.condF rfl (Ret.bind (Ret.ok ?_));by_cases c5:(g o.id).isSome=true
               . rw[c5];exact Ret.ok (Ret.condT rfl (Ret.ok (no fun i hc=>by
                  obtain⟨o2,h1,h2,_,h4,h5⟩:=hc;have:=one h1 h2 h5;subst this;exact(gs o2.id).1 c5 (h2▸h4))))
               . have c5':(g o.id).isSome=false:=by simpa using c5
                 rw[c5'];refine Ret.ok (Ret.condF rfl ?_);have w1:WdR K r.id none:=Ab6 fun h9=>c4 ((gs r.id).2 h9);have w2:WdR K o.id none:=Ab6 fun h9=>c5 ((gs o.id).2 h9);have hc:Co' K o.id r:=⟨o,ha.1,rfl,c2,w2,c1,ha,c3,w1⟩;have oth:∀i,i≠o.id->¬Co' K i r:=fun i hi hc=>by
                  obtain⟨o2,h1,h2,_,_,h5⟩:=hc;exact hi (by rw[<-h2,one h1 h2 h5])
                 obtain⟨z,hz,hz2⟩:=hI o.id;have put:(z=none\/∃y,z=some y/\(y.made<r.made\/y.made=r.made/\y.id<r.id))->(∀x∈pre++[(xk,r)],x.2∈K)/\∀i,∃z:Option Report,(B4 s o.id r.id) i=z.map (·.id)/\Latest (Co' K i) ((pre++[(xk,r)]).map (·.2)) z:=fun h9=>⟨hpre',fun i=>by
                  rw[Aai];unfold B4;by_cases e:i=o.id
                  . subst e;rw[Aac rfl];exact⟨some r,rfl,(hz2.push r).2.1 hc h9⟩
                  . rw[if_neg e];obtain⟨z',hz',hz2'⟩:=hI i;exact⟨z',hz',(hz2'.push r).1 (oth i e)⟩⟩
                 have keep:∀y,z=some y->¬(y.made<r.made\/y.made=r.made/\y.id<r.id)->(∀x∈pre++[(xk,r)],x.2∈K)/\∀i,∃z:Option Report,s i=z.map (·.id)/\Latest (Co' K i) ((pre++[(xk,r)]).map (·.2)) z:=fun y hy h9=>⟨hpre',fun i=>by
                  rw[Aai];by_cases e:i=o.id
                  . subst e;exact⟨z,hz,(hz2.push r).2.2 hc y hy h9⟩
                  . obtain⟨z',hz',hz2'⟩:=hI i;exact⟨z',hz',(hz2'.push r).1 (oth i e)⟩⟩
                 refine Ret.bind ?_;rw[hz];cases z with
                 |none=>exact Ret.condT rfl (Ret.ok (Ret.bind (Ret.condT rfl (Ret.ok (Ret.ok (put (.inl rfl)))))))
                 |some y=>
                  have hyK:y∈K:=by
                   obtain⟨q,hq,hq2⟩:=mem_map.1 hz2.1;rw[<-hq2];exact hpre q hq
                  have hmy:m y.id=some y:=(hm _ _).2 ⟨hyK,rfl⟩
                  refine Ret.condF rfl (Ret.bind (Ret.val p_cmp (Ret.bind (Ret.val p_cmp (Ret.bind (Ret.val p_Or ?_))))))
                  have hyid:((some y).map (·.id)).getD 0=y.id:=rfl
                  rw[hyid,hmy]
                  simp only[Option.getD_some]
                  have bd:∀a b:Int,-1<=P8 a b/\P8 a b<=1:=fun a b=>by unfold P8;split<;>(try split)<;>omega
                  have b1:=bd y.made r.made
                  have b2:=bd y.id r.id
                  refine Ret.ok ?_
                  have key:decide ((if P8 y.made r.made=0 then P8 y.id r.id else P8 y.made r.made)<0)=decide (y.made<r.made\/y.made=r.made/\y.id<r.id):=by
                   rw[decide_eq_decide];unfold P8;by_cases h1:y.made<r.made
                   . simp[h1]
                   . by_cases h2:r.made<y.made
                     . simp[h1,h2];omega
                     . have:y.made=r.made:=by omega
                       simp[this];by_cases h3:y.id<r.id
                       . simp[h3]
                       . simp[h3];split<;>omega
                  rw[key]
                  by_cases c6:y.made<r.made\/y.made=r.made/\y.id<r.id
                  . rw[Aab c6]
                    exact Ret.bind (Ret.condT rfl (Ret.ok (Ret.ok (put (.inr ⟨y,rfl,c6⟩)))))
                  . rw[AaY c6]
                    exact Ret.bind (Ret.condF rfl (Ret.ok (Ret.ok (keep y rfl c6))))
           . have hx:([r.cents].all (inB 0 (most o.kind)))=false:=by simp only[List.all_cons,List.all_nil,Bool.and_true,inB];exact AaY c3
             rw[hx];exact Ret.condT rfl (Ret.ok (Ret.condT rfl (Ret.ok (no fun i hc=>by
              obtain⟨o2,h1,h2,_,_,h5⟩:=hc;rw[one h1 h2 h5]at h5;exact c3 h5.2.2.1))))
         . refine Ret.condT (by simp;omega) (Ret.ok (Ret.condT rfl (Ret.ok (no fun i hc=>?_))));obtain⟨o2,h1,h2,h3,_,h5⟩:=hc;rw[one h1 h2 h5]at h3;exact c2 h3
       . rw[AaY c1];exact Ret.bind (Ret.condT rfl (Ret.ok (Ret.condT rfl (Ret.ok (no fun i hc=>by
          obtain⟨o2,_,_,_,_,h5⟩:=hc;exact c1 h5.1)))))
     . dsimp only;have hn:∀i,¬Co' K i r:=fun i hc=>by
        obtain⟨o2,_,_,_,_,h5⟩:=hc;exact hna o2 h5.2.1
       refine Ret.bind (Ret.cond (fun _=>Ret.ok ?_) fun _=>Ret.condT rfl (Ret.ok ?_))<;>exact Ret.condT rfl (Ret.ok (no hn))
 . obtain⟨z,hz,hz2⟩:=hs i;obtain⟨z',hz',hz2'⟩:=hs' i;rw[hz,hz',Latest.uniq hK hz2 hz2']
 . exact Ret.ok (h _ ⟨hm,hg,hf⟩)
end S
namespace S
def AO1(r o:Report):Bool:=decide (o.id=r.of_/\o.source=r.source/\o.account=r.account)
def wdB(K:List Report)(i:Int)(r:Report):Bool:=decide (r.kind=9/\r.of_=i)&&K.any fun o=>AO1 r o&&decide (o.kind≠9)
def AKg(K:List Report)(i:Int):Bool:=K.any (wdB K i)
def coB(K:List Report)(o r:Report):Bool:=decide (r.kind=8/\0<=r.cents/\r.cents<=most o.kind)&&(AO1 r o&&!AKg K r.id)
def AMQ(K:List Report)(o:Report)(z:Option Report)(r:Report):Option Report:=if coB K o r then match z with
 |none=>some r
 |some y=>if y.made<r.made\/y.made=r.made/\y.id<r.id then some r else some y else z
def AJc(K:List Report)(o:Report):Option Report:=K.foldl (AMQ K o) none
def fix(K:List Report)(o:Report):Report:=match AJc K o with
 |none=>o
 |some c=>Report.mk o.id o.source o.account o.made c.about o.kind c.cents o.of_
def T(K:List Report):List Report:=(K.filter fun o=>decide (o.kind<=7)&&!AKg K o.id).map (fix K)
theorem ANf{K:List Report}{i:Int}{r:Report}(hr:r∈K):wdB K i r=true↔Wd K i r:=by
 unfold wdB Wd Aim AO1;rw[Bool.and_eq_true,decide_eq_true_iff,AcC];constructor
 . rintro⟨⟨h1,h2⟩,o,h3,h4⟩;rw[Bool.and_eq_true,decide_eq_true_iff,decide_eq_true_iff]at h4;exact⟨hr,h1,h2,o,⟨h3,h4.1⟩,h4.2⟩
 . rintro⟨_,h1,h2,o,⟨h3,h4⟩,h5⟩;exact⟨⟨h1,h2⟩,o,h3,by rw[Bool.and_eq_true,decide_eq_true_iff,decide_eq_true_iff];exact⟨h4,h5⟩⟩
theorem AHv{K:List Report}{i:Int}:AKg K i=false↔WdR K i none:=by
 unfold AKg WdR Least;rw[List.any_eq_false];constructor
 . intro h r hr hw;exact h r hr ((ANf hr).2 hw)
 . intro h r hr hw;exact h r hr ((ANf hr).1 hw)
theorem ANg{K:List Report}{o r:Report}(ho:o∈K):coB K o r=true↔Co K o r:=by
 unfold coB Co Aim AO1;rw[Bool.and_eq_true,Bool.and_eq_true,decide_eq_true_iff,decide_eq_true_iff,Bool.not_eq_true',AHv];constructor
 . rintro⟨⟨h1,h2⟩,h3,h4⟩;exact⟨h1,⟨ho,h3⟩,h2,h4⟩
 . rintro⟨h1,⟨_,h3⟩,h2,h4⟩;exact⟨⟨h1,h2⟩,h3,h4⟩
theorem ACE{K:List Report}{o:Report}(ho:o∈K):Latest (Co K o) K (AJc K o):=by
 have key:∀(l p:List Report) (z:Option Report),Latest (Co K o) p z->Latest (Co K o) (p++l) (l.foldl (AMQ K o) z):=by
  intro l;induction l with
  |nil=>intro p z h;simpa using h
  |cons r l ih=>
   intro p z h
   have:p++r::l=(p++[r])++l:=by simp
   rw[this]
   refine ih _ _ ?_
   obtain⟨p1,p2,p3⟩:=h.push r
   unfold AMQ
   by_cases c:coB K o r=true
   . rw[Aac c]
     have c:=(ANg ho).1 c
     cases z with
     |none=>exact p2 c (.inl rfl)
     |some y=>
      dsimp only
      split
      . rename_i h9;exact p2 c (.inr ⟨y,rfl,h9⟩)
      . rename_i h9;exact p3 c y rfl h9
   . rw[if_neg c]
     exact p1 fun h9=>c ((ANg ho).2 h9)
 have:=key K [] none (fun r hr=>by cases hr);rw[Aam]at this;exact this
theorem AMR{K:List Report}(o:Report):(fix K o).id=o.id:=by
 unfold fix;split<;>rfl
theorem T_mem{K:List Report}{r:Report}:r∈T K↔∃o∈K,o.kind<=7/\WdR K o.id none/\r=fix K o:=by
 unfold T;rw[Abr];constructor
 . rintro⟨o,ho,rfl⟩;rw[List.mem_filter,Bool.and_eq_true,decide_eq_true_iff,Bool.not_eq_true',AHv]at ho;exact⟨o,ho.1,ho.2.1,ho.2.2,rfl⟩
 . rintro⟨o,h1,h2,h3,rfl⟩;exact⟨o,List.mem_filter.2 ⟨h1,by rw[Bool.and_eq_true,decide_eq_true_iff,Bool.not_eq_true',AHv];exact⟨h2,h3⟩⟩,rfl⟩
theorem AJd{K:List Report}(hK:Ok K):((T K).map (·.id)).Nodup:=by
 unfold T;rw[Aau];have:(fun r:Report=>r.id) ∘ fix K=fun r=>r.id:=funext fun o=>AMR o;rw[this];exact(Abq _ AbE).nodup hK.nd
theorem AKh{K:List Report}(hK:Ok K):(T K).length<=60:=by
 unfold T;rw[Aa1];exact Aad (AbD _ _) hK.len
theorem AT0{K:List Report}(hK:Ok K){o:Report}(ho:o∈K){z:Option Report}(h:Latest (Co K o) K z):AJc K o=z:=Latest.uniq hK (ACE ho) h
def cv(d:Desk_139)(o:Report):Report:=match d.fixed o.id with
 |none=>o
 |some j=>Report.mk o.id o.source o.account o.made ((d.store.reports j).getD (Report.mk 0 0 0 0 0 0 0 0)).about o.kind ((d.store.reports j).getD (Report.mk 0 0 0 0 0 0 0 0)).cents o.of_
theorem ASl{α:Type}{p q:Prop}[Decidable p][Decidable q](h:p↔q){a b:α}:(if p then a else b)=if q then a else b:=by
 by_cases c:p
 . rw[Aac c,Aac (h.1 c)]
 . rw[if_neg c,if_neg fun c'=>c (h.2 c')]
theorem AQU{α β:Type}{f:α->β}{l:List α}(h:(l.map f).Nodup):l.Nodup:=(List.pairwise_map.1 h).imp fun h e=>h (AaX f e)
theorem AMS:∀(l:List (Int×Report)) (pre:List Report),pre.length+l.length<=1000000->List.foldlM (m:=Option) (s:=((List Report))) (α:=Int×Report) (fun x37 (k38,v39)=>(appo 64 x37 ([v39])).bind fun l40=>some l40) pre l=some (pre++l.map (·.2))
 |[],pre,_=>by simp
 |x::l,pre,h=>by
  rw[AbL]at h;obtain⟨k,v⟩:=x;rw[AbM];dsimp only;rw[ABv (by simp;omega) (by simp;omega)];show List.foldlM _ (pre++[v]) l=_;rw[AMS l (pre++[v]) (by simp;omega)];simp
section
variable{K:List Report}(hK:Ok K){d:Desk_139}(hd:Dk K d)
include hK hd
theorem ASm{i:Int}:d.gone i=none↔WdR K i none:=by
 constructor
 . intro h;have:=hd.gone i;rwa [h]at this
 . intro h;exact(hd.gone i).uniq h
theorem AVl{o:Report}(ho:o∈K)(h7:o.kind<=7)(hw:WdR K o.id none)(r:Report):Co' K o.id r↔Co K o r:=by
 constructor
 . rintro⟨o2,h1,h2,_,_,h5⟩;rwa [<-hK.one h1 ho h2]
 . intro h;exact⟨o,ho,rfl,h7,hw,h⟩
theorem ARr{o:Report}(ho:o∈K)(h7:o.kind<=7)(hw:WdR K o.id none):∃z:Option Report,d.fixed o.id=z.map (·.id)/\Latest (Co K o) K z:=by
 obtain⟨z,h1,h2⟩:=hd.fixed o.id;exact⟨z,h1,h2.congr fun r=>and_congr_right fun _=>AVl hK hd ho h7 hw r⟩
theorem AQV{o:Report}(ho:o∈K)(h7:o.kind<=7)(hw:WdR K o.id none):cv d o=fix K o:=by
 obtain⟨z,h1,h2⟩:=ARr hK hd ho h7 hw;unfold cv fix;rw[AT0 hK ho h2,h1];cases z with
 |none=>rfl
 |some c=>
  have hc:c∈K:=h2.1
  simp only[Option.map_some,(hd.reports c.id c).2 ⟨hc,rfl⟩,Option.getD_some]
theorem AX9:Lists d.gone ((K.filter fun o=>(d.gone o.id).isSome).map fun o=>(o.id,(d.gone o.id).getD 0)):=by
 refine⟨?_,fun a y=>?_⟩
 . rw[Aau];exact(Abq _ AbE).nodup hK.nd
 . rw[Abr];constructor
   . rintro⟨o,ho,e⟩;rw[List.mem_filter]at ho;obtain⟨z,hz⟩:=Option.isSome_iff_exists.1 ho.2;cases e
     rw[hz];rfl
   . intro h;have:=hd.gone a;rw[h]at this;obtain⟨r,_,⟨_,_,h3,o,ha,_⟩,_⟩:=this;have e:o.id=a:=by rw[ha.2.1,h3]
     refine⟨o,List.mem_filter.2 ⟨ha.1,by rw[e,h];rfl⟩,by rw[e,h];rfl⟩
open Classical in
theorem ANh{Q:List Report->Prop}(h:∀out,out.Perm (T K)->out.Pairwise (le2 (·.about) (·.id))->Q out):Ret (I6 d) Q:=by
 have hl0:=hd.reports.lists hK;have hKl:=hK.len;unfold I6;refine Ret.bind ?_;unfold AAC;refine AGP hl0 (fun s:A4 Int Report=>∀i r',s i=some r'↔∃o∈K,o.id=i/\o.kind<=7/\r'=cv d o) (fun lx hlx=>?_) (fun s s' hs hs'=>funext fun i=>Option.ext fun r'=>(hs i r').trans (hs' i r').symm) fun m1 hm1=>?_
 . refine Exists.imp (fun s (h:_/\_)=>⟨h.1,fun i r'=>(h.2.2 i r').trans (by
    constructor
    . rintro⟨o,ho,h9⟩;exact⟨o,by rwa [Aam,hd.reports.mem hlx]at ho,h9⟩
    . rintro⟨o,ho,h9⟩;exact⟨o,by rwa [Aam,hd.reports.mem hlx],h9⟩)⟩) (ABa (fun (pre:List (Int×Report)) (s:A4 Int Report)=>(∀x∈pre,x.2∈K)/\∀i r',s i=some r'↔∃o∈pre.map (·.2),o.id=i/\o.kind<=7/\r'=cv d o) lx [] (fnone:A4 Int Report) ⟨(fun x hx=>by simp at hx),fun i r'=>by simp[fnone]⟩ (fun pre x s hx hI=>?_))
   obtain⟨xk,o⟩:=x;obtain⟨ho,hok⟩:=(hd.reports xk o).1 ((hlx.2 _ _).1 hx);subst hok;obtain⟨hpre,hI⟩:=hI;have hpre':∀x∈pre++[(o.id,o)],x.2∈K:=fun x hx=>by
    rcases mem_append.1 hx with h9|h9
    . exact hpre x h9
    . have:x=(o.id,o):=by simpa using h9
      rw[this];exact ho
   show Ret _ fun s':A4 Int Report=>(∀x∈pre++[(o.id,o)],x.2∈K)/\∀i r',s' i=some r'↔∃o'∈(pre++[(o.id,o)]).map (·.2),o'.id=i/\o'.kind<=7/\r'=cv d o';have fin:∀a c,cv d o=Report.mk o.id o.source o.account o.made a o.kind c o.of_->Ret ((H6 (Report.mk o.id o.source o.account o.made a o.kind c o.of_)).bind fun r19=>Option.bind (α:=((A4 Int Report))) (cond (r19) (some (B4 s o.id (Report.mk o.id o.source o.account o.made a o.kind c o.of_))) (some s)) ((fun x20=>some x20))) fun s':A4 Int Report=>(∀x∈pre++[(o.id,o)],x.2∈K)/\∀i r',s' i=some r'↔∃o'∈(pre++[(o.id,o)]).map (·.2),o'.id=i/\o'.kind<=7/\r'=cv d o':=fun a c e=>by
    rw[<-e];refine Ret.bind (Ret.val (show H6 (cv d o)=some (decide (o.kind<=7)) by rw[e];rfl) (Ret.bind (Ret.cond (fun h1=>Ret.ok (Ret.ok ⟨hpre',fun i r'=>?_⟩)) fun h1=>Ret.ok (Ret.ok ⟨hpre',fun i r'=>?_⟩))))
    . have h1:=AaW h1;rw[Aai];unfold B4;by_cases ei:i=o.id
      . subst ei;rw[Aac rfl];constructor
        . intro h9;exact⟨o,mem_append.2 (.inr (by simp)),rfl,h1,(AaO h9).symm⟩
        . rintro⟨o',h2,h3,h4,h5⟩;have:o'=o:=by
           rcases mem_append.1 h2 with h9|h9
           . obtain⟨x,hx1,rfl⟩:=mem_map.1 h9;exact hK.one (hpre x hx1) ho h3
           . simpa using h9
          rw[h5,this]
      . rw[if_neg ei,hI];constructor
        . rintro⟨o',h2,h3⟩;exact⟨o',mem_append.2 (.inl h2),h3⟩
        . rintro⟨o',h2,h3⟩;rcases mem_append.1 h2 with h9|h9
          . exact⟨o',h9,h3⟩
          . have:o'=o:=by simpa using h9
            exact absurd (by rw[<-h3.1,this]) ei
    . have h1:=AaZ h1;rw[Aai,hI];constructor
      . rintro⟨o',h2,h3⟩;exact⟨o',mem_append.2 (.inl h2),h3⟩
      . rintro⟨o',h2,h3⟩;rcases mem_append.1 h2 with h9|h9
        . exact⟨o',h9,h3⟩
        . have:o'=o:=by simpa using h9
          exact absurd (this▸h3.2.1) h1
   have e1:cv d o=Report.mk o.id o.source o.account o.made (if (d.fixed o.id).isSome then((d.store.reports ((d.fixed o.id).getD 0)).getD (Report.mk 0 0 0 0 0 0 0 0)).about else o.about) o.kind (if (d.fixed o.id).isSome then((d.store.reports ((d.fixed o.id).getD 0)).getD (Report.mk 0 0 0 0 0 0 0 0)).cents else o.cents) o.of_:=by
    unfold cv;cases d.fixed o.id with
    |none=>rfl
    |some j=>rfl
   refine Ret.bind ?_;cases hf:d.fixed o.id with
   |none=>
    rw[hf]at e1
    exact Ret.condF rfl (Ret.ok (fin _ _ e1))
   |some j=>
    rw[hf]at e1
    exact Ret.condT rfl (Ret.ok (fin _ _ e1))
 refine AGP (AX9 hK hd) (fun s:A4 Int Report=>∀i,s i=if (d.gone i).isSome then none else m1 i) (fun lx hlx=>?_) (fun s s' hs hs'=>funext fun i=>(hs i).trans (hs' i).symm) fun m2 hm2=>?_
 . classical
   refine Exists.imp (fun s (h:_/\_)=>⟨h.1,fun i=>(h.2 i).trans (ASl ?_)⟩) (ABa (fun (pre:List (Int×Int)) (s:A4 Int Report)=>∀i,s i=if ∃y,(i,y)∈pre then none else m1 i) lx [] m1 (fun i=>by simp) (fun pre x s hx hI=>⟨_,rfl,fun i=>?_⟩))
   . unfold Z7;by_cases e:i=x.1
     . rw[Aac e,Aac ⟨x.2,mem_append.2 (.inr (by rw[e];simp))⟩]
     . rw[if_neg e,hI];refine ASl (exists_congr fun y=>?_);rw[Aaq];constructor
       . exact .inl
       . rintro (h9|h9)
         . exact h9
         . have:(i,y)=x:=by simpa using h9
           exact absurd (by rw[<-this]) e
   . rw[Aam,Option.isSome_iff_exists];exact exists_congr fun y=>hlx.2 i y
 have hlT:Lists m2 ((T K).map fun r=>(r.id,r)):=by
  refine⟨by rw[Aau];exact AJd hK,fun a y=>?_⟩;rw[hm2,Abr];constructor
  . rintro⟨r,hr,e⟩;cases e
    obtain⟨o,ho,h7,hw,rfl⟩:=T_mem.1 hr;rw[AMR,(ASm hK hd).2 hw];exact(hm1 _ _).2 ⟨o,ho,rfl,h7,(AQV hK hd ho h7 hw).symm⟩
  . intro h1;split at h1
    . cases h1
    rename_i h2;obtain⟨o,ho,rfl,h7,rfl⟩:=(hm1 _ _).1 h1;have hw:WdR K o.id none:=(ASm hK hd).1 (by simpa using h2);rw[AQV hK hd ho h7 hw];exact⟨fix K o,T_mem.2 ⟨o,ho,h7,hw,rfl⟩,by rw[AMR]⟩
 have hper:∀l,Lists m2 l->(l.map (·.2)).Perm (T K):=fun l hl=>by
  have:l.Perm ((T K).map fun r=>(r.id,r)):=by
   refine(AbN ?_ ?_).2 fun p=>?_
   . exact AQU hl.1
   . exact AQU hlT.1
   . obtain⟨a,y⟩:=p;exact(hl.2 a y).trans (hlT.2 a y).symm
  have:=this.map (·.2);rwa [Aau,show((fun p:Int×Report=>p.2) ∘ fun r:Report=>(r.id,r))=id from rfl,List.map_id]at this
 have one:∀{l:List Report},l.Perm (T K)->∀a b,a∈l->b∈l->a.about=b.about->a.id=b.id->a=b:=fun hp a b ha hb _ e=>Z5 (AJd hK) a b (hp.mem_iff.1 ha) (hp.mem_iff.1 hb) e;have hone:∀l,Lists m2 l->Ret ((List.foldlM (m:=Option) (s:=((List Report))) (α:=Int×Report) (fun x37 (k38,v39)=>(appo 64 x37 ([v39])).bind fun l40=>some l40) ([]:(List Report)) l).bind fun x42=>(C7 ([(107:Nat),(108:Nat)]) x42).bind fun (_,m43)=>some (m43,(m43.length:Int),(0:Int))) fun z=>(z.1.Perm (T K)/\z.1.Pairwise (le2 (·.about) (·.id)))/\z=(z.1,(z.1.length:Int),(0:Int)):=fun l hl=>by
  have hp:=hper l hl;have hlen:=hp.length_eq;have:=AKh hK;rw[Aa1]at hlen;rw[AMS l [] (by simp;omega),Aam,bindS];have ho:=AIu (x:=l.map (·.2)) (cmp:=fun a b=>F3 a b [107,108]) (k1:=(·.about)) (k2:=(·.id)) (fun a b=>AGy (D:=fd160.D) (fun _=>rfl) (fun _=>rfl)) (one hp) (by rw[Aa1];omega);exact Ret.bind (Ret.bind (ho.mono fun m hm=>Ret.ok (Ret.ok ⟨⟨hm.1.trans hp,hm.2⟩,rfl⟩)))
 obtain⟨z,h1,⟨h2,h3⟩,h4⟩:=hone _ hlT;refine⟨z,AI7 hlT fun l hl=>?_,?_⟩
 . obtain⟨z',h5,⟨h6,h7⟩,h8⟩:=hone l hl;rw[h5,h4,h8,AB3 (h6.trans h2.symm) h7 h3 (one h6)]
 . rw[h4];exact Ret.condT (by simp) (Ret.ok (h _ h2 h3))
theorem AQW(hin:∀r∈K,InR r){Q:List Report->Prop}(h:∀out,out.Perm (T K)->out.Pairwise (le2 (·.about) (·.id))->Q out):Ret (F2 d) Q:=by
 unfold F2;refine Ret.bind (ANh hK hd fun out h1 h2=>?_);have hlen:=h1.length_eq;have:=AKh hK;rw[Aac]
 . exact Ret.ok (h out h1 h2)
 refine⟨by omega,fun r hr=>?_⟩;obtain⟨o,ho,h7,hw,rfl⟩:=T_mem.1 (h1.mem_iff.1 hr);have hz:=ACE (K:=K) ho;unfold fix;have h1:=hin o ho;cases hb:AJc K o with
 |none=>exact h1
 |some c=>
  rw[hb]at hz
  have h2:=hin c hz.1
  exact⟨h1.1,h1.2.1,h1.2.2.1,h1.2.2.2.1,h2.2.2.2.2.1,h1.2.2.2.2.2.1,h2.2.2.2.2.2.2.1,h1.2.2.2.2.2.2.2⟩
end
theorem ARs{r:Report}(h:V r):InR r:=by
 obtain⟨c1,c2,c3,c4,c5,c6,c7,c8,_⟩:=h;have hm:most r.kind<=1000000000000:=by unfold most;split<;>(try split)<;>omega
 exact⟨InK.i64.2 (by omega),InK.i64.2 (by omega),InK.i64.2 (by omega),InK.i64.2 (by omega),InK.i64.2 (by omega),InK.u8.2 (by omega),InK.i64.2 (by omega),InK.i64.2 (by omega)⟩
structure St(l:List Report)(known:Int)(out:List Report):Prop where
 perm:out.Perm (T (P1 l known))
 ord:out.Pairwise (le2 (·.about) (·.id))
theorem AO2{l:List Report}(h:VL l){known:Int}(hk:0<=known/\known<=100000):Ret (K7 l known) fun z=>z.2=0/\St l known z.1:=by
 unfold K7 V4;rw[AGv h];refine Ret.bind ?_;rw[bindS];refine Ret.condF (by decide) ?_;rw[AGG (by simp),bindS,show([known].all (inB 0 100000))=true by simp[inB,hk]];refine Ret.condF rfl (Ret.ok (Ret.elimL (Ret.bind (AQT h fun D hD=>?_))));exact Ret.bind (AQW (ACD h known) hD (fun r hr=>ARs ((ACD h known).v r hr)) fun out h1 h2=>Ret.ok ⟨rfl,h1,h2⟩)
theorem St.uniq{l:List Report}(h:VL l){known:Int}{a b:List Report}(ha:St l known a)(hb:St l known b):a=b:=
 AB3 (ha.perm.trans hb.perm.symm) ha.ord hb.ord fun x y hx hy _ e=>Z5 (AJd (ACD h known)) x y (ha.perm.mem_iff.1 hx) (ha.perm.mem_iff.1 hy) e
end S
end Go.Proofs.YtgioiejbphljoaaGreatDoor
namespace Go.Proofs.YtgioiejbphljoaaGreatDoor
open Go Go.Sx Go.Rx Go.RowKit
def X2(d:Desk_99)(x:Dispute)(v:Verdict)(l:List Report):Option (List Report):=Option.bind (α:=(Int×Int×Int)) (cond (decide (v.is_=3)) (some (v.by_.about,(8:Int),v.by_.cents)) (some ((0:Int),(9:Int),(0:Int)))) ((fun (x1,x2,x3)=>(appo 64 l ([(Report.mk x.id (((d.facts x.report).getD (Report.mk 0 0 0 0 0 0 0 0)).source) (((d.facts x.report).getD (Report.mk 0 0 0 0 0 0 0 0)).account) v.day x1 x2 x3 (((d.facts x.report).getD (Report.mk 0 0 0 0 0 0 0 0)).id))])).bind fun l4=>some (l4)))
def AKI:An:=.nd (.x) (.nd (.x) (.nd (.nd (.x) (.jn [.norm ⟨[(.cell 10 4,.d (.int .i64)),(.cell 10 5,.d (.int .u8)),(.cell 10 6,.d (.int .i64))],[10,6,66]⟩] (.x))) (.x)))
def ABE(d:Desk_99)(l:List Report):Option (List Report×Int):=(chk .i64 ((d.desk.reports.length:Int)+(l.length:Int))).bind fun n1=>cond (decide (60<n1)) (some (([]:(List Report)),(9:Int))) ((H4 ([(78:Nat),(79:Nat)]) l).bind fun (_,m2)=>(U9 ([d.desk.reports,m2])).bind fun r3=>some (r3,(0:Int)))
def AMT:An:=.x
end Go.Proofs.YtgioiejbphljoaaGreatDoor
end
