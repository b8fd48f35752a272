/-
  Part DisputeAnyOrder 11 of the texts that the statement's proof stands on: what memory holds, how code is walked, what the functions reckon. In the order in which they build.
-/
import Derived.Test.YtgioiejbphljoaaGreatDoorEbDisputeAnyOrder10
open List (mem_append mem_cons mem_of_getElem? replicate toArray)
open Nat (beq)
open Go.Proofs.Tryz
set_option linter.unusedVariables false
set_option linter.unusedSectionVars false
set_option maxRecDepth 20000
set_option maxHeartbeats 4000000
noncomputable section
namespace Go.Proofs.YtgioiejbphljoaaGreatDoor
open Go Go.Sx Go.Rx Go.RowKit
variable{w0:World}{w:World}{M:List Nat}{L:Sx.A8}{A:A5}{B:A5}{X:Nat->A5}{Z:List PanicEntry->A5}
theorem AST:prog.cellsOf 189=2:=by kernel_rfl
theorem AWm:prog.keyType 189=true:=by kernel_rfl
def AAY:Ky prog 189 Payer:=APs (show laidOutB prog=true by kernel_rfl) (m:=2) (by omega) (AbH (by kernel_rfl)) (by kernel_rfl) (by rw[underlying189]) (fun x=>.agg (toArray [Value.int .i64 x.day,Value.int .i64 x.source])) (fun x=>InK .i64 x.day/\InK .i64 x.source)
 (fun {x} h=>by
  exact AZS underlying189 rfl rfl rfl rfl (by decide) (by decide) underlying3 AST AQw AWm (AbH (by kernel_rfl)) h.1 h.2)
 (fun {a b} _ _ h=>by
  cases a;cases b;simp at h;simp[h])
noncomputable def r75:Code:=match f75.body with
 |some c=>atC [2,2,1,2,3,3,2,2,1,3,2] c
 |none=>.skip
def o75:List Oper:=AWl r75
theorem ANH{v:Value}{zs:List Report}{b5 b7:Nat}{f:A4 Payer Int}{r:Report}{n:Int}(q:Hp w0 [] M [ownR [] ReportE 45 v zs,mapO AAY (A9 .i64) false b7 f] w)(m:RdC (mm [ownR [] ReportE 45 v zs,mapO AAY (A9 .i64) false b7 f] M) w b5 0 (AAA r))(l3:Sx.A6 L 3=some (.map (some b7)))(l5:Sx.A6 L 5=some (.pointer (some ⟨b5,0,none⟩)))(c:InK .i64 r.about/\InK .i64 r.source)(b:chk .i64 ((f (Payer.mk r.about r.source)).getD 0+r.cents)=some n)(hA:∀L' w',(∀t,¬(19<=t/\t<19+13)->Sx.A6 L' t=Sx.A6 L t)->Hp w0 [] M [ownR [] ReportE 45 v zs,mapO AAY (A9 .i64) false b7 (B4 f (Payer.mk r.about r.source) n)] w'->Adv (mm [ownR [] ReportE 45 v zs,mapO AAY (A9 .i64) false b7 f] M) (mm [ownR [] ReportE 45 v zs,mapO AAY (A9 .i64) false b7 f] M) w w'->A [] L' w'):CW prog 65 r75 [] L w A B X Z:=by
 have b:=J3 b;let σ:=[ownR [] ReportE 45 v zs,mapO AAY (A9 .i64) false b7 f];let σ1:=fun st=>[ownR [] ReportE 45 v zs,AEM AAY (A9 .i64) false b7 f (Payer.mk r.about r.source) ((f (Payer.mk r.about r.source)).getD 0) st];let σ2:=[ownR [] ReportE 45 v zs,mapO AAY (A9 .i64) false b7 (B4 f (Payer.mk r.about r.source) n)];let val:Nat->Option Value:=fun
  |0=>some (.map (some b7))
  |1=>some (.pointer (some ⟨b5,4,none⟩))
  |2=>some (.int .i64 r.about)
  |3=>some (.pointer (some ⟨b5,1,none⟩))
  |4=>some (.int .i64 r.source)
  |5=>some (.agg (toArray [.int .i64 r.about,.int .i64 r.source]))
  |6=>some (.int .i64 ((f (Payer.mk r.about r.source)).getD 0))
  |7=>some (.pointer (some ⟨b5,6,none⟩))
  |8=>some (.int .i64 r.cents)
  |9=>some (.int .i64 n)
  |_=>none
 let Q:(Nat->Bool)->Sx.A8->World->Prop:=fun D L' W=>(D 10=false->Hp w0 [] M σ W/\Adv (mm σ M) (mm σ M) w W)/\(D 10=true->D 12=false->∃(u:Value) (st:Nat),Sx.A6 L' 29=some (.tuple (toArray [u,.int .i64 (st:Int)]))/\(D 11=true->Sx.A6 L' 30=some (.int .i64 (st:Int)))/\Hp w0 [] M (σ1 st) W/\Adv (mm σ M) (mm σ M) w W)/\(D 12=true->Hp w0 [] M σ2 W/\Adv (mm σ M) (mm σ M) w W)/\((D 12=true->∀j,j<12->D j=true)/\(D 11=true->D 10=true));refine AGT (ops:=o75) gx_mix (by decide) (by decide) (Jf 13 19 val Q L) ?_ (AIG (by decide)) ?_ ?_
 . exact Jf.start ⟨fun _=>⟨q.ext (Kp.drew _ _),Adv.of_ext (Kp.drew _ _)⟩,(fun h=>by cases h),(fun h=>by cases h),(fun h=>by cases h),fun h=>by cases h⟩
 . intro D L' W k o I hk J H;have k12:k<12->D 12=false:=fun T=>by
    cases Y:D 12 with
    |false=>rfl
    |true=>rw[I.q.2.2.2.1 Y k T]at hk;cases hk
   have cel:k<12->Cells W b5 0 (AAA r):=fun T=>by
    cases Y:D 10 with
    |false=>exact(m.adv (I.q.1 Y).2).cells
    |true=>
     obtain⟨_,_,_,_,_,h⟩:=I.q.2.1 Y (k12 T)
     exact(m.adv h).cells
   match k,hk,J,H,k12,cel with
   |0,hk,J,H,k12,cel=>
    have J:=AbA (show some _=some o from J)
    subst J
    refine E9 ((I.base 3 (by decide)).trans l3) rfl ?_
    exact Reg.nil ⟨rfl,I.put (by decide) (fun u U=>by cases U;rfl) ⟨I.q.1,I.q.2.1,I.q.2.2.1,fun h j V=>djT (I.q.2.2.2.1 h j V),I.q.2.2.2.2⟩⟩
   |1,hk,J,H,k12,cel=>
    have J:=AbA (show some _=some o from J)
    subst J
    refine M7 ((I.base 5 (by decide)).trans l5) underlying45 rfl sizeOf3 rfl ?_
    exact Reg.nil ⟨rfl,I.put (by decide) (fun u U=>by cases U;rfl) ⟨I.q.1,I.q.2.1,I.q.2.2.1,fun h j V=>djT (I.q.2.2.2.1 h j V),I.q.2.2.2.2⟩⟩
   |2,hk,J,H,k12,cel=>
    have J:=AbA (show some _=some o from J)
    subst J
    refine K4 (I.f 1 _ rfl (H _ (AbB (i:=0) rfl) rfl)) ((cel (by decide)).at 4 rfl) isAgg3 rfl ?_
    exact Reg.nil ⟨rfl,I.put (by decide) (fun u U=>by cases U;rfl) ⟨I.q.1,I.q.2.1,I.q.2.2.1,fun h j V=>djT (I.q.2.2.2.1 h j V),I.q.2.2.2.2⟩⟩
   |3,hk,J,H,k12,cel=>
    have J:=AbA (show some _=some o from J)
    subst J
    refine M7 ((I.base 5 (by decide)).trans l5) underlying45 rfl sizeOf3 rfl ?_
    exact Reg.nil ⟨rfl,I.put (by decide) (fun u U=>by cases U;rfl) ⟨I.q.1,I.q.2.1,I.q.2.2.1,fun h j V=>djT (I.q.2.2.2.1 h j V),I.q.2.2.2.2⟩⟩
   |4,hk,J,H,k12,cel=>
    have J:=AbA (show some _=some o from J)
    subst J
    refine K4 (I.f 3 _ rfl (H _ (AbB (i:=0) rfl) rfl)) ((cel (by decide)).at 1 rfl) isAgg3 rfl ?_
    exact Reg.nil ⟨rfl,I.put (by decide) (fun u U=>by cases U;rfl) ⟨I.q.1,I.q.2.1,I.q.2.2.1,fun h j V=>djT (I.q.2.2.2.1 h j V),I.q.2.2.2.2⟩⟩
   |5,hk,J,H,k12,cel=>
    have J:=AbA (show some _=some o from J)
    subst J
    refine AE7 [(0,1),(1,1)] zeroValue189 rfl underlying189 (fun _=>by simp[sizeOf3]) (show Sx.evs L' [.tmp 21,.tmp 23]=some [_,_] by simp only[Sx.evs,Sx.ev,I.f 2 _ rfl (H _ (mem_of_getElem? (i:=0) rfl) rfl),I.f 4 _ rfl (H _ (mem_of_getElem? (i:=1) rfl) rfl)];rfl) (Cls.cons rfl (Cls.cons rfl Cls.nil)) rfl rfl ?_
    exact Reg.nil ⟨rfl,I.put (by decide) (fun u U=>by cases U;rfl) ⟨I.q.1,I.q.2.1,I.q.2.2.1,fun h j V=>djT (I.q.2.2.2.1 h j V),I.q.2.2.2.2⟩⟩
   |6,hk,J,H,k12,cel=>
    have J:=AbA (show some _=some o from J)
    subst J
    have e0:=I.f 0 _ rfl (H _ (AbB (i:=0) rfl) rfl)
    have e5:=I.f 5 _ rfl (H _ (AbB (i:=1) rfl) rfl)
    have put:∀u,Vl (A9 .i64) false (mm σ M) W u ((f (Payer.mk r.about r.source)).getD 0)->Reg prog 65 o75.toArray .seq [] [] ((25,u)::L') W (fun ds' L' w'=>ds'=[]/\Jf 13 19 val Q L (fun j=>beq j 6||D j) L' w') B X Z:=fun u U=>by
     obtain⟨r1,_⟩:=Vl.one1 U;obtain rfl:=ANL r1;exact Reg.nil ⟨rfl,I.put (by decide) (fun u U=>by cases U;rfl) ⟨I.q.1,I.q.2.1,I.q.2.2.1,fun h j V=>djT (I.q.2.2.2.1 h j V),I.q.2.2.2.2⟩⟩
    cases Y:D 10 with
    |false=>exact APm 1 (a:=Payer.mk r.about r.source) (z0:=0) (I.q.1 Y).1 rfl e0 e5 c underlying186 zeroValue3 ⟨_,⟨rfl,by decide⟩,.inr ⟨rfl,rfl⟩⟩ rfl put
    |true=>
     obtain⟨_,st,_,_,N,_⟩:=I.q.2.1 Y (k12 (by decide))
     exact AXV (K:=AAY) (E:=A9 .i64) (ag:=false) 1 (a:=Payer.mk r.about r.source) (z0:=0) N rfl e0 e5 c underlying186 zeroValue3 ⟨_,⟨rfl,by decide⟩,.inr ⟨rfl,rfl⟩⟩ rfl put
   |7,hk,J,H,k12,cel=>
    have J:=AbA (show some _=some o from J)
    subst J
    refine M7 ((I.base 5 (by decide)).trans l5) underlying45 rfl sizeOf3 rfl ?_
    exact Reg.nil ⟨rfl,I.put (by decide) (fun u U=>by cases U;rfl) ⟨I.q.1,I.q.2.1,I.q.2.2.1,fun h j V=>djT (I.q.2.2.2.1 h j V),I.q.2.2.2.2⟩⟩
   |8,hk,J,H,k12,cel=>
    have J:=AbA (show some _=some o from J)
    subst J
    refine K4 (I.f 7 _ rfl (H _ (AbB (i:=0) rfl) rfl)) ((cel (by decide)).at 6 rfl) isAgg3 rfl ?_
    exact Reg.nil ⟨rfl,I.put (by decide) (fun u U=>by cases U;rfl) ⟨I.q.1,I.q.2.1,I.q.2.2.1,fun h j V=>djT (I.q.2.2.2.1 h j V),I.q.2.2.2.2⟩⟩
   |9,hk,J,H,k12,cel=>
    have J:=AbA (show some _=some o from J)
    subst J
    refine ACq (I.f 6 _ rfl (H _ (AbB (i:=0) rfl) rfl)) (I.f 8 _ rfl (H _ (AbB (i:=1) rfl) rfl)) rfl b ?_
    exact Reg.nil ⟨rfl,I.put (by decide) (fun u U=>by cases U;rfl) ⟨I.q.1,I.q.2.1,I.q.2.2.1,fun h j V=>djT (I.q.2.2.2.1 h j V),I.q.2.2.2.2⟩⟩
   |10,hk,J,H,k12,cel=>
    have J:=AbA (show some _=some o from J)
    subst J
    have F:D 10=false:=hk
    have O:=k12 (by decide)
    refine AXU 1 (a:=Payer.mk r.about r.source) (z0:=0) (I.q.1 F).1 rfl (I.f 0 _ rfl (H _ (AbB (i:=0) rfl) rfl)) (I.f 5 _ rfl (H _ (AbB (i:=1) rfl) rfl)) c underlying186 zeroValue3 ⟨_,⟨rfl,by decide⟩,.inr ⟨rfl,rfl⟩⟩ rfl ?_
    intro u st w' G x'
    exact Reg.nil ⟨rfl,I.put (by decide) (fun u U=>by cases U) ⟨(fun h=>by cases h),fun _ _=>⟨u,st,rfl,(fun h=>by rw[I.q.2.2.2.2 h]at F;cases F),G,(I.q.1 F).2.trans x'⟩,(fun h=>by rw[show D 12=true from h]at O;cases O),(fun h=>by rw[show D 12=true from h]at O;cases O),fun _=>rfl⟩⟩
   |11,hk,J,H,k12,cel=>
    have J:=AbA (show some _=some o from J)
    subst J
    have O:=k12 (by decide)
    have C:D 10=true:=H _ (AbB (i:=0) rfl) rfl
    obtain⟨u,st,N,e,l,g⟩:=I.q.2.1 C O
    refine AE5 N rfl rfl ?_
    exact Reg.nil ⟨rfl,I.put (by decide) (fun u U=>by cases U) ⟨I.q.1,fun _ _=>⟨u,st,N,fun _=>rfl,l,g⟩,I.q.2.2.1,fun h j V=>djT (I.q.2.2.2.1 h j V),fun _=>C⟩⟩
   |12,hk,J,H,k12,cel=>
    have J:=AbA (show some _=some o from J)
    subst J
    have P:D 12=false:=hk
    have R:D 11=true:=H _ (AbB (i:=1) rfl) rfl
    have C:=I.q.2.2.2.2 R
    have p:D 9=true:=H _ (AbB (i:=2) rfl) rfl
    have d:∀j,j<12->D j=true
     |0,_=>H _ (AbB (i:=0) rfl) rfl
     |1,_=>H _ (AbB (i:=5) rfl) rfl
     |2,_=>H _ (AbB (i:=6) rfl) rfl
     |3,_=>H _ (AbB (i:=7) rfl) rfl
     |4,_=>H _ (AbB (i:=8) rfl) rfl
     |5,_=>H _ (AbB (i:=9) rfl) rfl
     |6,_=>H _ (AbB (i:=10) rfl) rfl
     |7,_=>H _ (AbB (i:=11) rfl) rfl
     |8,_=>H _ (AbB (i:=12) rfl) rfl
     |9,_=>p
     |10,_=>C
     |11,_=>R
    obtain⟨u,st,N,e,l,g⟩:=I.q.2.1 C P
    refine AXW (K:=AAY) (E:=A9 .i64) (ag:=false) 1 (a:=Payer.mk r.about r.source) (z:=n) l rfl (I.f 0 _ rfl (d 0 (by decide))) (e R) c (I.f 9 _ rfl p) ⟨_,⟨rfl,b.2⟩,.inr ⟨rfl,rfl⟩⟩ ?_
    intro w' G x'
    exact Reg.nil ⟨rfl,I.sto rfl ⟨(fun h=>by rw[show D 10=false from h]at C;cases C),(fun _ h=>by cases h),fun _=>⟨G,g.trans x'⟩,(fun _ j V=>djT (d j V)),fun _=>C⟩⟩
 . intro D L' W S I;obtain⟨N,e⟩:=I.q.2.2.1 (S 12 (by decide));exact hA L' W I.base N e
noncomputable def r38:Code:=match f38.body with
 |some c=>atC [2,2,2,2,2,1,2,3,3,2,2,1,3,2] c
 |none=>.skip
def o38:List Oper:=AWl r38
def tC(t:Told)(u:Value):List Value:=[.int .u8 t.known,.int .i64 t.cents,.int .i64 t.since,u]
def AGl(M:List Nat)(w:World)(t:Told)(u:Value):Prop:=InK .u8 t.known/\InK .i64 t.cents/\InK .i64 t.since/\RdS (A9 .i64) M w u t.by_
theorem AQ3{b1 b11 b12 b14 off fa ft:Nat}{cs zs:List Value}{vb:Value}{k:Int}{t:Told}(g:Hp w0 [] M [rowR 90 b12 cs,rowR 90 b1 zs] w)(hl:off+4<=cs.length)(O:RdC (mm [rowR 90 b12 cs,rowR 90 b1 zs] M) w b14 0 [.int .u8 k,.func (.func fa) #[] #[],.func (.func ft) #[] #[]])(c:RdC (mm [rowR 90 b12 cs,rowR 90 b1 zs] M) w b11 0 [vb])(l11:Sx.A6 L 11=some (.pointer (some ⟨b11,0,none⟩)))(l12:Sx.A6 L 12=some (.pointer (some ⟨b12,0,none⟩)))(l14:Sx.A6 L 14=some (.pointer (some ⟨b14,0,none⟩)))(ca:∀args w,(callFunc fa args).run prog w=.ok (.enter fa args) w)(ct:∀args w,(callFunc ft args).run prog w=.ok (.enter ft args) w)(S:∀{M:List Nat} {w:World} {p:Nat},MLt M w->Calls prog fa (toArray [.pointer (some ⟨p,0,none⟩)]) w fun e w'=>e=.returned (.pointer (some ⟨p,off,none⟩))/\Ext w w')(htell:∀{W:World},MLt (mm [rowR 90 b12 cs,rowR 90 b1 zs] M) W->Adv (mm [rowR 90 b12 cs,rowR 90 b1 zs] M) (mm [rowR 90 b12 cs,rowR 90 b1 zs] M) w W->Calls prog ft (toArray [.agg (toArray [vb]),.int .u8 k]) W fun e w'=>∃u,e=.returned (.agg (toArray (tC t u)))/\InK .u8 t.known/\InK .i64 t.cents/\InK .i64 t.since/\RdS (A9 .i64) (mm [rowR 90 b12 cs,rowR 90 b1 zs] M) w' u t.by_/\Ext W w')(hA:∀L' w' u,(∀t,¬(46<=t/\t<46+11)->Sx.A6 L' t=Sx.A6 L t)->Hp w0 [] M [rowR 90 b12 (B7 cs off (tC t u)),rowR 90 b1 zs] w'->Adv (mm [rowR 90 b12 cs,rowR 90 b1 zs] M) (mm [rowR 90 b12 cs,rowR 90 b1 zs] M) w w'->AGl (mm [rowR 90 b12 cs,rowR 90 b1 zs] M) w' t u->A [] L' w'):CW prog 111 r38 [] L w A B X Z:=by
 let σ:=[rowR 90 b12 cs,rowR 90 b1 zs];let val:Nat->Option Value:=fun
  |0=>some (.pointer (some ⟨b14,1,none⟩))
  |1=>some (.func (.func fa) #[] #[])
  |2=>some (.pointer (some ⟨b12,off,none⟩))
  |3=>some (.pointer (some ⟨b14,2,none⟩))
  |4=>some (.func (.func ft) #[] #[])
  |5=>some (.agg (toArray [vb]))
  |6=>some (.pointer (some ⟨b14,0,none⟩))
  |7=>some (.int .u8 k)
  |9=>some (.pointer (some ⟨b12,off,none⟩))
  |_=>none
 let Q:(Nat->Bool)->Sx.A8->World->Prop:=fun D L' W=>(D 10=false->Hp w0 [] M σ W/\Adv (mm σ M) (mm σ M) w W)/\(D 8=true->D 10=false->∃u,Sx.A6 L' 54=some (.agg (toArray (tC t u)))/\AGl (mm σ M) W t u)/\(D 10=true->∃u,Hp w0 [] M [rowR 90 b12 (B7 cs off (tC t u)),rowR 90 b1 zs] W/\Adv (mm σ M) (mm σ M) w W/\AGl (mm σ M) W t u)/\((D 10=true->∀j,j<10->D j=true)/\(D 8=true->D 2=true));refine AGT (ops:=o38) gx_mix (by decide) (by decide) (Jf 11 46 val Q L) ?_ (AIG (by decide)) ?_ ?_
 . exact Jf.start ⟨fun _=>⟨g.ext (Kp.drew _ _),Adv.of_ext (Kp.drew _ _)⟩,(fun h=>by cases h),(fun h=>by cases h),(fun h=>by cases h),fun h=>by cases h⟩
 . intro D L' W k' o I hk J H;have k10:k'<10->D 10=false:=fun R=>by
    cases P:D 10 with
    |false=>rfl
    |true=>rw[I.q.2.2.2.1 P k' R]at hk;cases hk
   match k',hk,J,H,k10 with
   |0,hk,J,H,k10=>
    have J:=AbA (show some _=some o from J)
    subst J
    refine M7 ((I.base 14 (by decide)).trans l14) underlying153 rfl sizeOf150 rfl ?_
    exact Reg.nil ⟨rfl,I.put (by decide) (fun u V=>by cases V;rfl) ⟨I.q.1,I.q.2.1,I.q.2.2.1,fun h j C=>djT (I.q.2.2.2.1 h j C),I.q.2.2.2.2⟩⟩
   |1,hk,J,H,k10=>
    have J:=AbA (show some _=some o from J)
    subst J
    refine K4 (I.f 0 _ rfl (H _ (AbB (i:=0) rfl) rfl)) ((O.adv (I.q.1 (k10 (by decide))).2).cells.at 1 rfl) isAgg150 rfl ?_
    exact Reg.nil ⟨rfl,I.put (by decide) (fun u V=>by cases V;rfl) ⟨I.q.1,I.q.2.1,I.q.2.2.1,fun h j C=>djT (I.q.2.2.2.1 h j C),I.q.2.2.2.2⟩⟩
   |2,hk,J,H,k10=>
    have J:=AbA (show some _=some o from J)
    subst J
    have U:=k10 (by decide)
    obtain⟨E,K⟩:=I.q.1 U
    have Y:D 8=false:=by
     cases P:D 8 with
     |false=>rfl
     |true=>rw[I.q.2.2.2.2 P]at hk;cases hk
    refine AAk (I.f 1 _ rfl (H _ (AbB (i:=0) rfl) rfl)) (show Sx.evs L' [.tmp 12]=some [_] by simp only[Sx.evs,Sx.ev,(I.base 12 (by decide)).trans l12];rfl) rfl (CallsV.go ca rfl (S E.mlt) ?_)
    rintro _ w' ⟨rfl,hx⟩
    refine⟨_,rfl,?_⟩
    exact Reg.nil ⟨rfl,I.put (by decide) (fun u V=>by cases V;rfl) ⟨fun _=>⟨E.ext hx,K.trans (Adv.of_ext hx)⟩,(fun h=>by rw[show D 8=true from h]at Y;cases Y),(fun h=>by rw[show D 10=true from h]at U;cases U),(fun h=>by rw[show D 10=true from h]at U;cases U),fun _=>rfl⟩⟩
   |3,hk,J,H,k10=>
    have J:=AbA (show some _=some o from J)
    subst J
    refine M7 ((I.base 14 (by decide)).trans l14) underlying153 rfl sizeOf151 rfl ?_
    exact Reg.nil ⟨rfl,I.put (by decide) (fun u V=>by cases V;rfl) ⟨I.q.1,I.q.2.1,I.q.2.2.1,fun h j C=>djT (I.q.2.2.2.1 h j C),I.q.2.2.2.2⟩⟩
   |4,hk,J,H,k10=>
    have J:=AbA (show some _=some o from J)
    subst J
    refine K4 (I.f 3 _ rfl (H _ (AbB (i:=0) rfl) rfl)) ((O.adv (I.q.1 (k10 (by decide))).2).cells.at 2 rfl) isAgg151 rfl ?_
    exact Reg.nil ⟨rfl,I.put (by decide) (fun u V=>by cases V;rfl) ⟨I.q.1,I.q.2.1,I.q.2.2.1,fun h j C=>djT (I.q.2.2.2.1 h j C),I.q.2.2.2.2⟩⟩
   |5,hk,J,H,k10=>
    have J:=AbA (show some _=some o from J)
    subst J
    refine Z1 ((I.base 11 (by decide)).trans l11) (c.adv (I.q.1 (k10 (by decide))).2).cells isAgg146 rfl sizeOf146 rfl ?_
    exact Reg.nil ⟨rfl,I.put (by decide) (fun u V=>by cases V;rfl) ⟨I.q.1,I.q.2.1,I.q.2.2.1,fun h j C=>djT (I.q.2.2.2.1 h j C),I.q.2.2.2.2⟩⟩
   |6,hk,J,H,k10=>
    have J:=AbA (show some _=some o from J)
    subst J
    refine M7 ((I.base 14 (by decide)).trans l14) underlying153 rfl sizeOf5 rfl ?_
    exact Reg.nil ⟨rfl,I.put (by decide) (fun u V=>by cases V;rfl) ⟨I.q.1,I.q.2.1,I.q.2.2.1,fun h j C=>djT (I.q.2.2.2.1 h j C),I.q.2.2.2.2⟩⟩
   |7,hk,J,H,k10=>
    have J:=AbA (show some _=some o from J)
    subst J
    refine K4 (I.f 6 _ rfl (H _ (AbB (i:=0) rfl) rfl)) ((O.adv (I.q.1 (k10 (by decide))).2).cells.at 0 rfl) isAgg5 rfl ?_
    exact Reg.nil ⟨rfl,I.put (by decide) (fun u V=>by cases V;rfl) ⟨I.q.1,I.q.2.1,I.q.2.2.1,fun h j C=>djT (I.q.2.2.2.1 h j C),I.q.2.2.2.2⟩⟩
   |8,hk,J,H,k10=>
    have J:=AbA (show some _=some o from J)
    subst J
    have U:=k10 (by decide)
    obtain⟨E,K⟩:=I.q.1 U
    have N:D 2=true:=H _ (AbB (i:=3) rfl) rfl
    refine AAk (I.f 4 _ rfl (H _ (AbB (i:=0) rfl) rfl)) (show Sx.evs L' [.tmp 51,.tmp 53]=some [_,_] by simp only[Sx.evs,Sx.ev,I.f 5 _ rfl (H _ (mem_of_getElem? (i:=1) rfl) rfl),I.f 7 _ rfl (H _ (mem_of_getElem? (i:=2) rfl) rfl)]) rfl (CallsV.go ct rfl (htell E.mlt K) ?_)
    rintro _ w' ⟨u,rfl,g1,g2,g3,g4,hx⟩
    refine⟨_,rfl,?_⟩
    exact Reg.nil ⟨rfl,I.put (by decide) (fun u V=>by cases V) ⟨fun _=>⟨E.ext hx,K.trans (Adv.of_ext hx)⟩,fun _ _=>⟨u,rfl,g1,g2,g3,g4⟩,(fun h=>by rw[show D 10=true from h]at U;cases U),(fun h=>by rw[show D 10=true from h]at U;cases U),fun _=>N⟩⟩
   |9,hk,J,H,k10=>
    have J:=AbA (show some _=some o from J)
    subst J
    refine ADI (I.f 2 _ rfl (H _ (AbB (i:=0) rfl) rfl)) rfl ?_
    exact Reg.nil ⟨rfl,I.put (by decide) (fun u V=>by cases V;rfl) ⟨I.q.1,I.q.2.1,I.q.2.2.1,fun h j C=>djT (I.q.2.2.2.1 h j C),I.q.2.2.2.2⟩⟩
   |10,hk,J,H,k10=>
    have J:=AbA (show some _=some o from J)
    subst J
    have F:D 10=false:=hk
    have f:D 9=true:=H _ (AbB (i:=0) rfl) rfl
    have Y:D 8=true:=H _ (AbB (i:=1) rfl) rfl
    have d:∀j,j<10->D j=true
     |0,_=>H _ (AbB (i:=3) rfl) rfl
     |1,_=>H _ (AbB (i:=4) rfl) rfl
     |2,_=>H _ (AbB (i:=5) rfl) rfl
     |3,_=>H _ (AbB (i:=6) rfl) rfl
     |4,_=>H _ (AbB (i:=7) rfl) rfl
     |5,_=>H _ (AbB (i:=8) rfl) rfl
     |6,_=>H _ (AbB (i:=9) rfl) rfl
     |7,_=>H _ (AbB (i:=10) rfl) rfl
     |8,_=>Y
     |9,_=>f
    obtain⟨E,K⟩:=I.q.1 F
    obtain⟨u,b,G⟩:=I.q.2.1 Y F
    refine N3 0 (vs:=tC t u) E rfl (I.f 9 _ rfl f) b rfl sizeOf86 rfl (Acn hl) (one1 rfl (one1 rfl (one1 rfl (one1 (RdS.oneC G.2.2.2) one0)))) ?_
    intro w' a x'
    exact Reg.nil ⟨rfl,I.sto rfl ⟨(fun h=>by cases h),(fun _ h=>by cases h),fun _=>⟨u,a,K.trans x',G.1,G.2.1,G.2.2.1,G.2.2.2.adv x'⟩,(fun _ j C=>djT (d j C)),I.q.2.2.2.2⟩⟩
 . intro D L' W T I;obtain⟨u,E,K,b⟩:=I.q.2.2.1 (T 10 (by decide));exact hA L' W u I.base E K b
abbrev tbl:Tb:=gxb.tb
instance tbl_ok:TbOk prog tbl:=⟨gx_st,gx_ag⟩
variable{N:Nat}{ds:List Deferred}{id:Nat}{l:List Oper}{L':Sx.A8}{ops:Array Oper}{q:Md}
theorem cp{c:Code}(h:puA tbl N l.toArray l L=some L')(k:CW prog N c ds L' w A B X Z):CW prog N (.seq (.region id l.toArray false) c) ds L w A B X Z:=AXT tbl_ok h k
theorem pz(n:Nat){l':List Oper}(h:puN tbl N ops [] (zs n) l L=some (l',L',[],[]))(k:Reg prog N ops q l' ds L' w A B X Z):Reg prog N ops q l ds L w A B X Z:=Reg.pu (tb:=tbl) v0 _ h rfl k
theorem pu{V:Vw}(I:VwOk w V)(cs:List Nat){l':List Oper}{a1 b1:List Nat}(h:puN tbl N ops V cs l L=some (l',L',a1,b1))(H:a1=b1)(k:Reg prog N ops q l' ds L' w A B X Z):Reg prog N ops q l ds L w A B X Z:=Reg.pu (tb:=tbl) I cs h H k
def Ky3:Ky prog 3 Int:=X0 .i64 underlying3
variable{b:Nat}{o:Nat}{s:List Report}{v_b_0:Value}
theorem AWn:SlT prog 56 3 (A9 .i64).n 8:=rsl56
def APf:List (List Value):=[[vu 1,Value.func (.func 109) #[] #[],Value.func (.func 110) #[] #[]],[vu 2,Value.func (.func 111) #[] #[],Value.func (.func 112) #[] #[]],[vu 3,Value.func (.func 113) #[] #[],Value.func (.func 112) #[] #[]],[vu 5,Value.func (.func 114) #[] #[],Value.func (.func 112) #[] #[]],[vu 6,Value.func (.func 115) #[] #[],Value.func (.func 110) #[] #[]],[vu 7,Value.func (.func 116) #[] #[],Value.func (.func 110) #[] #[]]]
theorem AWo:SlT prog 148 153 3 24:=⟨underlying148,t153,_,by kernel_rfl,rfl,rfl,rfl,rfl⟩
theorem AIP(J:MLt M w):Calls prog 74 (toArray []) w fun e w'=>∃v,e=.returned v/\RdS (Sx.rawE 3 (by decide)) M w' v APf/\Ext w w':=by
 have U:=Hp.start (Mu:=[]) J;refine C1 func74 rfl ntmps74 rfl ?_;refine A3 (A7 (C9 rfl rfl (Reg.nil (A3 (A7 ?_)))));iterate 6 refine AE7 [(0,1),(1,1),(2,1)] zeroValue153 rfl underlying153 (fun _=>by simp[sizeOf150,sizeOf151,sizeOf5]) rfl (Cls.cons rfl (Cls.cons rfl (Cls.cons rfl (Cls.nil)))) rfl rfl ?_
 refine AEJ (E:=Sx.rawE 3 (by decide)) (xs:=APf) AWo U rfl rfl (Cls.cons rfl (Cls.cons rfl (Cls.cons rfl (Cls.cons rfl (Cls.cons rfl (Cls.cons rfl (Cls.nil))))))) (Chs.cons ⟨rfl,rfl,one1 rfl (one1 rfl (one1 rfl (one0)))⟩ (Chs.cons ⟨rfl,rfl,one1 rfl (one1 rfl (one1 rfl (one0)))⟩ (Chs.cons ⟨rfl,rfl,one1 rfl (one1 rfl (one1 rfl (one0)))⟩ (Chs.cons ⟨rfl,rfl,one1 rfl (one1 rfl (one1 rfl (one0)))⟩ (Chs.cons ⟨rfl,rfl,one1 rfl (one1 rfl (one1 rfl (one0)))⟩ (Chs.cons ⟨rfl,rfl,one1 rfl (one1 rfl (one1 rfl (one0)))⟩ (Chs.nil))))))) rfl rfl ?_;intro v w2 H x2;refine C9 rfl rfl (Reg.nil (C4 (fin1 results74 rfl ?_)));have I:=H.freeze 0 rfl;exact⟨_,rfl,I.adv (ALI (σ:=[])),H.kp⟩
theorem AUk(_:MLt M w):Calls prog 109 (toArray [.pointer (some ⟨b,o,none⟩)]) w fun e w'=>e=.returned (.pointer (some ⟨b,o+0,none⟩))/\Ext w w':=by
 refine C1 func109 rfl ntmps109 rfl ?_;refine A3 (A7 (C9 rfl rfl (Reg.nil (A3 (A7 (E9 rfl rfl (ADI rfl rfl (M7 rfl underlying90 rfl sizeOf86 rfl (C9 rfl rfl (Reg.nil (C4 ?_)))))))))));refine fin1 results109 rfl ?_;exact⟨rfl,Kp.refl _ _⟩
theorem AUl(_:MLt M w):Calls prog 111 (toArray [.pointer (some ⟨b,o,none⟩)]) w fun e w'=>e=.returned (.pointer (some ⟨b,o+4,none⟩))/\Ext w w':=by
 refine C1 func111 rfl ntmps111 rfl ?_;refine A3 (A7 (C9 rfl rfl (Reg.nil (A3 (A7 (E9 rfl rfl (ADI rfl rfl (M7 rfl underlying90 rfl sizeOf86 rfl (C9 rfl rfl (Reg.nil (C4 ?_)))))))))));refine fin1 results111 rfl ?_;exact⟨rfl,Kp.refl _ _⟩
theorem AUm(_:MLt M w):Calls prog 113 (toArray [.pointer (some ⟨b,o,none⟩)]) w fun e w'=>e=.returned (.pointer (some ⟨b,o+8,none⟩))/\Ext w w':=by
 refine C1 func113 rfl ntmps113 rfl ?_;refine A3 (A7 (C9 rfl rfl (Reg.nil (A3 (A7 (E9 rfl rfl (ADI rfl rfl (M7 rfl underlying90 rfl sizeOf86 rfl (C9 rfl rfl (Reg.nil (C4 ?_)))))))))));refine fin1 results113 rfl ?_;exact⟨rfl,Kp.refl _ _⟩
theorem AUn(_:MLt M w):Calls prog 114 (toArray [.pointer (some ⟨b,o,none⟩)]) w fun e w'=>e=.returned (.pointer (some ⟨b,o+12,none⟩))/\Ext w w':=by
 refine C1 func114 rfl ntmps114 rfl ?_;refine A3 (A7 (C9 rfl rfl (Reg.nil (A3 (A7 (E9 rfl rfl (ADI rfl rfl (M7 rfl underlying90 rfl sizeOf86 rfl (C9 rfl rfl (Reg.nil (C4 ?_)))))))))));refine fin1 results114 rfl ?_;exact⟨rfl,Kp.refl _ _⟩
theorem AUo(_:MLt M w):Calls prog 115 (toArray [.pointer (some ⟨b,o,none⟩)]) w fun e w'=>e=.returned (.pointer (some ⟨b,o+16,none⟩))/\Ext w w':=by
 refine C1 func115 rfl ntmps115 rfl ?_;refine A3 (A7 (C9 rfl rfl (Reg.nil (A3 (A7 (E9 rfl rfl (ADI rfl rfl (M7 rfl underlying90 rfl sizeOf86 rfl (C9 rfl rfl (Reg.nil (C4 ?_)))))))))));refine fin1 results115 rfl ?_;exact⟨rfl,Kp.refl _ _⟩
theorem AUp(_:MLt M w):Calls prog 116 (toArray [.pointer (some ⟨b,o,none⟩)]) w fun e w'=>e=.returned (.pointer (some ⟨b,o+20,none⟩))/\Ext w w':=by
 refine C1 func116 rfl ntmps116 rfl ?_;refine A3 (A7 (C9 rfl rfl (Reg.nil (A3 (A7 (E9 rfl rfl (ADI rfl rfl (M7 rfl underlying90 rfl sizeOf86 rfl (C9 rfl rfl (Reg.nil (C4 ?_)))))))))));refine fin1 results116 rfl ?_;exact⟨rfl,Kp.refl _ _⟩
def AA3(s:List Report)(f:Report->Option Bool):Option Int:=
 (B6 (S:=Int) (R:=(Unit)⊕(Int)) (fun x1=>cond (decide (x1<(s.length:Int))) ((ixo s x1).bind fun y3=>(f y3).bind fun z17=>cond z17 (some (.inr (.inr x1))) ((chk .i64 (x1+1)).bind fun n23=>some (.inl n23))) (some (.inr (.inl ())))) 0).bind fun j24=>Sum.elim (fun _=>some (-1)) (fun r25=>some r25)  j24
theorem AEX(Y:MLt M w){v_s_0:Value}(f_s_0:RdS ReportE M w v_s_0 s){v_f:Value}{f:Report->Option Bool}(f_f:∀(x0:Report) (r:Bool) (w1:World),Kp [] w w1->InK .i64 x0.id->InK .i64 x0.source->InK .i64 x0.account->InK .i64 x0.made->InK .i64 x0.about->InK .u8 x0.kind->InK .i64 x0.cents->InK .i64 x0.of_->f x0=some r->CallsV prog v_f [Value.agg (toArray [vi x0.id,vi x0.source,vi x0.account,vi x0.made,vi x0.about,vu x0.kind,vi x0.cents,vi x0.of_])] w1 fun e w2=>e=.returned (Value.bool r)/\Ext w1 w2){r0:Int}(h:AA3 s f=some r0):
  Calls prog 130 (toArray [v_s_0,v_f]) w fun e w'=>e=.returned (vi r0)/\InK .i64 r0/\Ext w w':=by
 have Q:=Hp.start (Mu:=[]) Y
 refine C1 func130 rfl ntmps130 rfl ?_
 refine cp rfl (A3 (cr (pz 1 rfl (AOR rfl f_s_0 underlying24 rfl (pz 1 rfl (Reg.nil ?_))))))
 obtain⟨j1,B,h⟩:=C7 h
 refine Q4 [0,1,7,8] rfl (ABN 4 (ι:=Unit) (fun _=>[]) (fun _=>fun w3=>Q.J [] w3 ((.inl ())=j1)) ?_ ?_)
 ·refine C8 (Q4 [8,0,1,7] rfl ?_)
  refine AHc 1 (ι:=Int) _ (fun x6=>[(8,vi x6)]) (fun x6=>x6) (fun x6=>fun w8=>Q.J [] w8 (InK .i64 x6)) 0 B ⟨Q,(Adv.refl _ _),(by decide)⟩ (sb rfl) ?_
  rintro x6 w8 ⟨J,T,r7⟩ y11 H V
  refine cp rfl (A3 (cc H rfl (fun E H=>?_) (fun E H=>?_)))
  ·refine E7 (A3 (C8 (cp rfl (cr (pz 3 rfl ?_)))))
   obtain⟨y15,C,H⟩:=C7 H
   refine AOU rfl rfl (f_s_0.adv J.adv) C underlying24 sizeOf45 rfl ?_
   intro b16 o17 cs18 F K
   obtain⟨rfl,r21,r22,r23,r24,r25,r26,r27,r28⟩:=ReportE_R.1 F
   refine pu (vc K.cells v0) [199] rfl rfl ?_
   obtain⟨z29,W,H⟩:=C7 H
   refine AAk rfl rfl rfl ?_
   refine(f_f _ _ _ J.kp r21 r22 r23 r24 r25 r26 r27 r28 W).mono ?_
   rintro _ w30 ⟨rfl,e31⟩
   refine⟨_,rfl,?_⟩
   have U:=J.ext e31
   refine Reg.nil (cc H rfl (fun D H=>?_) (fun D H=>?_))
   ·refine cp rfl (C4 ?_)
    obtain rfl:=so H
    obtain rfl:=V _ rfl
    replace h:=elimR h
    obtain rfl:=so h
    refine fin1 results130 rfl ?_
    exact⟨rfl,r7,U.kp⟩
   refine E7 (A7 ?_)
   obtain⟨n35,I,H⟩:=C7 H
   replace I:=J3 I
   refine ACq rfl rfl rfl I (pz 1 rfl (Reg.nil ?_))
   obtain rfl:=so H
   refine⟨rfl,n35,⟨⟨U,U.adv,I.2⟩,rfl⟩,sb rfl⟩
  refine U1 (K2 ?_)
  obtain rfl:=so H
  obtain rfl:=V _ rfl
  refine⟨rfl,(),⟨J,J.adv,rfl⟩,sb rfl⟩
 rintro _ w3 ⟨O,A,rfl⟩
 replace h:=elimL h
 refine cp rfl (C4 ?_)
 obtain rfl:=so h
 refine fin1 results130 rfl ?_
 exact⟨rfl,(by decide),O.kp⟩
def N7(s:List Report)(del:Report->Option Bool):Option (List Report):=
 (AA3 s del).bind fun z1=>cond (decide (z1=(-1))) (some s) ((chk .i64 (z1+1)).bind fun n8=>(B6 (S:=Int×Int×(List Report)) (R:=(Int×(List Report))) (fun (x9,x10,x11)=>cond (decide (x10<(x11.length:Int))) (((ixo x11 x10).bind fun y13=>(del (Report.mk y13.id y13.source y13.account y13.made y13.about y13.kind y13.cents y13.of_)).bind fun z36=>(cond (!z36) ((ixo x11 x9).bind fun y42=>(seto x11 x9 (Report.mk y13.id y13.source y13.account y13.made y13.about y13.kind y13.cents y13.of_)).bind fun l56=>(chk .i64 (x9+1)).bind fun n60=>some (n60,l56)) (some (x9,x11))).bind fun (x61,x62)=>some (x61,x62)).bind fun (x63,x64)=>(chk .i64 (x10+1)).bind fun n65=>some (.inl (x63,n65,x64))) (some (.inr (x9,x11)))) (z1,n8,s)).bind fun (x66,x67)=>(ACp x67 x66).bind fun l68=>(ADq (x67.take x66.toNat++replicate l68.length (Report.mk 0 0 0 0 0 0 0 0)) x66).bind fun l74=>some l74)
theorem ADn{v_s:Value}(hM:MLt M w)(hd:∀b∈ob v_s,b∉M)(p_s:Sx.Own ReportE 45 0 M w v_s s){v_del:Value}{del:Report->Option Bool}(f_del:∀(x0:Report) (r:Bool) (w1:World),Kp (ob v_s) w w1->InK .i64 x0.id->InK .i64 x0.source->InK .i64 x0.account->InK .i64 x0.made->InK .i64 x0.about->InK .u8 x0.kind->InK .i64 x0.cents->InK .i64 x0.of_->del x0=some r->CallsV prog v_del [Value.agg (toArray [vi x0.id,vi x0.source,vi x0.account,vi x0.made,vi x0.about,vu x0.kind,vi x0.cents,vi x0.of_])] w1 fun e w2=>e=.returned (Value.bool r)/\Ext w1 w2){r0:List Report}(h:N7 s del=some r0):
  Calls prog 133 (toArray [v_s,v_del]) w fun e w'=>∃v0_0:Value,e=.returned (v0_0)/\(Sx.Own ReportE 45 0 M w' v0_0 r0/\(∀b∈ob v0_0,b∈ob v_s\/w.heap.size<=b)/\Kp (ob v_s) w w'):=by
 have p:=AA4 hM hd p_s
 refine C1 func133 rfl ntmps133 rfl ?_
 refine cp rfl (cr (pz 2 rfl ?_))
 obtain⟨z1,q,h⟩:=C7 h
 refine H0 rfl call130 rfl ((AEX (p.sel [] rfl).mlt (p.lendRd [] 0 rfl rfl) (fun a0 r w9 e9 f0 f1 f2 f3 f4 f5 f6 f7 z=>f_del a0 r w9 (p.kp.trans (Ext.kp e9)) f0 f1 f2 f3 f4 f5 f6 f7 z) q).mono ?_)
 rintro _ w3 ⟨rfl,r5,e4⟩
 refine⟨_,rfl,?_⟩
 have F:=p.ext e4
 refine pz 1 rfl (Reg.nil (A3 (cp rfl (cc h rfl (fun t h=>?_) (fun t h=>?_)))))
 ·refine cp rfl (C4 ?_)
  obtain rfl:=so h
  refine fin1 results133 rfl ?_
  exact⟨_,rfl,(F.ownBack 0 rfl)⟩
 refine E7 (A3 (cr (pz 1 rfl ?_)))
 obtain⟨n8,D,h⟩:=C7 h
 replace D:=J3 D
 refine ACq rfl rfl rfl D (pz 1 rfl (Reg.nil ?_))
 obtain⟨j9,u,h⟩:=C7 h
 refine Q4 [1,5,6,0] rfl (ABN 3 (ι:=Int×(List Report)) (fun⟨x11,x13⟩=>[(5,vi x11)]) (fun⟨x11,x13⟩=>fun w14=>F.J [ownR (ob v_s) ReportE 45 v_s x13] w14 (InK .i64 x11/\(x11,x13)=j9)) ?_ ?_)
 ·refine C8 (Q4 [5,6,0,1] rfl (AHc 2 (ι:=Int×Int×(List Report)) _ (fun⟨x17,x19,x21⟩=>[(5,vi x17),(6,vi x19)]) (fun⟨x17,x19,x21⟩=>(x17,x19,x21)) (fun⟨x17,x19,x21⟩=>fun w22=>F.J [ownR (ob v_s) ReportE 45 v_s x21] w22 (InK .i64 x17/\InK .i64 x19)) (z1,n8,s) u ⟨F,(Adv.refl _ _),r5,D.2⟩ (sb rfl) ?_))
  rintro⟨x17,x19,x21⟩ w22 ⟨J,G,r18,r20⟩ y25 I c
  refine A3 (cr (pz 2 rfl (AFw rfl (J.ownAt 0 rfl) underlying24 rfl ?_)))
  refine pz 1 rfl (Reg.nil (cc I rfl (fun a I=>?_) (fun a I=>?_)))
  ·refine E7 ?_
   obtain⟨j29,U,I⟩:=C7 I
   refine Q4 [5,0,1,6] rfl (AJM 1 (ι:=Int×(List Report)) (fun⟨x31,x33⟩=>[(5,vi x31)]) (fun⟨x31,x33⟩=>fun w34=>J.J [ownR (ob v_s) ReportE 45 v_s x33] w34 (InK .i64 x31/\(x31,x33)=j29)) ?_ ?_)
   ·refine C8 (cr (pz 2 rfl ?_))
    obtain⟨y37,R,U⟩:=C7 U
    refine ALN 0 J rfl rfl rfl R underlying24 sizeOf45 rfl ?_
    intro g38 cs39 v Q l
    have khR41:=Q
    obtain⟨rfl,r43,r44,r45,r46,r47,r48,r49,r50⟩:=ReportE_R.1 Q
    refine pu (vc l v0) [199] rfl rfl (Q0 J zeroValue45 rfl rfl ?_)
    intro b51 w52 i x54
    refine N3 0 i rfl rfl rfl rfl sizeOf45 rfl rfl (one1 rfl (one1 rfl (one1 rfl (one1 rfl (one1 rfl (one1 rfl (one1 rfl (one1 rfl one0)))))))) ?_
    intro w55 Y x57
    obtain⟨B,T⟩:=Y.fz 0 rfl
    refine Reg.nil (cr (pu (vc B.cells v0) [0,199] rfl rfl ?_))
    obtain⟨z60,X,U⟩:=C7 U
    refine AAk rfl rfl rfl ?_
    refine(f_del _ _ _ T.kp r43 r44 r45 r46 r47 r48 r49 r50 X).mono ?_
    rintro _ w61 ⟨rfl,e62⟩
    refine⟨_,rfl,?_⟩
    have C:=T.ext e62
    refine pz 1 rfl (Reg.nil ?_)
    obtain⟨j65,H,U⟩:=C7 U
    refine Q4 [5,7,29,0,1,6] rfl (ABN 3 (ι:=Int×(List Report)) (fun⟨x67,x69⟩=>[(5,vi x67)]) (fun⟨x67,x69⟩=>fun w70=>C.J [ownR (ob v_s) ReportE 45 v_s x69] w70 (InK .i64 x67/\(x67,x69)=j65)) ?_ ?_)
    ·refine cc H rfl (fun L H=>?_) (fun L H=>?_)
     ·refine cr (pu (vc ((B.adv (Adv.of_ext e62)).cells) v0) [0,0,199] rfl rfl ?_)
      obtain⟨y74,Z,H⟩:=C7 H
      refine ALN 0 C rfl rfl rfl Z underlying24 sizeOf45 rfl ?_
      intro g75 cs76 S O k
      have khR78:=O
      obtain⟨rfl,r80,r81,r82,r83,r84,r85,r86,r87⟩:=ReportE_R.1 O
      obtain⟨l88,P,H⟩:=C7 H
      refine ASi 0 (E:=ReportE) (o:=0) C rfl rfl rfl rfl S P ((ReportE_R (x:=y74)).2 ⟨rfl,r80,r81,r82,r83,r84,r85,r86,r87⟩) k ((ReportE_R (x:=(Report.mk y37.id y37.source y37.account y37.made y37.about y37.kind y37.cents y37.of_))).2 ⟨rfl,r43,r44,r45,r46,r47,r48,r49,r50⟩) rfl sizeOf45 rfl (one1 rfl (one1 rfl (one1 rfl (one1 rfl (one1 rfl (one1 rfl (one1 rfl (one1 rfl one0)))))))) ?_
      intro w89 f x91
      refine Reg.nil (A7 (pz 1 rfl ?_))
      obtain⟨n92,W,H⟩:=C7 H
      replace W:=J3 W
      refine ACq rfl rfl rfl W (pz 1 rfl (Reg.nil ?_))
      obtain rfl:=so H
      refine⟨rfl,(n92,l88),⟨f,x91,W.2,rfl⟩,sb rfl⟩
     refine E7 ?_
     obtain rfl:=so H
     refine⟨rfl,(x17,x21),⟨C,(Adv.refl _ _),r18,rfl⟩,sb rfl⟩
    rintro⟨x67,x69⟩ w70 ⟨g,m,r68,rfl⟩
    obtain rfl:=so U
    refine⟨rfl,(x67,x69),⟨g,(x54.trans (x57.trans ((Y.eraseH 0).trans ((Adv.of_ext e62).trans m)))),r68,rfl⟩,sb rfl⟩
   rintro⟨x31,x33⟩ w34 ⟨j,n,r32,rfl⟩
   refine A7 (pz 1 rfl ?_)
   obtain⟨n93,V,I⟩:=C7 I
   replace V:=J3 V
   refine ACq rfl rfl rfl V (pz 1 rfl (Reg.nil ?_))
   obtain rfl:=so I
   refine⟨rfl,(x31,n93,x33),⟨⟨j,(G.trans n),r32,V.2⟩,rfl⟩,sb rfl⟩
  refine U1 (K2 ?_)
  obtain rfl:=so I
  obtain rfl:=c _ rfl
  refine⟨rfl,(x17,x21),⟨J,G,r18,rfl⟩,sb rfl⟩
 rintro⟨x11,x13⟩ w14 ⟨A,y,r12,rfl⟩
 refine cr (pz 2 rfl ?_)
 obtain⟨l94,K,h⟩:=C7 h
 refine AZP 0 A rfl rfl rfl K underlying24 sizeOf45 rfl ?_
 intro v95 N
 refine ATQ 0 (z0:=(Report.mk 0 0 0 0 0 0 0 0)) A rfl N K rfl underlying24 zeroValue45 rfl (fun _ _=>((ReportE_R (x:=(Report.mk 0 0 0 0 0 0 0 0))).2 ⟨rfl,(show InK .i64 0 by decide),(show InK .i64 0 by decide),(show InK .i64 0 by decide),(show InK .i64 0 by decide),(show InK .i64 0 by decide),(show InK .u8 0 by decide),(show InK .i64 0 by decide),(show InK .i64 0 by decide)⟩)) ?_
 intro w97 d x99
 refine Reg.nil (cr (pz 2 rfl ?_))
 obtain⟨l100,hl100,h⟩:=C7 h
 refine AZQ 0 d rfl rfl rfl hl100 underlying24 sizeOf45 rfl ?_
 intro v101 hI102 x103
 refine pz 1 rfl (Reg.nil (C4 ?_))
 obtain rfl:=so h
 refine fin1 results133 rfl ?_
 exact⟨_,rfl,(hI102.ownBack 0 rfl)⟩
def AGm(r:Report)(day_c:Int):Option Bool:=
 some (decide (r.about<day_c))
theorem ADo(U:MLt M w){r:Report}(f_r_0:InK .i64 r.id)(f_r_1:InK .i64 r.source)(f_r_2:InK .i64 r.account)(f_r_3:InK .i64 r.made)(f_r_4:InK .i64 r.about)(f_r_5:InK .u8 r.kind)(f_r_6:InK .i64 r.cents)(f_r_7:InK .i64 r.of_){day_c:Int}(f_day_c_0:InK .i64 day_c){b_day_c:Nat}(c_day_c:RdC M w b_day_c 0 [vi day_c]){r0:Bool}(h:AGm r day_c=some r0):
  Calls prog 134 (toArray [Value.agg (toArray [vi r.id,vi r.source,vi r.account,vi r.made,vi r.about,vu r.kind,vi r.cents,vi r.of_]),vp b_day_c 0]) w fun e w'=>e=.returned (Value.bool r0)/\Ext w w':=by
 have V:=Hp.start (Mu:=[]) U
 refine C1 func134 rfl ntmps134 rfl ?_
 refine cr (S9 V rfl rfl rfl ?_)
 intro b1 w2 I x4
 obtain⟨J,H⟩:=I.fz 0 rfl
 refine pz 1 rfl (Reg.nil (cr (pu (vc J.cells (vc ((c_day_c.adv H.adv).cells) v0)) [0,104,200,0,0] rfl rfl (Reg.nil (C4 ?_)))))
 obtain rfl:=so h
 refine fin1 results134 rfl ?_
 exact⟨rfl,H.kp⟩
def J5(b:Book)(kind:Int):Option Told:=
 (I6 (Book.mk b.facts) kind).bind fun z11=>cond (decide ((z11.length:Int)=0)) (some (Told.mk 0 0 0 [])) ((chk .i64 ((z11.length:Int)-1)).bind fun n22=>(ixo z11 n22).bind fun y23=>(N7 z11 (fun x0_=>AGm x0_ y23.about)).bind fun z46=>(Q7 z46 false).bind fun z55=>some (Told.mk z55.known z55.cents z55.since z55.by_))
theorem AAQ(i:MLt M w)(f:GlOk (P:=prog) M w){b:Book}(f_b_0:RdS ReportE M w v_b_0 b.facts){kind:Int}(f_kind_0:InK .u8 kind){r0:Told}(h:J5 b kind=some r0):
  Calls prog 112 (toArray [Value.agg (toArray [v_b_0]),vu kind]) w fun e w'=>∃v0_3:Value,e=.returned (Value.agg (toArray [vu r0.known,vi r0.cents,vi r0.since,v0_3]))/\InK .u8 r0.known/\InK .i64 r0.cents/\InK .i64 r0.since/\RdS (A9 .i64) M w' v0_3 r0.by_/\Ext w w':=by
 have j:=Hp.start (Mu:=[]) i
 refine C1 func112 rfl ntmps112 rfl ?_
 refine cr (S9 j rfl rfl rfl ?_)
 intro b1 w2 a x4
 obtain⟨c,L⟩:=a.fz 0 rfl
 refine Q0 L zeroValue86 rfl rfl ?_
 intro b7 w8 W x10
 refine Reg.nil (cr (pu (vc ((c.adv x10).cells) v0) [199,0] rfl rfl ?_))
 obtain⟨z11,O,h⟩:=C7 h
 refine H0 rfl call117 rfl ((ACn (b:=(Book.mk b.facts)) W.mlt (f.adv W.adv) (f_b_0.adv W.adv) f_kind_0 O).mono ?_)
 rintro _ w13 ⟨v15,rfl,A,e14⟩
 refine⟨_,rfl,?_⟩
 have I:=W.addOwn e14 A
 refine pz 1 rfl (Reg.nil (A3 (cr (pz 1 rfl (AFw rfl (I.ownAt 0 rfl) underlying24 rfl ?_)))))
 refine pz 1 rfl (Reg.nil (cc h rfl (fun B h=>?_) (fun B h=>?_)))
 ·refine cr ?_
  refine AE7 [(0,1),(1,1),(2,1),(3,1)] zeroValue86 rfl underlying86 (fun _=>by simp[sizeOf3,sizeOf5,sizeOf56]) rfl (Cls.nil) rfl rfl ?_
  refine N3 1 I rfl rfl rfl rfl sizeOf86 rfl rfl (one1 rfl (one1 rfl (one1 rfl (one1 rfl one0)))) ?_
  intro w19 E x21
  refine Reg.nil (C4 ?_)
  obtain rfl:=so h
  refine H4 results112 (AllRs.cons (RsOk.agg rfl (E.row 1 rfl).rd.cells isAgg86 rfl sizeOf86) (AllRs.nil)) rfl ?_
  exact⟨_,rfl,(show InK .u8 0 by decide),(show InK .i64 0 by decide),(show InK .i64 0 by decide),(RdS.nil _ _ _),E.kp⟩
 refine E7 (cr (pz 2 rfl (AFw rfl (I.ownAt 0 rfl) underlying24 rfl ?_)))
 obtain⟨n22,J,h⟩:=C7 h
 replace J:=J3 J
 refine ASh rfl rfl rfl J ?_
 obtain⟨y23,Q,h⟩:=C7 h
 refine ALN 0 I rfl rfl rfl Q underlying24 sizeOf45 rfl ?_
 intro g24 cs25 d D S
 have khR27:=D
 obtain⟨rfl,r29,r30,r31,r32,r33,r34,r35,r36⟩:=ReportE_R.1 D
 refine pu (vc S v0) [0,104] rfl rfl (Q0 I zeroValue3 rfl rfl ?_)
 intro b37 w38 R x40
 refine N3 0 R rfl rfl rfl rfl sizeOf3 rfl rfl (one1 rfl one0) ?_
 intro w41 Z x43
 obtain⟨N,H⟩:=Z.fz 0 rfl
 refine Reg.nil (cr (pz 1 rfl (AEI rfl rfl ?_)))
 obtain⟨z46,K,h⟩:=C7 h
 refine H0 rfl call133 rfl ((ADn (H.erase 0).mlt (H.apart 0 rfl) (H.lendOwn 0 rfl) (fun a0 r w9 e9 f0 f1 f2 f3 f4 f5 f6 f7 g=>CallsV.ofL call134 rfl (ADo ((H.lendM 0 rfl).ext e9) f0 f1 f2 f3 f4 f5 f6 f7 r33 (N.adv ((H.lendH 0 rfl).trans (Adv.lent e9))) g)) K).mono ?_)
 rintro _ w48 ⟨v50,rfl,Y⟩
 refine⟨_,rfl,?_⟩
 have X:=H.took 0 rfl Y
 obtain⟨T,V⟩:=X.fs 0 rfl
 obtain⟨z55,F,h⟩:=C7 h
 refine H0 rfl call132 rfl ((AJ6 V.mlt (f.adv V.adv) T F).mono ?_)
 rintro _ w57 ⟨v62,rfl,r59,r60,r61,C,e58⟩
 refine⟨_,rfl,?_⟩
 have G:=V.ext e58
 refine N3 0 G rfl rfl rfl rfl sizeOf86 rfl rfl (one1 rfl (one1 rfl (one1 rfl (one1 (RdS.oneC C) one0)))) ?_
 intro w65 U x67
 refine Reg.nil (C4 ?_)
 obtain rfl:=so h
 refine H4 results112 (AllRs.cons (RsOk.agg rfl (U.row 0 rfl).rd.cells isAgg86 rfl sizeOf86) (AllRs.nil)) rfl ?_
 exact⟨_,rfl,r59,r60,r61,((C.adv x67).adv U.baseH),U.kp⟩
def O5(b:Book):Option (A4 Int Span):=
 (I6 (Book.mk b.facts) 4).bind fun z11=>(B6 (S:=Int×(A4 Payer Int)) (R:=((A4 Payer Int))) (fun (x18,x19)=>cond (decide (x18<(z11.length:Int))) ((ixo z11 x18).bind fun y21=>((some ((x19 (Payer.mk y21.about y21.source)).getD 0)).bind fun y48=>(chk .i64 (y48+y21.cents)).bind fun n56=>some (B4 x19 (Payer.mk y21.about y21.source) n56)).bind fun x77=>(chk .i64 (x18+1)).bind fun n78=>some (.inl (n78,x77))) (some (.inr x19))) (0,fnone)).bind fun x79=>(ALP (S:=(A4 Int Span)) (fun x96 (y97:Payer×Int)=>(some ((x96 y97.1.day).getD (Span.mk 0 0))).bind fun y114=>((cond (!((x96 y97.1.day).isSome)) (some (y97.2,y97.2)) (some (y114.lo,y114.hi))).bind fun (x132,x133)=>some (x132,x133)).bind fun (x134,x135)=>some (B4 x96 y97.1.day (Span.mk (min x134 y97.2) (max x135 y97.2)))) x79 fnone).bind fun x139=>some x139
theorem AFu(r:MLt M w)(t:GlOk (P:=prog) M w){b:Book}(f_b_0:RdS ReportE M w v_b_0 b.facts){r0:(A4 Int Span)}(h:O5 b=some r0):
  Calls prog 75 (toArray [Value.agg (toArray [v_b_0])]) w fun e w'=>∃v0_0:Value,e=.returned (v0_0)/\RdF Ky3 SpanE true M w' v0_0 r0/\Ext w w':=by
 have s:=Hp.start (Mu:=[]) r
 refine C1 func75 rfl ntmps75 rfl ?_
 refine cr (S9 s rfl rfl rfl ?_)
 intro b1 w2 g x4
 obtain⟨j,f⟩:=g.fz 0 rfl
 refine pz 1 rfl (Reg.nil (cr (AKo AAY (A9 .i64) false f rfl ?_)))
 intro b7 w8 W x10
 refine pz 1 rfl (Reg.nil (A3 (cr (pu (vc ((j.adv x10).cells) v0) [199] rfl rfl ?_))))
 obtain⟨z11,K,h⟩:=C7 h
 refine H0 rfl call117 rfl ?_
 refine(ACn (b:=(Book.mk b.facts)) W.mlt (t.adv W.adv) (f_b_0.adv W.adv) (by decide) K).mono ?_
 rintro _ w13 ⟨v15,rfl,Y,e14⟩
 refine⟨_,rfl,?_⟩
 have J:=W.addOwn e14 Y
 refine AFw rfl (J.ownAt 0 rfl) underlying24 rfl ?_
 refine pz 1 rfl (Reg.nil ?_)
 obtain⟨j18,o,h⟩:=C7 h
 refine Q4 [13,14,15,3] rfl (ABN 3 (ι:=(A4 Payer Int)) (fun x20=>[]) (fun x20=>fun w21=>J.J [ownR [] ReportE 45 v15 z11,mapO AAY (A9 .i64) false b7 x20] w21 (x20=j18)) ?_ ?_)
 ·refine C8 (Q4 [15,3,13,14] rfl ?_)
  refine AHc 1 (ι:=Int×(A4 Payer Int)) _ (fun⟨x24,x26⟩=>[(15,vi x24)]) (fun⟨x24,x26⟩=>(x24,x26)) (fun⟨x24,x26⟩=>fun w27=>J.J [ownR [] ReportE 45 v15 z11,mapO AAY (A9 .i64) false b7 x26] w27 (InK .i64 x24)) (0,fnone) o ⟨J,(Adv.refl _ _),(by decide)⟩ (sb rfl) ?_
  rintro⟨x24,x26⟩ w27 ⟨U,F,r25⟩ y30 H B
  refine cp rfl (A3 (cc H rfl (fun A H=>?_) (fun A H=>?_)))
  ·refine E7 (A3 (C8 (cr ?_)))
   obtain⟨y34,Q,H⟩:=C7 H
   refine ALN 0 U rfl rfl rfl Q underlying24 sizeOf45 rfl ?_
   intro g35 cs36 p C N
   have khR38:=C
   obtain⟨rfl,r40,r41,r42,r43,r44,r45,r46,r47⟩:=ReportE_R.1 C
   refine pu (vc N v0) [199] rfl rfl (Q0 U zeroValue45 rfl rfl ?_)
   intro b48 w49 X x51
   refine N3 0 X rfl rfl rfl rfl sizeOf45 rfl rfl (one1 rfl (one1 rfl (one1 rfl (one1 rfl (one1 rfl (one1 rfl (one1 rfl (one1 rfl one0)))))))) ?_
   intro w52 E x54
   obtain⟨R,D⟩:=E.fz 0 rfl
   refine Reg.nil ?_
   obtain⟨j57,n,H⟩:=C7 H
   refine Q4 [5,3,13,14,15] rfl (ABN 1 (ι:=(A4 Payer Int)) (fun x59=>[]) (fun x59=>fun w60=>D.J [ownR [] ReportE 45 v15 z11,mapO AAY (A9 .i64) false b7 x59] w60 (x59=j57)) ?_ ?_)
   ·obtain⟨y67,O,m⟩:=C7 n
    obtain⟨n75,T,l⟩:=C7 m
    obtain rfl:=AbA O
    refine ANH D R rfl rfl ⟨r44,r41⟩ T ?_
    intro L' w' d i k
    obtain rfl:=so l
    exact⟨rfl,_,⟨i,k,rfl⟩,Sub.cons (d 3 (by decide)) (Sub.cons (d 13 (by decide)) (Sub.cons (d 14 (by decide)) (Sub.cons (d 15 (by decide)) (Sub.nil _))))⟩
   rintro x59 w60 ⟨G,S,rfl⟩
   refine A7 ?_
   obtain⟨n215,hn215,H⟩:=C7 H
   replace hn215:=J3 hn215
   refine ACq rfl rfl rfl hn215 (pz 1 rfl (Reg.nil ?_))
   obtain rfl:=so H
   refine⟨rfl,(n215,x59),⟨⟨G,(F.trans (x51.trans (x54.trans ((E.eraseH 0).trans S)))),hn215.2⟩,rfl⟩,sb rfl⟩
  refine U1 (K2 ?_)
  obtain rfl:=so H
  obtain rfl:=B _ rfl
  refine⟨rfl,x26,⟨U,F,rfl⟩,sb rfl⟩
 rintro x20 w21 ⟨Z,q,rfl⟩
 refine cr (AKo Ky3 SpanE true Z rfl ?_)
 intro b216 w217 hI218 x219
 refine pz 1 rfl (Reg.nil (A3 (cr (pz 1 rfl ?_))))
 have hf220:=hI218.freezeM 2 rfl
 have hI221:=hI218.erase 2
 refine ARE hI221 hf220 rfl underlying186 rfl ?_
 intro r222 b223 c224 es225 xs226 w227 hX228 hL229 hI230 x231
 refine Reg.nil ?_
 obtain⟨j232,c,h⟩:=C7 h
 refine Q4 [34,6] rfl (ABN 1 (ι:=(A4 Int Span)) (fun x234=>[]) (fun x234=>fun w235=>hI230.J [mapO Ky3 SpanE true b216 x234,ownR [] ReportE 45 v15 z11] w235 (x234=j232)) ?_ ?_)
 ·refine C8 (Q4 [6,34] rfl (ARH 0 (ι:=(A4 Int Span)) _ (fun x239=>[]) (fun x239=>x239) (fun x239=>fun l238 w240=>hI230.K [N8 r222 b223 c224 es225 xs226 none l238,mapO Ky3 SpanE true b216 x239,ownR [] ReportE 45 v15 z11] w240) fnone xs226 (ARB c hL229) ⟨hI230,(Adv.refl _ _)⟩ (sb rfl) ?_))
  rintro x239 l238 w240 ⟨hI241,hA242⟩ L hR245
  refine cr (ARF 0 hI241 (hX228.adv (x231.trans hA242)) rfl rfl rfl (fun hn246=>?_) ?_)
  ·obtain rfl:=L hn246
   have hI256:=hI241.erase 0
   refine pz 1 rfl (Reg.nil (A3 (ABM rfl ?_)))
   refine U1 (K2 ?_)
   refine⟨rfl,x239,⟨hI256,(hA242.trans (hI241.eraseH 0)),rfl⟩,sb rfl⟩
  intro y247 l248 k249 v250 w251 hp252 hI253 x254
  obtain⟨shB255,hB255⟩:=hR245 y247 l248 hp252
  have zhB255:=hB255
  refine pz 1 rfl (Reg.nil (A3 (ABw rfl ?_)))
  refine E7 (C8 (cr (ARG 0 hI253 (hX228.adv (x231.trans (hA242.trans x254))) rfl rfl rfl ?_)))
  intro v257 hk258 hv259
  have hR260:=Vl.one1 hv259
  obtain⟨r261',r261⟩:=hR260
  obtain rfl:=ANL r261'
  have hI262:=hI253.itOff 0 rfl
  refine pz 2 rfl (Q0 hI262 zeroValue189 rfl rfl ?_)
  intro b263 w264 hI265 x266
  refine N3 0 hI265 rfl rfl rfl rfl sizeOf189 rfl rfl (one1 rfl (one1 rfl one0)) ?_
  intro w267 hI268 x269
  obtain⟨hC271,hI270⟩:=hI268.fz 0 rfl
  refine pz 1 rfl (Reg.nil (cr (pu (vc hC271.cells v0) [0,0,100] rfl rfl ?_)))
  obtain⟨y272,hy272,hB255⟩:=C7 hB255
  refine AXQ 1 (a:=y247.1.day) (z0:=(Span.mk 0 0)) hI270 rfl rfl rfl (show InK .i64 y247.1.day from(show InK .i64 y247.1.day/\InK .i64 y247.1.source from hk258).1) underlying156 zeroValue88 ⟨_,((SpanE_R (x:=(Span.mk 0 0))).2 ⟨rfl,(show InK .i64 0 by decide),(show InK .i64 0 by decide)⟩),.inl ⟨rfl,rfl⟩⟩ rfl ?_
  intro v273 hv274
  rw[AbA hy272]at hv274
  obtain⟨cs275,hR276,rfl⟩:=Vl.agg hv274
  obtain⟨rfl,r277,r278⟩:=SpanE_R.1 hR276
  refine pz 3 rfl (Q0 hI270 zeroValue88 rfl rfl ?_)
  intro b279 w280 hI281 x282
  refine N3 0 hI281 rfl rfl rfl rfl sizeOf88 rfl rfl (one1 rfl (one1 rfl one0)) ?_
  intro w283 hI284 x285
  refine pz 1 rfl (Reg.nil ?_)
  obtain⟨j286,V,hB255⟩:=C7 hB255
  refine Q4 [10,6,7,8,9,34] rfl (AJM 1 (ι:=Int×Int) (fun⟨x288,x290⟩=>[]) (fun⟨x288,x290⟩=>fun w292=>hI284.J [rowR 88 b279 [vi x288,vi x290],N8 r222 b223 c224 es225 xs226 none l248,mapO Ky3 SpanE true b216 x239,ownR [] ReportE 45 v15 z11] w292 (InK .i64 x288/\InK .i64 x290/\(x288,x290)=j286)) ?_ ?_)
  ·refine cp rfl ?_
   obtain⟨j295,I,V⟩:=C7 V
   refine Q4 [48,6,7,8,9,34] rfl (ABN 1 (ι:=Int×Int) (fun⟨x297,x299⟩=>[]) (fun⟨x297,x299⟩=>fun w301=>hI284.J [rowR 88 b279 [vi x297,vi x299],N8 r222 b223 c224 es225 xs226 none l248,mapO Ky3 SpanE true b216 x239,ownR [] ReportE 45 v15 z11] w301 (InK .i64 x297/\InK .i64 x299/\(x297,x299)=j295)) ?_ ?_)
   ·refine cc I rfl (fun hc304 I=>?_) (fun hc304 I=>?_)
    ·refine A7 (pz 2 rfl ?_)
     refine AE7 [(0,1),(1,1)] zeroValue88 rfl underlying88 (fun _=>by simp[sizeOf3]) rfl (Cls.cons rfl (Cls.cons rfl (Cls.nil))) rfl rfl ?_
     refine N3 0 hI284 rfl rfl rfl rfl sizeOf88 rfl rfl (one1 rfl (one1 rfl one0)) ?_
     intro w305 hI306 x307
     refine Reg.nil ?_
     obtain rfl:=so I
     refine⟨rfl,(y247.2,y247.2),⟨hI306,x307,r261,r261,rfl⟩,sb rfl⟩
    refine E7 ?_
    obtain rfl:=so I
    refine⟨rfl,(y272.lo,y272.hi),⟨hI284,(Adv.refl _ _),r277,r278,rfl⟩,sb rfl⟩
   rintro⟨x297,x299⟩ w301 ⟨hI302,hA303,r298,r300,rfl⟩
   obtain rfl:=so V
   refine⟨rfl,(x297,x299),⟨hI302,hA303,r298,r300,rfl⟩,sb rfl⟩
  rintro⟨x288,x290⟩ w292 ⟨hI293,hA294,r289,r291,rfl⟩
  refine A7 (pu (vc ((hC271.adv (x282.trans (x285.trans hA294))).cells) (vc ((hI293.row 0 rfl).rd.cells) v0)) [0,0,100,0,200,0] rfl rfl (ASc rfl rfl rfl ?_))
  refine pu (vc ((hI293.row 0 rfl).rd.cells) v0) [0,101,0] rfl rfl (ASd rfl rfl rfl ?_)
  refine AE7 [(0,1),(1,1)] zeroValue88 rfl underlying88 (fun _=>by simp[sizeOf3]) rfl (Cls.cons rfl (Cls.cons rfl (Cls.nil))) rfl rfl ?_
  refine AKp 2 (a:=y247.1.day) (z:=(Span.mk (min x288 y247.2) (max x290 y247.2))) hI293 rfl rfl rfl (show InK .i64 y247.1.day from(show InK .i64 y247.1.day/\InK .i64 y247.1.source from hk258).1) rfl ⟨_,((SpanE_R (x:=(Span.mk (min x288 y247.2) (max x290 y247.2)))).2 ⟨rfl,(ALG r289 r261),(ALH r291 r261)⟩),.inl ⟨rfl,rfl⟩⟩ underlying156 ?_
  intro w308 hI309 x310
  refine Reg.nil ?_
  obtain rfl:=so hB255
  refine⟨rfl,(B4 x239 y247.1.day (Span.mk (min x288 y247.2) (max x290 y247.2))),y247,l248,⟨hp252,zhB255,(hI309.sel [1,2,3] rfl),((hA242.trans (x254.trans ((APr (σ:=[N8 r222 b223 c224 es225 xs226 (some y247) l248,mapO Ky3 SpanE true b216 x239,ownR [] ReportE 45 v15 z11]) (M:=M) 0 rfl).trans (x266.trans (x269.trans ((hI268.eraseH 0).trans (x282.trans (x285.trans (hA294.trans x310))))))))).trans (ABU (σ:=[rowR 88 b279 [vi x288,vi x290],N8 r222 b223 c224 es225 xs226 none l248,mapO Ky3 SpanE true b216 (B4 x239 y247.1.day (Span.mk (min x288 y247.2) (max x290 y247.2))),ownR [] ReportE 45 v15 z11]) [1,2,3]))⟩,sb rfl⟩
 rintro x234 w235 ⟨hI236,hA237,rfl⟩
 refine cp rfl (C4 ?_)
 obtain rfl:=so h
 have hf311:=hI236.freezeM 0 rfl
 have hI312:=hI236.erase 0
 refine fin1 results75 rfl ?_
 exact⟨_,rfl,(hf311.adv hI312.baseH),hI312.kp⟩
def ABu(s:State)(b:Book):Option (State×Int):=(O5 b).bind fun r1=>X6 r1 fun l18=>(List.foldlM (m:=Option) (s:=(Int×Int)) (α:=Int×Span) (fun (x12,x13) (k14,v15)=>(chk .i64 (x12+v15.lo)).bind fun n16=>(chk .i64 (x13+v15.hi)).bind fun n17=>some (n16,n17)) (s.paid.lo,s.paid.hi) l18).bind fun (x19,x20)=>Option.bind (α:=Int) (cond ((!decide (s.closed.known=0))) (some (4:Int)) (Option.bind (α:=Int) (cond ((!decide (s.default.known=0))) (some (3:Int)) (Option.bind (α:=Bool) (cond (decide (s.late.known=1)) (some true) (some (decide (0<s.late.cents)))) ((fun x21=>Option.bind (α:=Int) (cond (x21) (some (2:Int)) (Option.bind (α:=Int) (cond (decide (0<(b.facts.length:Int))) (some (1:Int)) (some s.is_)) ((fun x22=>some x22)))) ((fun x23=>some x23)))))) ((fun x24=>some x24)))) ((fun x25=>some ((State.mk (Told.mk s.opened.known s.opened.cents s.opened.since s.opened.by_) (Told.mk s.limit.known s.limit.cents s.limit.since s.limit.by_) (Told.mk s.owed.known s.owed.cents s.owed.since s.owed.by_) (Told.mk s.late.known s.late.cents s.late.since s.late.by_) (Told.mk s.default.known s.default.cents s.default.since s.default.by_) (Told.mk s.closed.known s.closed.cents s.closed.since s.closed.by_) (Span.mk x19 x20) x25),(0:Int))))
def AM3:An:=.nd (.lp ⟨[(.cell 12 24,.d (.int .i64)),(.cell 12 25,.d (.int .i64))],[8,12]⟩ [] .x) (.nd (.nd .x (.jn [.norm ⟨[(.cell 12 26,.d (.int .u8))],[8,12]⟩] (.nd .x (.nd .x (.jn [.norm ⟨[(.cell 12 26,.d (.int .u8))],[8,12]⟩] (.nd .x (.nd (.jn [.norm ⟨[(.slot 92,.d .bool)],[8,12]⟩] .x) (.jn [.norm ⟨[(.cell 12 26,.d (.int .u8))],[8,12]⟩] (.nd .x (.nd .x (.jn [.norm ⟨[(.cell 12 26,.d (.int .u8))],[8,12]⟩] .x))))))))))) .x)
theorem Aaa{M:List Nat}{w:World}{b:Book}{v:Value}(h:OkD (P:=prog) M w (.st 15) b v):∃u,v=.agg (toArray [u])/\RdS ReportE M w u b.facts:=by
 obtain⟨cs,H,I⟩:=h;have I:v=.agg (toArray cs):=I.elim (fun h=>h.2) fun h=>by cases h.1
 have H:BookE.R M w cs b:=H;simp only[BookE,mapE_R,sliceE_R]at H;obtain⟨u,rfl,k⟩:=H;exact⟨u,I,k⟩
def ctr75:Ctr:=⟨[.d (.st 15)],[.d (.mp 3 (.int .i64) (.st 8))],fun a=>O5 a.1⟩
theorem ok75:Ctr.ok prog 75 ctr75:=by
 refine⟨by decide,fun M w a vals r V I U H=>?_⟩;obtain⟨b,_⟩:=a;obtain⟨v,_,rfl,hv,rfl⟩:=U;obtain⟨u,rfl,J⟩:=Aaa hv;refine(AFu V I J H).mono ?_;rintro _ w' ⟨v,rfl,C,W⟩;exact⟨[v],rfl,⟨v,rfl,[v],⟨v,_,rfl,rfl,C⟩,.inr ⟨rfl,rfl⟩⟩,W⟩
def AAx(b:Book):Nat->Option Told
 |0=>G8 b 1
 |1=>J5 b 2
 |2=>J5 b 3
 |3=>J5 b 5
 |4=>G8 b 6
 |_=>G8 b 7
def Y4(b:Book):Option (State×Int):=(AAx b 0).bind fun t0=>(AAx b 1).bind fun t1=>(AAx b 2).bind fun t2=>(AAx b 3).bind fun t3=>(AAx b 4).bind fun t4=>(AAx b 5).bind fun t5=>ABu (State.mk t0 t1 t2 t3 t4 t5 (Span.mk 0 0) 0) b
def AHL:Told:=Told.mk 0 0 0 []
def stateZ:State:=State.mk AHL AHL AHL AHL AHL AHL (Span.mk 0 0) 0
def N0(l:List Report)(account day known:Int):Option (State×Int):=
 (J0 l).bind fun z5=>cond (!decide (z5=0)) (some (stateZ,z5)) (((G5 0 999999 ([account]:List Int)).bind fun z19=>cond (!z19) (some true) ((G5 0 100000 ([day,known]:List Int)).bind fun z29=>some (!z29))).bind fun x34=>cond x34 (some (stateZ,2)) ((Y3 l account day known).bind fun b=>Y4 b))
def zC:List Value:=[.int .u8 0,.int .i64 0,.int .i64 0,.slice none 0 0]
def stZ:Nat->List Value
 |0=>[.int .i64 0,.int .i64 0,.int .u8 0]
 |n+1=>zC++stZ n
def stCs:List (Told×Value)->Nat->List Value
 |[],n=>stZ n
 |p::l,n=>tC p.1 p.2++stCs l n
def zR:List Value:=stCs [] 6
theorem on27:∀u∈zR,u.oneCell'=true:=List.all_eq_true.1 (show zR.all (fun u=>u.oneCell')=true by kernel_rfl)
theorem AOF:∀(n:Nat),(stZ n).length=4*n+3
 |0=>rfl
 |n+1=>by show(zC++stZ n).length=_;rw[AbU,AOF n];simp only[zC,List.length_cons,List.length_nil];omega
theorem AM4:∀(l:List (Told×Value)) (n:Nat),(stCs l n).length=4*l.length+4*n+3
 |[],n=>by show(stZ n).length=_;rw[AOF];simp only[List.length_nil];omega
 |p::l,n=>by show(tC p.1 p.2++stCs l n).length=_;rw[AbU,AM4 l n];simp only[tC,List.length_cons,List.length_nil];omega
theorem AM5(t:Told)(u:Value)(n:Nat):∀(l:List (Told×Value)),B7 (stCs l (n+1)) (4*l.length) (tC t u)=stCs (l++[(t,u)]) n
 |[]=>by show B7 (zC++stZ n) 0 (tC t u)=tC t u++stZ n;simp[zC,tC,B7]
 |p::l=>by
  show B7 (tC p.1 p.2++stCs l (n+1)) (4*(l.length+1)) (tC t u)=tC p.1 p.2++stCs (l++[(t,u)]) n;rw[<-AM5 t u n l,show 4*(l.length+1)=4*l.length+4 by omega];simp[tC,B7]
variable{β:Type}{k:IntKind}{x:Int}{y:β}{ρ:Nat->Value}{R:Nat->Option AR}{vs:List Value}
section
variable{B:Enc β}{b:List Value}
theorem pI(h:InK k x)(r:B.R M w b y):(B2 (A9 k) B).R M w (.int k x::b) (x,y):=prodE_R.2 ⟨[_],_,rfl,⟨rfl,h⟩,r⟩
theorem pN(r:B.R M w b y):(B2 (D9 (A9 .i64)) B).R M w (.slice none 0 0::b) ([],y):=prodE_R.2 ⟨[_],_,rfl,sliceE_R.2 ⟨_,rfl,RdS.nil _ _ _⟩,r⟩
theorem pT(r:B.R M w b y):(B2 (A9 .u8) (B2 (A9 .i64) (B2 (A9 .i64) (B2 (D9 (A9 .i64)) B)))).R M w (zC++b) (0,0,0,[],y):=pI (by decide) (pI (by decide) (pI (by decide) (pN r)))
theorem zR_ok:(enc (P:=prog) (.st 9)).R M w zR stateZ:=mapE_R.2 (pT (pT (pT (pT (pT (pT (pI (by decide) (pI (by decide) ⟨rfl,by decide⟩))))))))
def tS(t:Told):List SV:=[.int .u8 t.known,.int .i64 t.cents,.int .i64 t.since,.dat (.sl (.int .i64)) t.by_]
theorem ADE{l:List SV}(h:InK k x)(r:OkL (P:=prog) ρ R M w l vs):OkL (P:=prog) ρ R M w (.int k x::l) (.int k x::vs):=⟨_,[_],_,rfl,⟨rfl,h⟩,rfl,r⟩
theorem AB9{t:Told}{u:Value}{l:List SV}(h:AGl M w t u)(r:OkL (P:=prog) ρ R M w l vs):OkL (P:=prog) ρ R M w (tS t++l) (tC t u++vs):=by
 obtain⟨sa,c,hv,_⟩:=h.2.2.2.shape;exact ADE h.1 (ADE h.2.1 (ADE h.2.2.1 ⟨u,[u],vs,rfl,⟨rfl,okS (α:=.int .i64) h.2.2.2⟩,by rw[hv];rfl,r⟩))
theorem AM6{ρ:Nat->Value}{R:Nat->Option AR}:∀{vs:List Value},(∀v∈vs,v.cells=#[v])->OkL (P:=prog) ρ R M w (replicate vs.length .dead) vs
 |[],_=>rfl
 |v::vs,h=>⟨v,[v],vs,rfl,h v (AbF ..),h v (AbF ..),AM6 fun u H=>h u (AbC _ H)⟩
theorem AWq:∀v∈zR,v.cells=#[v]:=fun v hv=>by
 simp only[zR,stCs,stZ,zC,List.cons_append,List.nil_append,mem_cons,List.not_mem_nil,or_false]at hv;rcases hv with rfl|rfl|rfl|rfl|rfl|rfl|rfl|rfl|rfl|rfl|rfl|rfl|rfl|rfl|rfl|rfl|rfl|rfl|rfl|rfl|rfl|rfl|rfl|rfl|rfl|rfl|rfl<;>rfl
end
theorem AWr{b:Book}:∀{i:Nat},i<6->∃(k:Int) (fa ft:Nat),ixo APf (i:Int)=some [.int .u8 k,.func (.func fa) #[] #[],.func (.func ft) #[] #[]]/\(∀args w,(callFunc fa args).run prog w=.ok (.enter fa args) w)/\(∀args w,(callFunc ft args).run prog w=.ok (.enter ft args) w) /\
  (∀{M:List Nat} {w:World} {p:Nat},MLt M w->Calls prog fa (toArray [.pointer (some ⟨p,0,none⟩)]) w fun e w'=>e=.returned (.pointer (some ⟨p,4*i,none⟩))/\Ext w w') /\
  ∀{M:List Nat} {w:World} {v:Value} {t:Told},MLt M w->GlOk (P:=prog) M w->RdS ReportE M w v b.facts->AAx b i=some t->Calls prog ft (toArray [.agg (toArray [v]),.int .u8 k]) w fun e w'=>∃u,e=.returned (.agg (toArray (tC t u)))/\InK .u8 t.known/\InK .i64 t.cents/\InK .i64 t.since/\RdS (A9 .i64) M w' u t.by_/\Ext w w'
 |0,_=>⟨1,109,110,rfl,call109,call110,fun H=>AUk H,fun H I f h=>AAP H I f (by decide) h⟩
 |1,_=>⟨2,111,112,rfl,call111,call112,fun H=>AUl H,fun H I f h=>AAQ H I f (by decide) h⟩
 |2,_=>⟨3,113,112,rfl,call113,call112,fun H=>AUm H,fun H I f h=>AAQ H I f (by decide) h⟩
 |3,_=>⟨5,114,112,rfl,call114,call112,fun H=>AUn H,fun H I f h=>AAQ H I f (by decide) h⟩
 |4,_=>⟨6,115,110,rfl,call115,call110,fun H=>AUo H,fun H I f h=>AAP H I f (by decide) h⟩
 |5,_=>⟨7,116,110,rfl,call116,call110,fun H=>AUp H,fun H I f h=>AAP H I f (by decide) h⟩
noncomputable def AWs:Code:=match f38.body with
 |some (.seq _ (.seq _ (.seq _ (.seq _ (.seq _ (.seq _ c))))))=>c
 |_=>.skip
def cs38:List Ck:=[.d (.st 9),.d (.int .i64)]
def APg:Gx:={ gxb with fs:=[(75,ctr75)] }
theorem AJ7:GxOk prog APg:=B1 ⟨⟨ok75,call75⟩,trivial⟩
def AWt(s:State)(b:Book):AS:=⟨[(8,.ptr 8 0),(11,.rp (.str 15 b) 0),(12,.ptr 12 0)],[(8,.row 90 (replicate 27 .dead)),(12,.row 90 (tS s.opened++(tS s.limit++(tS s.owed++(tS s.late++(tS s.default++(tS s.closed++[.int .i64 s.paid.lo,.int .i64 s.paid.hi,.int .u8 s.is_])))))))],[],[]⟩
theorem AWu(s:State)(b:Book):X2 APg 111 (T7 APg cs38 f38.results.toList) AWs AM3 (T7 APg cs38 f38.results.toList) some (AWt s b)=ABu s b:=by kernel_rfl
def ctr38:Ctr:=⟨[.d (.sl (.st 1)),.d (.int .i64),.d (.int .i64),.d (.int .i64)],cs38,fun a=>N0 a.1 a.2.1 a.2.2.1 a.2.2.2.1⟩
theorem ok38:Ctr.ok prog 38 ctr38:=by
 refine⟨by decide,fun M w a vals r hM hG ha hr=>?_⟩;obtain⟨l,account,day,known,_⟩:=a;obtain⟨v_l_0,_,rfl,hvl,va,_,rfl,hva,vd,_,rfl,hvd,vk,_,rfl,hvk,rfl⟩:=ha;obtain⟨rfl,f_account_0⟩:=AK6 hva;obtain⟨rfl,f_day_0⟩:=AK6 hvd;obtain⟨rfl,f_known_0⟩:=AK6 hvk;have f_l_0:RdS ReportE M w v_l_0 l:=OkD.rds hvl;have h:N0 l account day known=some r:=hr;unfold N0 at h;have hI:=Hp.start (Mu:=[]) hM;refine C1 func38 rfl ntmps38 rfl ?_;refine cr ?_;refine Q0 hI zeroValue90 rfl rfl ?_;intro b1 w2 Y x4;refine pz 1 rfl ?_;refine Reg.nil ?_;refine A3 ?_;refine cr ?_;refine pz 1 rfl ?_;obtain⟨z5,hz6,h⟩:=C7 h;refine H0 rfl call65 rfl ?_;refine(AJJ Y.mlt (hG.adv Y.adv) (f_l_0.adv Y.adv) hz6).mono ?_;rintro _ w7 ⟨rfl,r9,e8⟩;refine⟨_,rfl,?_⟩;have O:=Y.ext e8;refine pz 1 rfl ?_;refine Reg.nil ?_;refine cp rfl ?_;refine cc h rfl (fun y h=>?_) (fun y h=>?_)
 . skip;refine cr ?_;refine AE7 [(0,4),(4,4),(8,4),(12,4),(16,4),(20,4),(24,2),(26,1)] zeroValue90 rfl underlying90 (fun _=>by simp[sizeOf5,sizeOf86,sizeOf88]) rfl (Cls.nil) rfl rfl ?_;refine pz 1 rfl ?_;refine N3 0 O rfl rfl rfl rfl sizeOf90 rfl rfl on27 ?_;intro w12 S x14;refine pz 1 rfl ?_;refine Reg.nil ?_;refine C4 ?_;obtain rfl:=AbA h;refine H4 results38 (AllRs.cons (RsOk.agg rfl (S.row 0 rfl).rd.cells isAgg90 rfl sizeOf90) (AllRs.cons (RsOk.tmp rfl) (AllRs.nil))) rfl ?_;exact⟨[_,_],rfl,⟨_,_,rfl,⟨_,zR_ok,.inl ⟨rfl,rfl⟩⟩,_,rfl,okN r9⟩,S.kp⟩
 refine E7 ?_;refine A3 ?_;obtain⟨j15,I,h⟩:=C7 h;refine ADF (L:=[(0,_),(1,_),(2,_),(3,_),(8,_)]) (sb rfl) ?_;refine AJM 0 (ι:=Bool) (fun x17=>[(33,Value.bool x17)]) (fun x17=>fun w18=>O.J [rowR 90 b1 zR] w18 (x17=j15)) ?_ ?_
 . skip;refine A7 ?_;refine pz 1 rfl ?_;refine AEJ (E:=(A9 .i64)) (xs:=[account]) AWn O rfl rfl (Cls.cons rfl Cls.nil) (Chs.cons ⟨rfl,f_account_0⟩ Chs.nil) rfl rfl ?_;intro v21 w22 C x24;obtain⟨z25,m,I⟩:=C7 I;refine H0 rfl call66 rfl ?_;refine(AGk (C.sel [1] rfl).mlt ((hG.adv C.adv).adv (ABU (σ:=[ownR [] (A9 .i64) 3 v21 ([account]:List Int),rowR 90 b1 zR]) [1])) (by decide) (by decide) (C.lendRd [1] 0 rfl rfl) m).mono ?_;rintro _ w27 ⟨rfl,e28⟩;refine⟨_,rfl,?_⟩;have N:=C.ext e28;refine pz 2 rfl ?_;refine gs (t:=27) I rfl (fun v I=>?_) (fun v I=>?_)
   . skip;refine pz 6 rfl ?_;refine Reg.nil ?_;obtain rfl:=so I;refine⟨rfl,true,⟨(N.sel [1] rfl),((x24.trans (Adv.of_ext e28)).trans (ABU (σ:=[ownR [] (A9 .i64) 3 v21 ([account]:List Int),rowR 90 b1 zR]) [1])),rfl⟩,sb rfl⟩
   . skip;refine pz 2 rfl ?_;refine Reg.take rfl rfl ?_;refine AEJ (E:=(A9 .i64)) (xs:=[day,known]) AWn N rfl rfl (Cls.cons rfl (Cls.cons rfl Cls.nil)) (Chs.cons ⟨rfl,f_day_0⟩ (Chs.cons ⟨rfl,f_known_0⟩ Chs.nil)) rfl rfl ?_;intro v31 w32 V x34;refine Reg.take rfl rfl ?_;obtain⟨z35,g,I⟩:=C7 I;refine H0 rfl call66 rfl ?_;refine(AGk (V.sel [1,2] rfl).mlt ((hG.adv V.adv).adv (ABU (σ:=[ownR [] (A9 .i64) 3 v31 ([day,known]:List Int),ownR [] (A9 .i64) 3 v21 ([account]:List Int),rowR 90 b1 zR]) [1,2])) (by decide) (by decide) (V.lendRd [1,2] 0 rfl rfl) g).mono ?_;rintro _ w37 ⟨rfl,e38⟩;refine⟨_,rfl,?_⟩;have hI39:=V.ext e38;refine pz 2 rfl ?_;refine Reg.nil ?_;obtain rfl:=so I;refine⟨rfl,!z35,⟨(hI39.sel [2] rfl),((x24.trans ((Adv.of_ext e28).trans (x34.trans (Adv.of_ext e38)))).trans (ABU (σ:=[ownR [] (A9 .i64) 3 v31 ([day,known]:List Int),ownR [] (A9 .i64) 3 v21 ([account]:List Int),rowR 90 b1 zR]) [2])),rfl⟩,sb rfl⟩
 rintro x17 w18 ⟨J,hA20,rfl⟩;refine cc h rfl (fun x h=>?_) (fun x h=>?_)
 . skip;refine cr ?_;refine AE7 [(0,4),(4,4),(8,4),(12,4),(16,4),(20,4),(24,2),(26,1)] zeroValue90 rfl underlying90 (fun _=>by simp[sizeOf5,sizeOf86,sizeOf88]) rfl (Cls.nil) rfl rfl ?_;refine N3 0 J rfl rfl rfl rfl sizeOf90 rfl rfl on27 ?_;intro w41 R x43;refine pz 1 rfl ?_;refine Reg.nil ?_;refine C4 ?_;obtain rfl:=AbA h;refine H4 results38 (AllRs.cons (RsOk.agg rfl (R.row 0 rfl).rd.cells isAgg90 rfl sizeOf90) (AllRs.cons (RsOk.tmp rfl) (AllRs.nil))) rfl ?_;exact⟨[_,_],rfl,⟨_,_,rfl,⟨_,zR_ok,.inl ⟨rfl,rfl⟩⟩,_,rfl,okN (by decide)⟩,R.kp⟩
 refine E7 ?_;refine cr ?_;refine pz 4 rfl ?_;obtain⟨z44,f,h⟩:=C7 h;refine H0 rfl call73 rfl ?_;refine(AJ5 J.mlt (hG.adv J.adv) (f_l_0.adv J.adv) f_account_0 f_day_0 f_known_0 f).mono ?_;rintro _ w46 ⟨v48,rfl,B,e47⟩;refine⟨_,rfl,?_⟩;have hI50:=J.ext e47;refine Q0 hI50 zeroValue146 rfl rfl ?_;intro b51 w52 hI53 x54;refine N3 0 hI53 rfl rfl rfl rfl sizeOf146 rfl rfl (one1 (RdS.oneC B) one0) ?_;intro w55 Z x57;obtain⟨hC59,hI58⟩:=Z.fz 0 rfl;refine Reg.nil ?_;refine cr ?_;refine Q0 hI58 zeroValue90 rfl rfl ?_;intro b60 w61 X x63;refine Reg.nil ?_;refine A3 ?_;refine cr ?_;refine H0 rfl call74 rfl ?_;refine(AIP X.mlt).mono ?_;rintro _ w64 ⟨v66,rfl,A,e65⟩;refine⟨_,rfl,?_⟩;have G:=X.ext e65;refine AOR rfl A underlying148 rfl ?_;refine pz 1 rfl ?_;refine Reg.nil ?_;unfold Y4 at h;obtain⟨t0,e0,h⟩:=C7 h;obtain⟨t1,e1,h⟩:=C7 h;obtain⟨t2,e2,h⟩:=C7 h;obtain⟨t3,e3,h⟩:=C7 h;obtain⟨t4,e4,h⟩:=C7 h;obtain⟨t5,e5,h⟩:=C7 h;obtain⟨T,hT0,hT1,hT2,hT3,hT4,hT5⟩:∃T:Nat->Told,T 0=t0/\T 1=t1/\T 2=t2/\T 3=t3/\T 4=t4/\T 5=t5:=⟨fun
  |0=>t0
  |1=>t1
  |2=>t2
  |3=>t3
  |4=>t4
  |_=>t5,rfl,rfl,rfl,rfl,rfl,rfl⟩
 have hT:∀i,i<6->AAx z44 i=some (T i)
  |0,_=>hT0▸e0
  |1,_=>hT1▸e1
  |2,_=>hT2▸e2
  |3,_=>hT3▸e3
  |4,_=>hT4▸e4
  |5,_=>hT5▸e5
 have hC:RdC (mm [rowR 90 b60 zR,rowR 90 b1 zR] M) w64 b51 0 [v48]:=hC59.adv (x63.trans (Adv.of_ext e65));have hF:RdS ReportE (mm [rowR 90 b60 zR,rowR 90 b1 zR] M) w64 v48 z44.facts:=B.adv (x54.trans (x57.trans ((Z.eraseH 0).trans (x63.trans (Adv.of_ext e65)))));have hGl:GlOk (P:=prog) (mm [rowR 90 b60 zR,rowR 90 b1 zR] M) w64:=hG.adv G.adv;refine C8 ?_;refine ADF (L:=[(42,.int .i64 0),(41,.int .i64 6),(40,v66),(11,.pointer (some ⟨b51,0,none⟩)),(12,.pointer (some ⟨b60,0,none⟩)),(8,.pointer (some ⟨b1,0,none⟩))]) (sb rfl) ?_;refine AK7 1 (ι:=Nat) (fun i=>[(42,.int .i64 i)]) (fun i W=>i<=6/\∃l:List (Told×Value),l.length=i/\Hp w [] M [rowR 90 b60 (stCs l (6-i)),rowR 90 b1 zR] W/\Adv (mm [rowR 90 b60 zR,rowR 90 b1 zR] M) (mm [rowR 90 b60 zR,rowR 90 b1 zR] M) w64 W/\∀(j:Nat) (p:Told×Value),l[j]?=some p->p.1=T j/\AGl (mm [rowR 90 b60 zR,rowR 90 b1 zR] M) W p.1 p.2) (fun i=>6-i) 0 ⟨Abe _,[],rfl,G,Adv.refl _ _,fun j p H=>by simp at H⟩ (sb rfl) fun i W hW=>?_;obtain⟨hi,l,hl,hIW,D,U⟩:=hW;refine cr ?_;refine AE4 rfl rfl rfl ?_;refine Reg.nil ?_;refine A3 ?_;refine U2 rfl (fun hc=>?_) (fun hc=>?_)
 . have Q:i<6:=by have:=AbH hc;omega
   obtain⟨k,fa,ft,hz,ca,ct,hat,htell⟩:=AWr (b:=z44) Q;refine E7 ?_;refine A3 ?_;refine C8 ?_;refine cr ?_;refine AOU (z:=[.int .u8 k,.func (.func fa) #[] #[],.func (.func ft) #[] #[]]) rfl rfl (A.adv D) hz underlying148 sizeOf153 rfl ?_;intro b69 o70 cs71 hR72 hC73;obtain⟨rfl,_⟩:=hR72;refine pu (vc hC73.cells v0) [199] rfl rfl ?_;refine Q0 hIW zeroValue153 rfl rfl ?_;intro b74 w75 hI76 x77;refine N3 0 hI76 rfl rfl rfl rfl sizeOf153 rfl rfl (one1 rfl (one1 rfl (one1 rfl one0))) ?_;intro w78 K x80;obtain⟨hC82,hI81⟩:=K.fz 0 rfl;refine Reg.nil ?_;have a81:=D.trans (x77.trans (x80.trans (K.eraseH 0)));refine AQ3 hI81 (by rw[AM4];omega) hC82 (hC.adv a81) rfl rfl rfl ca ct hat (fun hm h=>htell hm (hGl.adv (a81.trans h)) (hF.adv (a81.trans h)) (hT i Q)) ?_;intro L' w112 v100 d hI114 hA' o;have u:B7 (stCs l (6-i)) (4*i) (tC (T i) v100)=stCs (l++[(T i,v100)]) (6-(i+1)):=by
    rw[show 6-i=6-(i+1)+1 by omega,<-hl];exact AM5 _ _ _ l
   have aW:=x77.trans (x80.trans ((K.eraseH 0).trans hA'));refine ADF (L:=[(42,.int .i64 i),(41,.int .i64 6),(40,v66),(11,.pointer (some ⟨b51,0,none⟩)),(12,.pointer (some ⟨b60,0,none⟩)),(8,.pointer (some ⟨b1,0,none⟩))]) (Sub.cons (d 42 (by decide)) (Sub.cons (d 41 (by decide)) (Sub.cons (d 40 (by decide)) (Sub.cons (d 11 (by decide)) (Sub.cons (d 12 (by decide)) (Sub.cons (d 8 (by decide)) (Sub.nil _))))))) ?_;refine A7 ?_;refine ACq (n:=((i+1:Nat):Int)) rfl rfl rfl ⟨by omega,by rw[InK.i64];omega⟩ ?_;refine pz 1 rfl ?_;refine Reg.nil ?_;refine⟨rfl,i+1,⟨by omega,l++[(T i,v100)],by simp[hl],?_,D.trans aW,fun j p H=>?_⟩,Sub.cons rfl (Sub.cons rfl (Sub.cons rfl (Sub.cons rfl (Sub.cons rfl (Sub.cons rfl (Sub.nil _)))))),by omega⟩
   . rw[<-u];exact hI114
   . by_cases hj2:j<l.length
     . rw[AbY hj2]at H;obtain⟨p1,p2,p3,p4,p5⟩:=U j p H;exact⟨p1,p2,p3,p4,p5.adv aW⟩
     . rw[Abg (by omega)]at H;have hj0:j=l.length:=by
        have:=List.getElem?_eq_some_iff.1 H;obtain⟨q,_⟩:=this;simp at q;omega
       subst hj0;simp at H;subst H;rw[hl];exact⟨rfl,o⟩
 . have Q:i=6:=by have:=AbM hc;omega
   subst Q;refine U1 ?_;refine K2 ?_;match l,hl with
   |[p0,p1,p2,p3,p4,p5],_=>
   obtain⟨q0,k0⟩:=U 0 p0 rfl;obtain⟨q1,k1⟩:=U 1 p1 rfl;obtain⟨q2,k2⟩:=U 2 p2 rfl;obtain⟨q3,k3⟩:=U 3 p3 rfl;obtain⟨q4,k4⟩:=U 4 p4 rfl;obtain⟨q5,k5⟩:=U 5 p5 rfl;rw[hT0]at q0;rw[hT1]at q1;rw[hT2]at q2;rw[hT3]at q3;rw[hT4]at q4;rw[hT5]at q5;rw[<-q0,<-q1,<-q2,<-q3,<-q4,<-q5]at h;have hst:Holds (P:=prog) w [] M (AWt (State.mk p0.1 p1.1 p2.1 p3.1 p4.1 p5.1 (Span.mk 0 0) 0) z44) [(11,.pointer (some ⟨b51,0,none⟩)),(12,.pointer (some ⟨b60,0,none⟩)),(8,.pointer (some ⟨b1,0,none⟩))] W:=by
    refine⟨[rowR 90 b60 (stCs [p0,p1,p2,p3,p4,p5] 0),rowR 90 b1 zR],fun i=>if i=12 then .pointer (some ⟨b60,0,none⟩) else .pointer (some ⟨b1,0,none⟩),fun i=>if i=12 then stCs [p0,p1,p2,p3,p4,p5] 0 else zR,fun _=>[],fun i=>if i=12 then 0 else 1,hIW,fun i a hi=>?_,fun i j a b hi H e=>?_,fun i a hi=>?_,fun t s F=>?_,trivial,hGl.adv D⟩
    . replace hi:A1 [(8,_),(12,_)] i=some a:=hi;rw[fnd_cons]at hi;split at hi
      . rename_i e;subst e;cases hi;rfl
      rw[fnd_cons]at hi;split at hi
      . rename_i e;subst e;cases hi;rfl
      cases hi
    . replace hi:A1 [(8,_),(12,_)] i=some a:=hi;replace H:A1 [(8,_),(12,_)] j=some b:=H;rw[fnd_cons]at hi H;split at hi<;>split at H
      . rename_i e1 e2;rw[<-e1,<-e2]
      . rename_i e1 e2;rw[fnd_cons]at H;split at H
        . rename_i e3;subst e1 e3;cases e
        . cases H
      . rename_i e1 e2;rw[fnd_cons]at hi;split at hi
        . rename_i e3;subst e2 e3;cases e
        . cases hi
      . rw[fnd_cons]at hi H;split at hi<;>split at H
        . rename_i e3 e4;rw[<-e3,<-e4]
        . cases H
        . cases hi
        . cases hi
    . replace hi:A1 [(8,_),(12,_)] i=some a:=hi;rw[fnd_cons]at hi;split at hi
      . rename_i e;subst e;cases hi;exact⟨⟨b1,rfl⟩,AM6 AWq⟩
      rw[fnd_cons]at hi;split at hi
      . rename_i e;subst e;cases hi;exact⟨⟨b60,rfl⟩,AB9 k0 (AB9 k1 (AB9 k2 (AB9 k3 (AB9 k4 (AB9 k5 (ADE (show InK .i64 0 by decide) (ADE (show InK .i64 0 by decide) (ADE (show InK .u8 0 by decide) rfl))))))))⟩
      cases hi
    . replace F:A1 [(8,_),(11,_),(12,_)] t=some s:=F;rw[fnd_cons]at F;split at F
      . rename_i e;subst e;cases F;exact⟨_,rfl,b1,rfl,rfl⟩
      rw[fnd_cons]at F;split at F
      . rename_i e;subst e;cases F;exact⟨_,rfl,b51,0,_,[v48],rfl,hC.adv D,ASS (hF.adv D),rfl⟩
      rw[fnd_cons]at F;split at F
      . rename_i e;subst e;cases F;exact⟨_,rfl,b60,rfl,rfl⟩
      cases F
   refine ADF (L:=[(11,.pointer (some ⟨b51,0,none⟩)),(12,.pointer (some ⟨b60,0,none⟩)),(8,.pointer (some ⟨b1,0,none⟩))]) (Sub.cons rfl (Sub.cons rfl (Sub.cons rfl (Sub.nil _)))) ?_;exact AFY AJ7 AWs AM3 ((AWu _ z44).trans h) hst (fun σ2 L2 w2 h2 _ c=>AGR AJ7 (by decide) h2 c) fun r' σ2 L2 w2 hp hk c=>by
    have hk:r'=r:=AbA hk;subst hk;exact AGR AJ7 (by decide) hp c
end Go.Proofs.YtgioiejbphljoaaGreatDoor
namespace Go.Proofs.YtgioiejbphljoaaGreatDoor
open Go Go.Sx Go.Rx
namespace S
variable{s:List Report}{f:Report->Option Bool}{g:Report->Bool}
theorem ASV{α:Type}{D:Nat->α->Option Int}{k:α->Int}{i:Nat}(h:∀y,D i y=some (k y)){a b:α}:AK3 D a b [i]=some (cf2 k k a b):=by
 refine Ret.eq ?_;unfold AK3;refine Ret.bind (Ret.loop (fun t:Int=>t=0\/t=1/\Q2 (k a) (k b)=0) (fun t=>1-t.toNat) (.inl rfl) ?_);rintro _ (rfl|⟨rfl,e⟩)
 . refine Ret.condT rfl (Ret.bind (Ret.val (show ixo [i] 0=some i from rfl) ?_));rw[h,h,bindS,bindS,p_cmp,bindS];by_cases c:Q2 (k a) (k b)=0
   . rw[AbL c];exact Ret.condF rfl (Ret.bind (Ret.chk (by omega) (Ret.next ⟨.inr ⟨rfl,c⟩,by decide⟩)))
   . rw[AbK c];exact Ret.condT rfl (Ret.done (Ret.elimR (Ret.ok (by unfold cf2;rw[if_neg c]))))
 . exact Ret.condF rfl (Ret.done (Ret.elimL (Ret.ok (by unfold cf2;rw[AbO e,e]))))
theorem ASW{F:List Report}(hl:F.length<=1000000){k:Int}:I6 (Book.mk F) k=some (F.filter fun r=>decide (r.kind=k)):=by
 refine Ret.eq ?_;unfold I6;refine Ret.bind (C3 F.length (fun n (t:Int×List Report)=>t.1=n/\t.2=(F.take n).filter fun r=>decide (r.kind=k)) ⟨rfl,rfl⟩ ?_ ?_)
 . rintro n H ⟨_,X⟩ ⟨rfl,I⟩;dsimp only at I;have J:X.length<=n:=by rw[I];exact AbP (Ab1 ..) (by rw[Abq];omega)
   refine Ret.condT (Y8 H) (Ret.bind (K1 H (Ret.bind (Ret.cond (fun c=>Ret.bind (Ret.appo (by simp only[List.length_singleton];omega) (by simp only[List.length_singleton];omega) (Ret.ok (Ret.bind (Ret.chk (by omega) (Ret.next ⟨by dsimp only;omega,?_⟩)))))) fun c=>Ret.ok (Ret.bind (Ret.chk (by omega) (Ret.next ⟨by dsimp only;omega,?_⟩)))))))
   . dsimp only;rw[Q3 H,AcQ,I,Ab4,AbO c];rfl
   . dsimp only;rw[Q3 H,AcQ,I,Ab4,if_neg (by rw[c];decide)];simp
 . rintro⟨_,X⟩ ⟨rfl,I⟩;dsimp only at I;rw[Abf]at I;exact Ret.condF (Y9 (AbQ _)) (Ret.done (Ret.ok I))
theorem AUr(hl:s.length<=1000000):P2 s=some s:=by
 unfold P2;have H:appo 64 ([]:List Report) s=some s:=AAH (xs:=([]:List Report)) (by simp;omega) (by simp;omega);refine AKA (fun h=>?_) ?_
 . rw[h];rfl
 . show (appo 64 ([]:List Report) s).bind (fun l7=>some l7)=some s;rw[H,bindS]
theorem AY0{L:List Report}(hn:(L.map (·.id)).Nodup)(hl:L.length<=1000000):Ret (ABJ L) fun X=>X.length<=1000000:=by
 unfold ABJ;rw[AUr hl,bindS];have ho:=AJG (x:=L) (cmp:=fun a b=>F8 a b [108]) (k1 := fun x : Report => x.id) (k2 := fun x : Report => x.id) (fun a b=>ASV (D:=fd160.D) fun _=>rfl) (fun a b ha hb e _=>V9 hn a b ha hb e) hl;refine Ret.bind (Ret.bind (ho.mono fun m hm=>Ret.ok ?_));have hml:=hm.1.length_eq;refine Ret.bind (C3 m.length (fun n (t:Int×List Int)=>t.1=n/\t.2.length=n) ⟨rfl,rfl⟩ ?_ ?_)
 . rintro n hlt ⟨_,X⟩ ⟨rfl,hX⟩;dsimp only at hX;exact Ret.condT (Y8 hlt) (Ret.bind (K1 hlt (Ret.bind (Ret.appo (by simp only[List.length_singleton];omega) (by simp only[List.length_singleton];omega) (Ret.bind (Ret.chk (by omega) (Ret.next ⟨by dsimp only;omega,by simp[hX]⟩)))))))
 . rintro⟨_,X⟩ ⟨rfl,hX⟩;dsimp only at hX;exact Ret.condF (Y9 (AbQ _)) (Ret.done (Ret.ok (by rw[hX];omega)))
def TB(t:Told):Prop:=t.by_.length<=1000000
theorem AQ4{L:List Report}(J:(L.map (·.id)).Nodup)(hl:L.length<=1000000){only:Bool}:Ret (Q7 L only) TB:=by
 unfold Q7;refine Ret.cond (fun _=>Ret.ok (Abe _)) fun c=>?_;have c:=AbM c;refine Ret.bind (K1 (n:=0) (by omega) (B9 (AY0 J hl) fun ids I=>?_));refine Ret.bind (C3 L.length (fun n (t:Int×Int×Int)=>t.1=n) rfl ?_ ?_)
 . rintro n H ⟨_,x,y⟩ rfl;refine Ret.condT (Y8 H) (Ret.bind (K1 H ?_));rw[show V5 L[n] L[0] only=some (decide (L[n].cents=L[0].cents)&&(!only||decide (L[n].about=L[0].about))) by unfold V5;cases decide (L[n].cents=L[0].cents)<;>cases only<;>rfl,bindS]
   refine Ret.bind (Ret.cond (fun _=>Ret.ok ?_) fun _=>Ret.ok ?_)<;>exact Ret.bind (Ret.chk (by omega) (Ret.next (by dsimp only;omega)))
 . rintro⟨_,x,y⟩ rfl;exact Ret.condF (Y9 (AbQ _)) (Ret.done (Ret.ok I))
theorem AY1(h:∀x∈s,f x=some (g x))(hl:s.length<=1000000){Q:Int->Prop}(I:(∀x∈s,g x=false)->Q (-1))(H:∀(n:Nat) (J:n<s.length),g s[n]=true->(∀x∈s.take n,g x=false)->Q n):Ret (AA3 s f) Q:=AED h hl I H
theorem AY2(h:∀x∈s,f x=some (g x))(hl:s.length<=1000000){Q:List Report->Prop}(E:Q (s.filter fun x=>!g x)):Ret (N7 s f) Q:=by
 unfold N7;refine Ret.bind (AY1 h hl (fun T=>?_) fun n Y T B=>?_)
 . refine Ret.condT rfl (Ret.ok ?_);rw[List.filter_eq_self.2 fun x hx=>by rw[T x hx];rfl]at E;exact E
 . refine Ret.condF (AbK (by omega)) (Ret.bind (Ret.chk (by omega) ?_));have G:s.take n=(s.take (n+1)).filter fun x=>!g x:=by
    rw[Q3 Y,AcQ,List.filter_eq_self.2 fun x hx=>by rw[B x hx];rfl];simp[T]
   refine Ret.bind (Ret.loop (fun t:Int×Int×List Report=>∃i j:Nat,t.1=i/\t.2.1=j/\i<=j/\j<=s.length/\t.2.2.length=s.length/\t.2.2.drop j=s.drop j/\t.2.2.take i=(s.take j).filter fun x=>!g x) (fun t=>s.length-t.2.1.toNat) ⟨n,n+1,rfl,rfl,by omega,by omega,rfl,rfl,G⟩ ?_);rintro⟨_,_,X⟩ ⟨i,j,rfl,rfl,A,Z,D,hd,I⟩;dsimp only at D hd I ⊢;refine Ret.cond (fun O=>?_) fun O=>?_
   . have H:j<s.length:=by have:=AbH O;omega
     have W:X[j]?=some s[j]:=by
      have:=AbJ (fun l:List Report=>l[0]?) hd;simp only[List.getElem?_drop,Nat.add_zero]at this;rw[this,AbI H]
     have J:(s.take (j+1)).filter (fun x=>!g x)=(s.take j).filter (fun x=>!g x)++if g s[j] then [] else [s[j]]:=by
      rw[Q3 H,AcQ];cases c:g s[j]<;>simp[c]
     have U:X.drop (j+1)=s.drop (j+1):=by rw[<-AdA,hd,AdA]
     refine Ret.bind (Ret.bind (Ret.ixo W (Ret.bind (Ret.val (h _ (AbX H)) (Ret.bind ?_)))));refine Ret.cond (fun K=>?_) fun K=>?_
     . have C:X[i]?=some (X[i]'(by omega)):=AbI (by omega);refine Ret.bind (Ret.ixo C (Ret.bind (Ret.seto (by omega) (Ret.bind (Ret.chk (by omega) (Ret.ok (Ret.ok (Ret.bind (Ret.chk (by omega) (Ret.next ⟨⟨i+1,j+1,by dsimp only;omega,by dsimp only;omega,by omega,by omega,(by rw[AcX];exact D),?_,?_⟩,by dsimp only;omega⟩))))))))))
       . rw[List.drop_set_of_lt (by omega)];exact U
       . have F:g s[j]=false:=by simpa using K
         rw[J,F,Acy,AcM (by omega),List.take_set_of_le (by omega),I];rfl
     . have F:g s[j]=true:=by simpa using K
       refine Ret.ok (Ret.ok (Ret.bind (Ret.chk (by omega) (Ret.next ⟨⟨i,j+1,rfl,by dsimp only;omega,by omega,by omega,D,U,?_⟩,by dsimp only;omega⟩))));rw[J,F,I];simp
   . have V:j=s.length:=by have:=AbM O;omega
     subst V;refine Ret.done ?_;dsimp only;rw[Abf]at I;refine Ret.bind (Ret.val (by unfold ACp;rw[AbO ⟨by omega,by omega⟩]) (Ret.bind (Ret.val (by unfold ADq;rw[AbO ⟨by omega,by simp;omega⟩]) (Ret.ok ?_))));rw[show((i:Int).toNat)=i from rfl,List.take_append_of_le_length (by rw[Abq];omega),List.take_take,Nat.min_self,I];exact E
structure FO(F:List Report):Prop where
 nd:(F.map (·.id)).Nodup
 len:F.length<=60
 c:∀r∈F,0<=r.cents/\r.cents<=1000000000000
variable{F:List Report}{k:Int}{d:Int}
theorem FO.filter(h:FO F)(p:Report->Bool):FO (F.filter p):=
 ⟨(AcN _ Abu).nodup h.nd,AbP (Ab1 ..) h.len,fun r H=>h.c r (List.mem_filter.1 H).1⟩
theorem AM7(h:FO F):Ret (G8 (Book.mk F) k) TB:=by
 unfold G8;have hl:=h.len;rw[ASW (by omega),bindS];have H:=h.filter fun r=>decide (r.kind=k);exact B9 (AQ4 H.nd (by have:=H.len;omega)) fun t I=>Ret.ok I
theorem AM8(h:FO F):Ret (J5 (Book.mk F) k) TB:=by
 unfold J5;have hl:=h.len;rw[ASW (F:=F) (by omega),bindS];have H:=h.filter fun r=>decide (r.kind=k);generalize (F.filter fun r=>decide (r.kind=k))=L at H;have U:=H.len;refine Ret.cond (fun _=>Ret.ok (Abe _)) fun c=>?_;have c:=AbM c;rw[show(L.length:Int)-1=((L.length-1:Nat):Int) by omega];refine Ret.bind (Ret.chk (by omega) (Ret.bind (K1 (by omega) (Ret.bind (AY2 (g:=fun r=>decide (r.about<(L[L.length-1]'(by omega)).about)) (fun x _=>rfl) (by omega) ?_)))));have I:=H.filter fun x=>!decide (x.about<(L[L.length-1]'(by omega)).about);exact B9 (AQ4 I.nd (by have:=I.len;omega)) fun t J=>Ret.ok J
theorem AE2(h:FO F):∀i,Ret (AAx (Book.mk F) i) TB
 |0=>AM7 h
 |1=>AM8 h
 |2=>AM8 h
 |3=>AM8 h
 |4=>AM7 h
 |_+5=>AM7 h
def AWv(m:A4 Int Span):Prop:=∃l,Lists m l/\l.length<=60/\∀d sp,m d=some sp->(0<=sp.lo/\sp.lo<=60000000000000)/\0<=sp.hi/\sp.hi<=60000000000000
def PdM(m:A4 Payer Int)(d:Int)(sp:Span):Prop:=(∃p,p.day=d/\m p=some sp.lo)/\(∃p,p.day=d/\m p=some sp.hi)/\∀p z,p.day=d->m p=some z->sp.lo<=z/\z<=sp.hi
theorem PdM.uniq{m:A4 Payer Int}{a b:Span}(h:PdM m d a)(k:PdM m d b):a=b:=by
 obtain⟨⟨p1,J,e1⟩,⟨p2,I,e2⟩,H⟩:=h;obtain⟨⟨q1,k1,f1⟩,⟨q2,k2,f2⟩,k3⟩:=k;have a1:=k3 _ _ J e1;have a2:=k3 _ _ I e2;have a3:=H _ _ k1 f1;have a4:=H _ _ k2 f2;cases a;cases b
 simp only[Span.mk.injEq]at *;omega
def PdE(l:List (Payer×Int))(d:Int)(sp:Span):Prop:=(∃e∈l,e.1.day=d/\e.2=sp.lo)/\(∃e∈l,e.1.day=d/\e.2=sp.hi)/\∀e∈l,e.1.day=d->sp.lo<=e.2/\e.2<=sp.hi
theorem PdE.m{m:A4 Payer Int}{l:List (Payer×Int)}(hl:Lists m l){d:Int}{sp:Span}(h:PdE l d sp):PdM m d sp:=by
 obtain⟨⟨e1,g1,g2,g3⟩,⟨e2,g4,g5,g6⟩,g7⟩:=h;exact⟨⟨e1.1,g2,by rw[<-g3];exact(hl.2 _ _).1 g1⟩,⟨e2.1,g5,by rw[<-g6];exact(hl.2 _ _).1 g4⟩,fun p z I H=>g7 (p,z) ((hl.2 _ _).2 H) I⟩
theorem AWw(h:FO F):Ret (O5 (Book.mk F)) AWv:=by
 unfold O5;have hl:=h.len;rw[ASW (F:=F) (by omega),bindS];have B:=h.filter fun r=>decide (r.kind=4);generalize (F.filter fun r=>decide (r.kind=4))=L at B;have N:=B.len;refine Ret.bind (C3 L.length (fun n (t:Int×A4 Payer Int)=>t.1=n/\(∃l,Lists t.2 l/\l.length<=n)/\∀p z,t.2 p=some z->0<=z/\z<=n*1000000000000) ⟨rfl,⟨[],Lists.nil,AbQ _⟩,fun p z h=>by simp[fnone]at h⟩ ?_ ?_)
 . rintro n W ⟨_,m⟩ ⟨rfl,⟨l,U,G⟩,C⟩;dsimp only at U G C;have M:=B.c L[n] (AbX W);have S:0<=(m (Payer.mk L[n].about L[n].source)).getD 0/\(m (Payer.mk L[n].about L[n].source)).getD 0<=n*1000000000000:=by
    cases Q:m (Payer.mk L[n].about L[n].source) with
    |some z=>exact C _ _ Q
    |none=>exact⟨Int.le_refl _,by show(0:Int)<=_;omega⟩
   refine Ret.condT (Y8 W) (Ret.bind (K1 W (Ret.bind (Ret.bind (Ret.ok ?_)))));refine Ret.bind (Ret.chk (by omega) (Ret.ok (Ret.bind (Ret.chk (by omega) (Ret.next ⟨by dsimp only;omega,?_,fun p z E=>?_⟩)))))
   . obtain⟨l',T,K⟩:=AFj U (Payer.mk L[n].about L[n].source) ((m (Payer.mk L[n].about L[n].source)).getD 0+L[n].cents);exact⟨l',T,by omega⟩
   . dsimp only[B4]at E;split at E
     . cases E;omega
     . have:=C p z E;omega
 . rintro⟨_,m⟩ ⟨rfl,⟨l,U,G⟩,C⟩;dsimp only at U G C;refine Ret.condF (Y9 (AbQ _)) (Ret.done (Ret.bind ?_));have V:∀l',Lists m l'->∃s:A4 Int Span,List.foldlM (fun (x96:A4 Int Span) (y97:Payer×Int)=>(some ((x96 y97.1.day).getD (Span.mk 0 0))).bind fun y114=>((cond (!((x96 y97.1.day).isSome)) (some (y97.2,y97.2)) (some (y114.lo,y114.hi))).bind fun (x132,x133)=>some (x132,x133)).bind fun (x134,x135)=>some (B4 x96 y97.1.day (Span.mk (min x134 y97.2) (max x135 y97.2)))) fnone l'=some s/\(∃q,Lists s q/\q.length<=l'.length)/\∀d,(s d=none->∀e∈l',e.1.day≠d)/\∀sp,s d=some sp->PdE l' d sp:=fun l' J=>by
    obtain⟨x,T,K⟩:=ABf (f:=fun (x96:A4 Int Span) (y97:Payer×Int)=>(some ((x96 y97.1.day).getD (Span.mk 0 0))).bind fun y114=>((cond (!((x96 y97.1.day).isSome)) (some (y97.2,y97.2)) (some (y114.lo,y114.hi))).bind fun (x132,x133)=>some (x132,x133)).bind fun (x134,x135)=>some (B4 x96 y97.1.day (Span.mk (min x134 y97.2) (max x135 y97.2)))) (fun pre (x:A4 Int Span)=>(∃q,Lists x q/\q.length<=pre.length)/\∀d,(x d=none->∀e∈pre,e.1.day≠d)/\∀sp,x d=some sp->PdE pre d sp) l' [] fnone ⟨⟨[],Lists.nil,AbQ _⟩,fun d=>⟨fun _ e H=>by simp at H,fun sp h=>by simp[fnone]at h⟩⟩ (fun pre y x hy hx=>by
     obtain⟨⟨q,Y,R⟩,hx⟩:=hx;have key:∀lo hi:Int,PdE (pre++[y]) y.1.day (Span.mk lo hi)->(∃q,Lists (B4 x y.1.day (Span.mk lo hi)) q/\q.length<=(pre++[y]).length)/\∀d,(B4 x y.1.day (Span.mk lo hi) d=none->∀e∈pre++[y],e.1.day≠d)/\∀sp,B4 x y.1.day (Span.mk lo hi) d=some sp->PdE (pre++[y]) d sp:=fun lo hi E=>by
      obtain⟨q',Z,O⟩:=AFj Y y.1.day (Span.mk lo hi);refine⟨⟨q',Z,by simp;omega⟩,fun d=>?_⟩;by_cases c:d=y.1.day
      . subst c;simp only[B4,if_true];exact⟨fun h=>(by cases h),fun sp h=>(by cases h;exact E)⟩
      . simp only[B4,if_neg c];refine⟨fun h e H I=>?_,fun sp h=>?_⟩
        . rcases mem_append.1 H with H|H
          . exact(hx d).1 h e H I
          . have:e=y:=by simpa using H
            subst this;exact c I.symm
        . obtain⟨⟨e1,g1,g2⟩,⟨e2,g4,g5⟩,g7⟩:=(hx d).2 sp h;refine⟨⟨e1,AbD _ g1,g2⟩,⟨e2,AbD _ g4,g5⟩,fun e H I=>?_⟩;rcases mem_append.1 H with H|H
          . exact g7 e H I
          . have:e=y:=by simpa using H
            subst this;exact absurd I.symm c
     cases Q:x y.1.day with
     |none=>
      have A:=(hx _).1 Q
      refine⟨_,by rw[bindS];rfl,key _ _ ?_⟩
      refine⟨⟨y,by simp,rfl,by simp⟩,⟨y,by simp,rfl,by simp⟩,fun e H I=>?_⟩
      rcases mem_append.1 H with H|H
      . exact absurd I (A e H)
      . have:e=y:=by simpa using H
        subst this;simp
     |some s=>
      obtain⟨⟨e1,g1,g2,g3⟩,⟨e2,g4,g5,g6⟩,g7⟩:=(hx _).2 s Q
      refine⟨_,rfl,key _ _ ⟨?_,?_,fun e H I=>?_⟩⟩
      . by_cases c:s.lo<=y.2
        . exact⟨e1,AbD _ g1,g2,by dsimp only[Option.getD];rw[g3];omega⟩
        . exact⟨y,by simp,rfl,by dsimp only[Option.getD];omega⟩
      . by_cases c:y.2<=s.hi
        . exact⟨e2,AbD _ g4,g5,by dsimp only[Option.getD];rw[g6];omega⟩
        . exact⟨y,by simp,rfl,by dsimp only[Option.getD];omega⟩
      . dsimp only[Option.getD]
        rcases mem_append.1 H with H|H
        . have:=g7 e H I;omega
        . have:e=y:=by simpa using H
          subst this;omega)
    rw[Abb]at K;exact⟨x,T,K.1,K.2⟩
   obtain⟨s,T,⟨q,K,Z⟩,O⟩:=V l U;refine⟨s,ATS U fun l' J=>?_,Ret.ok ⟨q,K,by omega,fun d sp hd=>?_⟩⟩
   . obtain⟨s',P,_,I⟩:=V l' J;rw[P];congr 1;funext d;have no:∀{l1 l2:List (Payer×Int)} {s1 s2:A4 Int Span},Lists m l1->Lists m l2->(∀d,(s1 d=none->∀e∈l1,e.1.day≠d)/\∀sp,s1 d=some sp->PdE l1 d sp)->(∀d,(s2 d=none->∀e∈l2,e.1.day≠d)/\∀sp,s2 d=some sp->PdE l2 d sp)->s1 d=none->s2 d=none:=fun {l1 l2 s1 s2} k1 k2 k3 k4 k5=>by
      cases D:s2 d with
      |none=>rfl
      |some sp=>
       obtain⟨⟨e,g1,g2,_⟩,_⟩:=(k4 d).2 sp D
       exact absurd g2 ((k3 d).1 k5 e ((k1.2 e.1 e.2).2 ((k2.2 e.1 e.2).1 g1)))
     cases D:s' d with
     |none=>exact(no J U I O D).symm
     |some sp=>
      cases X:s d with
      |none=>rw[no U J O I X]at D;cases D
      |some sq=>rw[(((I d).2 sp D).m J).uniq (((O d).2 sq X).m U)]
   . obtain⟨⟨p1,_,e1⟩,⟨p2,_,e2⟩,_⟩:=((O d).2 sp hd).m U;have a1:=C _ _ e1;have a2:=C _ _ e2;omega
theorem AM9{l l':List Int}(h:l.Perm l'):l.sum=l'.sum:=by
 induction h with
 |nil=>rfl
 |cons x _ ih=>simp only[List.sum_cons,ih]
 |swap x y l=>simp only[List.sum_cons];omega
 |trans _ _ I H=>exact I.trans H
def SB(s:State):Prop:=TB s.opened/\TB s.limit/\TB s.owed/\TB s.late/\TB s.default/\TB s.closed
theorem AWy(h:FO F){t0 t1 t2 t3 t4 t5:Told}(C:TB t0/\TB t1/\TB t2/\TB t3/\TB t4/\TB t5):Ret (ABu (State.mk t0 t1 t2 t3 t4 t5 (Span.mk 0 0) 0) (Book.mk F)) fun z=>z.2=0/\SB z.1:=by
 have J:=C;unfold ABu;refine B9 (AWw h) fun m hm=>?_;obtain⟨l0,I,H,C⟩:=hm;refine AGb I (fun s:Int×Int=>s=((l0.map (·.2.lo)).sum,(l0.map (·.2.hi)).sum)) (fun l hl=>?_) (fun s s' U K=>U.trans K.symm) fun s T=>?_
 . have V:=hl.one I;have Q:l.length<=60:=by rw[V.length_eq];exact H
   have W:∀e∈l,(0<=e.2.lo/\e.2.lo<=60000000000000)/\0<=e.2.hi/\e.2.hi<=60000000000000:=fun e D=>C e.1 e.2 ((hl.2 e.1 e.2).1 D);have key:∀(q p:List (Int×Span)) (x y:Int),p.length+q.length<=60->(0<=x/\x<=p.length*60000000000000)->(0<=y/\y<=p.length*60000000000000)->(∀e∈q,(0<=e.2.lo/\e.2.lo<=60000000000000)/\0<=e.2.hi/\e.2.hi<=60000000000000)->List.foldlM (m:=Option) (s:=(Int×Int)) (α:=Int×Span) (fun (x12,x13) (k14,v15)=>(chk .i64 (x12+v15.lo)).bind fun n16=>(chk .i64 (x13+v15.hi)).bind fun n17=>some (n16,n17)) (x,y) q=some (x+(q.map (·.2.lo)).sum,y+(q.map (·.2.hi)).sum):=by
    intro q;induction q with
    |nil=>intro p x y _ _ _ _;simp
    |cons e q ih=>
     intro p x y U K Y E
     have D:=E e (AbF ..)
     simp only[List.length_cons]at U
     have:=ih (p++[e]) (x+e.2.lo) (y+e.2.hi) (by simp;omega) (by simp;omega) (by simp;omega) fun z O=>E z (AbC _ O)
     rw[Ab9]
     show ((chk .i64 (x+e.2.lo)).bind _).bind _=_
     rw[AJL (by omega),bindS,AJL (by omega),bindS,bindS,this]
     simp only[List.map_cons,List.sum_cons]
     rw[Int.add_assoc,Int.add_assoc]
   have U:=key l [] 0 0 (by simp;omega) (by simp) (by simp) W;refine⟨_,U,?_⟩;rw[Int.zero_add,Int.zero_add,AM9 (V.map (·.2.lo)),AM9 (V.map (·.2.hi))]
 . obtain⟨x,y⟩:=s;dsimp only;refine Ret.bind ?_;refine Ret.cond (fun _=>Ret.ok (Ret.ok ⟨rfl,J⟩)) fun _=>Ret.bind (Ret.cond (fun _=>Ret.ok (Ret.ok (Ret.ok ⟨rfl,J⟩))) fun _=>Ret.bind (Ret.cond (fun _=>Ret.ok ?_) fun _=>Ret.ok ?_))<;>refine Ret.bind (Ret.cond (fun _=>Ret.ok (Ret.ok (Ret.ok (Ret.ok ⟨rfl,J⟩)))) fun _=>Ret.bind (Ret.cond (fun _=>Ret.ok (Ret.ok (Ret.ok (Ret.ok (Ret.ok ⟨rfl,J⟩))))) fun _=>Ret.ok (Ret.ok (Ret.ok (Ret.ok (Ret.ok ⟨rfl,J⟩))))))
theorem AWz(h:FO F):∃s,Y4 (Book.mk F)=some (s,0)/\SB s:=by
 obtain⟨z,J,I,H⟩:Ret (Y4 (Book.mk F)) fun z=>z.2=0/\SB z.1:=by
  unfold Y4;exact B9 (AE2 h 0) fun _ b0=>B9 (AE2 h 1) fun _ b1=>B9 (AE2 h 2) fun _ b2=>B9 (AE2 h 3) fun _ b3=>B9 (AE2 h 4) fun _ b4=>B9 (AE2 h 5) fun _ b5=>AWy h ⟨b0,b1,b2,b3,b4,b5⟩
 exact⟨z.1,by rw[J,<-I],H⟩
def ofA(a day:Int)(r:Report):Bool:=decide (r.account=a)&&decide (r.about<=day)
theorem AW1{l:List Report}(h:VL l){out:List Report}(H:St l k out):FO out:=by
 have hK:=AAu h k;refine⟨(H.perm.map _).nodup_iff.2 (AGd hK),by rw[H.perm.length_eq];exact AK4 hK,fun r V=>?_⟩;obtain⟨o,U,E,D,rfl⟩:=T_mem.1 (H.perm.mem_iff.1 V);have J:=AAJ (K:=Z0 l k) U;have hv:=hK.v o U;obtain⟨_,_,_,_,_,_,_,hv,_⟩:=hv;have hm:most o.kind<=1000000000000:=by unfold most;split<;>(try split)<;>omega
 unfold fix;cases C:AGc (Z0 l k) o with
 |none=>exact⟨hv.1,Int.le_trans hv.2 hm⟩
 |some c=>
  rw[C]at J
  obtain⟨_,_,⟨I,W⟩,_⟩:=J.2.1
  exact⟨I,by dsimp only;omega⟩
theorem Aab{l:List Report}(h:VL l){r:Report}(V:r∈T (Z0 l k)):InR r:=by
 have hK:=AAu h k;obtain⟨o,J,D,C,rfl⟩:=T_mem.1 V;have I:=AAJ (K:=Z0 l k) J;unfold fix;have H:=ASJ (hK.v o J);cases W:AGc (Z0 l k) o with
 |none=>exact H
 |some c=>
  rw[W]at I
  have U:=ASJ (hK.v c I.1)
  exact⟨H.1,H.2.1,H.2.2.1,H.2.2.2.1,U.2.2.2.2.1,H.2.2.2.2.2.1,U.2.2.2.2.2.2.1,H.2.2.2.2.2.2.2⟩
theorem AOG{l:List Report}(h:VL l){a day known:Int}(W:0<=a/\a<=999999)(hd:0<=day/\day<=100000)(hk:0<=known/\known<=100000):∃out s,St l known out/\SB s/\Y4 (Book.mk (out.filter (ofA a day)))=some (s,0)/\N0 l a day known=some (s,0):=by
 obtain⟨b,J,out,I,C⟩:Ret (Y3 l a day known) fun b=>∃out,St l known out/\b=Book.mk (out.filter (ofA a day)):=by
  unfold Y3;refine Ret.bind (AQt h fun D hD=>Ret.bind (AN1 (AAu h known) hD fun out J I=>?_));have H:St l known out:=⟨J,I⟩;rw[AbO ⟨by have:=(AW1 h H).len;omega,fun r V=>Aab h (J.mem_iff.1 V)⟩];exact Ret.ok ⟨out,H,rfl⟩
 subst C;obtain⟨s,H,U⟩:=AWz ((AW1 h I).filter (ofA a day));refine⟨out,s,I,U,H,Ret.eq ?_⟩;unfold N0;rw[AHE h,bindS];refine Ret.condF (by decide) (Ret.bind ?_);rw[AGQ (by simp),bindS,show([a].all (inB 0 999999))=true by simp[inB,W]];refine Ret.condF rfl ?_;rw[AGQ (by simp),bindS,show([day,known].all (inB 0 100000))=true by simp[inB,hd,hk]];exact Ret.ok (Ret.condF rfl (Y7 J (Ret.val H rfl)))
end S
namespace S
theorem ABg{t:Told}(h:TB t):G0 t t=some true:=by
 unfold G0;rw[AGj h];simp only[decide_true];rfl
theorem APh{s:State}(h:SB s):X3 s s=some true:=by
 obtain⟨W,V,U,J,I,H⟩:=h;unfold X3;rw[ABg W,ABg V,ABg U,ABg J,ABg I,ABg H];simp only[decide_true];rfl
end S
end Go.Proofs.YtgioiejbphljoaaGreatDoor
namespace Go.Proofs.YtgioiejbphljoaaGreatDoor
open Go Go.Sx Go.Rx Go.RowKit
def U0(d:Desk)(asked:List Asked)(day:Int)(id:Int)(report:Int)(by_:List Int):Option Bool:=(U4).bind fun r1=>Option.bind (α:=Bool) ((ABI d day).bind fun r4=>cond ((!r4)) (some true) ((P1 asked).bind fun r5=>cond ((!r5)) (some true) (cond (decide (id<0)) (some true) (cond (decide (999999<id)) (some true) (some (!r1)))))) ((fun x6=>cond (x6) (some r1) ((AAw d).bind fun (r7,r8,r9,r10,r11,r12)=>(B6 (S:=(Int×(List Report))) (R:=((List Report))) (fun (x36,x37)=>cond (decide (x36<(r10.length:Int))) ((Q6 by_ x36).bind fun r38=>(chk .i64 r38).bind fun n39=>(remO n39 (x37.length:Int)).bind fun n40=>(ixo x37 n40).bind fun y41=>(ixo x37 x36).bind fun y42=>(ixo x37 x36).bind fun y43=>(seto x37 x36 y41).bind fun l44=>(ixo l44 n40).bind fun y45=>(seto l44 n40 y42).bind fun l46=>(chk .i64 (x36+1)).bind fun n47=>some (Sum.inl (n47,l46))) (some (Sum.inr x37))) ((0:Int),r10)).bind ((fun x48=>(B6 (S:=(Int×(List Dispute))) (R:=((List Dispute))) (fun (x74,x75)=>cond (decide (x74<(r11.length:Int))) ((chk .i64 (x74+1)).bind fun n76=>(Q6 by_ n76).bind fun r77=>(chk .i64 r77).bind fun n78=>(remO n78 (x75.length:Int)).bind fun n79=>(ixo x75 n79).bind fun y80=>(ixo x75 x74).bind fun y81=>(ixo x75 x74).bind fun y82=>(seto x75 x74 y80).bind fun l83=>(ixo l83 n79).bind fun y84=>(seto l83 n79 y81).bind fun l85=>(chk .i64 (x74+1)).bind fun n86=>some (Sum.inl (n86,l85))) (some (Sum.inr x75))) ((0:Int),r11)).bind ((fun x87=>(B6 (S:=(Int×(List Answer))) (R:=((List Answer))) (fun (x113,x114)=>cond (decide (x113<(r12.length:Int))) ((chk .i64 (x113+2)).bind fun n115=>(Q6 by_ n115).bind fun r116=>(chk .i64 r116).bind fun n117=>(remO n117 (x114.length:Int)).bind fun n118=>(ixo x114 n118).bind fun y119=>(ixo x114 x113).bind fun y120=>(ixo x114 x113).bind fun y121=>(seto x114 x113 y119).bind fun l122=>(ixo l122 n118).bind fun y123=>(seto l122 n118 y120).bind fun l124=>(chk .i64 (x113+1)).bind fun n125=>some (Sum.inl (n125,l124))) (some (Sum.inr x114))) ((0:Int),r12)).bind ((fun x126=>(K8 d day).bind fun (r127,r128)=>(K8 (Desk.mk (Terms.mk r7 r8 r9) x48 x87 x126) day).bind fun (r129,r130)=>(F4 d asked day).bind fun (r131,r132)=>(F4 (Desk.mk (Terms.mk r7 r8 r9) x48 x87 x126) asked day).bind fun (r133,r134)=>(Q9 d report day).bind fun (r135,r136)=>(Q9 (Desk.mk (Terms.mk r7 r8 r9) x48 x87 x126) report day).bind fun (r137,r138)=>(P6 d day).bind fun (r139,r140)=>(P6 (Desk.mk (Terms.mk r7 r8 r9) x48 x87 x126) day).bind fun (r141,r142)=>Option.bind (α:=Bool) (cond ((!decide (r128=r130))) (some true) (cond ((!decide (r132=r134))) (some true) ((O0 r131 r133).bind fun r145=>cond ((!r145)) (some true) (cond ((!decide (r135=r137))) (some true) (cond ((!decide (r136=r138))) (some true) (cond ((!decide (r140=r142))) (some true) ((O6 r139 r141).bind fun r146=>some (!r146)))))))) ((fun x147=>cond (x147) (some false) (cond ((!decide (r128=0))) (Option.bind (α:=Bool) (cond (r1) (some (decide (r128=9))) (some false)) ((fun x148=>some x148))) ((N0 r127 id day day).bind fun (r149,r150)=>(N0 r129 id day day).bind fun (r151,r152)=>Option.bind (α:=Bool) (cond (r1) (cond (decide ((r127.length:Int)=(r129.length:Int))) (cond (decide (r150=0)) (cond (decide (r152=0)) ((X3 r149 r151).bind fun r154=>some r154) (some false)) (some false)) (some false)) (some false)) ((fun x155=>some x155)))))))))))))))
def Aac:An:=.nd .x (.nd .x (.nd (.nd (.jn [.norm ⟨[(.slot 62,.d .bool)],[6]⟩] .x) .x) (.nd .x (.nd (.nd .x (.lp ⟨[(.slot 69,.d (.int .i64)),(.cont 300065,.own (.sl 45 (.st 1)))],[14,500065,400065,300065,6]⟩ [.exit 0 ⟨[(.cont 300065,.own (.sl 45 (.st 1)))],[14,500065,400065,300065,6]⟩] .x)) (.nd (.nd .x (.lp ⟨[(.slot 102,.d (.int .i64)),(.cont 400065,.own (.sl 53 (.st 2)))],[14,500065,400065,300065,6]⟩ [.exit 2 ⟨[(.cont 400065,.own (.sl 53 (.st 2)))],[14,500065,400065,300065,6]⟩] .x)) (.nd (.nd .x (.lp ⟨[(.slot 136,.d (.int .i64)),(.cont 500065,.own (.sl 60 (.st 3)))],[14,500065,400065,300065,6]⟩ [.exit 4 ⟨[(.cont 500065,.own (.sl 60 (.st 3)))],[14,500065,400065,300065,6]⟩] .x)) (.nd .x (.nd .x (.nd .x (.nd .x (.nd .x (.nd .x (.nd .x (.nd .x (.nd (.nd (.jn [.norm ⟨[(.slot 253,.d .bool)],[176,170]⟩] .x) .x) (.nd (.nd .x (.nd (.nd (.jn [.norm ⟨[(.slot 12,.d .bool)],[]⟩] .x) .x) .x)) (.nd .x (.nd .x (.nd (.jn [.norm ⟨[(.slot 12,.d .bool)],[]⟩] .x) .x)))))))))))))))))))
def AY3:Ctr:=⟨[.d (.st 4),.d (.sl (.st 5)),.d (.int .i64),.d (.int .i64),.d (.int .i64),.d (.sl (.int .u32))],[.d .bool],fun a=>U0 a.1 a.2.1 a.2.2.1 a.2.2.2.1 a.2.2.2.2.1 a.2.2.2.2.2.1⟩
theorem ok10:Ctr.ok prog 10 AY3:=B0 (G:={ gxb with fs:=[(14,ctr14),(16,ctr16),(19,ctr19),(21,ctr21),(22,ctr22),(24,ctr24),(25,ctr25),(28,ctr28),(36,ctr36),(37,ctr37),(38,ctr38),(39,ctr39)],fm:=[(13,ctrm13)] }) (an:=Aac) (ACP ⟨⟨ok14,call14⟩,⟨ok16,call16⟩,⟨ok19,call19⟩,⟨ok21,call21⟩,⟨ok22,call22⟩,⟨ok24,call24⟩,⟨ok25,call25⟩,⟨ok28,call28⟩,⟨ok36,call36⟩,⟨ok37,call37⟩,⟨ok38,call38⟩,⟨ok39,call39⟩,trivial⟩ trivial ⟨⟨okm13,call13⟩,trivial⟩) func10 rfl rfl rfl rfl (fun a=>by kernel_rfl)
end Go.Proofs.YtgioiejbphljoaaGreatDoor
namespace Go.Proofs.YtgioiejbphljoaaGreatDoor
open Go Go.Sx Go.Rx
namespace S
theorem AHM{α:Type}{l l':List α}(h:∀x,x∈l↔x∈l')(p:α->Bool):l.any p=l'.any p:=by
 rw[Bool.eq_iff_iff,Ace,Ace];exact⟨fun⟨x,I,H⟩=>⟨x,(h x).1 I,H⟩,fun⟨x,I,H⟩=>⟨x,(h x).2 I,H⟩⟩
section
variable{K K':List Report}(hm:∀r,r∈K↔r∈K')
include hm
theorem AIQ(i:Int):AFe K i=AFe K' i:=by
 have:wdB K i=wdB K' i:=by funext r;unfold wdB;rw[AHM hm]
 unfold AFe;rw[this,AHM hm]
theorem ASX(hK:Ok K){o:Report}(H:o∈K):AGc K o=AGc K' o:=by
 have e:∀r,r∈K'/\Co K' o r↔r∈K/\Co K o r:=fun r=>by
  rw[<-AHI H,<-AHI ((hm o).1 H),hm r];have:coB K o r=coB K' o r:=by unfold coB;rw[AIQ hm]
  rw[this]
 exact Latest.uniq hK (AAJ H) ((AAJ ((hm o).1 H)).congr e)
theorem AOH(hK:Ok K){o:Report}(H:o∈K):fix K o=fix K' o:=by
 unfold fix;rw[ASX hm hK H]
theorem AW2(hK:Ok K)(r:Report):r∈T K↔r∈T K':=by
 unfold T;rw[AcO,AcO];constructor
 . rintro⟨o,I,rfl⟩;obtain⟨H,J⟩:=List.mem_filter.1 I;exact⟨o,List.mem_filter.2 ⟨(hm o).1 H,by rw[<-AIQ hm];exact J⟩,(AOH hm hK H).symm⟩
 . rintro⟨o,I,rfl⟩;obtain⟨H,J⟩:=List.mem_filter.1 I;exact⟨o,List.mem_filter.2 ⟨(hm o).2 H,by rw[AIQ hm];exact J⟩,AOH hm hK ((hm o).2 H)⟩
end
section
variable{l l':List Report}(v:VL l)(v':VL l')(h:∀r,r∈l↔r∈l')
include v v' h
theorem AUs(k:Int)(r:Report):r∈Z0 l k↔r∈Z0 l' k:=by rw[kn_mem,kn_mem,h]
theorem AOI(k:Int):(T (Z0 l k)).Perm (T (Z0 l' k)):=(Abw (AJH (AGd (AAu v k))) (AJH (AGd (AAu v' k)))).2 fun r=>AW2 (AUs v v' h k) (AAu v k) r
theorem ANA(k i:Int):stF l k i=stF l' k i:=by
 refine Ac7 fun r=>?_;rw[AJ1 v,AJ1 v',(AOI v v' h k).mem_iff]
theorem AUt{k:Int}{out:List Report}(s:St l k out):St l' k out:=⟨s.perm.trans (AOI v v' h k),s.ord⟩
theorem ASY(i:Int):fct l i=fct l' i:=by
 refine Ac7 fun r=>?_;rw[AGY v.cons,AGY v'.cons,h]
end
structure Pm(d y:Desk):Prop where
 t:y.terms=d.terms
 r:y.reports.Perm d.reports
 x:y.disputes.Perm d.disputes
 a:y.answers.Perm d.answers
section
variable{d y:Desk}(hv:Vd d)(p:Pm d y)
include hv p
theorem Pm.vr:VL y.reports:=⟨by rw[p.r.length_eq];exact hv.r.len,fun r H=>hv.r.v r (p.r.mem_iff.1 H),fun a J b I e=>hv.r.cons a (p.r.mem_iff.1 J) b (p.r.mem_iff.1 I) e⟩
theorem Pm.fct(i:Int):fct y.reports i=fct d.reports i:=ASY (p.vr hv) hv.r (fun _=>p.r.mem_iff) i
theorem Pm.vd:Vd y:=by
 refine⟨by rw[p.t];exact hv.t,p.vr hv,⟨by rw[p.x.length_eq];exact hv.x.len,fun x hx=>?_,(p.x.map _).nodup_iff.2 hv.x.nd⟩,by rw[p.a.length_eq];exact hv.a.len,fun a D=>?_,(p.a.map _).nodup_iff.2 hv.a.nd⟩
 . obtain⟨V,U,f,J,I,H⟩:=hv.x.v x (p.x.mem_iff.1 hx);exact⟨V,fun r W=>U r (p.r.mem_iff.1 W),f,by rw[p.fct hv];exact J,I,by rw[p.t];exact H⟩
 . obtain⟨V,U,J,x,I,H,F,E⟩:=hv.a.v a (p.a.mem_iff.1 D);exact⟨V,U,J,x,p.x.mem_iff.2 I,H,F,fun h f C=>E h f (by rw[<-p.fct hv];exact C)⟩
theorem Pm.dec(x:Dispute):dec y x=dec d x:=by
 have h:=AEz hv x;have I:=AEz (p.vd hv) x;rw[p.t]at I;have hm:∀a,a∈(y.answers.filter fun a=>decide (a.dispute=x.id))↔a∈d.answers.filter fun a=>decide (a.dispute=x.id):=fun a=>(p.a.filter _).mem_iff;exact ASR h I (fun a H=>(hm a).1 H) (fun a H _ _=>(hm a).2 H) fun a H b J e=>V9 hv.a.nd a b (List.mem_filter.1 H).1 (List.mem_filter.1 J).1 e
theorem Pm.wh(x:Dispute)(day:Int):wh y x day=wh d x day:=by unfold S.wh;rw[p.dec hv]
theorem Pm.decd(day:Int):(decd y day).Perm (decd d day):=by
 unfold S.decd;rw[show(fun x=>decide (3<=S.wh y x day))=fun x=>decide (3<=S.wh d x day) from funext fun x=>by rw[p.wh hv],show(fun x:Dispute=>(x,S.dec y x))=fun x=>(x,S.dec d x) from funext fun x=>by rw[p.dec hv]];exact(p.x.filter _).map _
theorem Pm.more(day:Int):(more y day).Perm (more d day):=by
 unfold S.more;rw[show(fun z:Dispute×Verdict=>ACf y z.1 z.2)=fun z=>ACf d z.1 z.2 from funext fun z=>by unfold ACf;rw[p.fct hv]];exact(p.decd hv day).map _
theorem Pm.fol{day:Int}{z z':List Report×Int}(h:AEV d day z)(E:AEV y day z'):(z=([],9)/\z'=([],9))\/∃m,z=(d.reports++m,0)/\z'=(y.reports++m,0):=by
 have hl:=(p.more hv day).length_eq;have F:=p.r.length_eq;rcases h with⟨D,rfl⟩|⟨D,m,H,C,rfl⟩<;>rcases E with⟨W,rfl⟩|⟨W,m',V,U,rfl⟩
 . exact .inl ⟨rfl,rfl⟩
 . omega
 . omega
 . refine .inr ⟨m,rfl,?_⟩;rw[AB7 (H.trans ((p.more hv day).symm.trans V.symm)) C U fun a b J I _ e=>V9 (AHK hv) a b (H.mem_iff.1 J) (H.mem_iff.1 I) e]
theorem Pm.wrong{l l':List Report}(v:VL l)(v':VL l')(h:∀r,r∈l↔r∈l')(x:Dispute)(a:Asked):wrong y l' x a=wrong d l x a:=by
 unfold S.wrong;rw[p.fct hv,p.dec hv,p.t,<-ANA v v' h,<-ANA v v' h]
theorem Pm.due{l l':List Report}(v:VL l)(v':VL l')(h:∀r,r∈l↔r∈l')(asked:List Asked)(day:Int):ADl y l' asked day=ADl d l asked day:=by
 funext k;obtain⟨i,who⟩:=k;by_cases c:∃x∈d.disputes,x.id=i
 . obtain⟨x,hx,rfl⟩:=c;rw[AQ0 hv hx,AQ0 (p.vd hv) (p.x.mem_iff.2 hx),p.wh hv];unfold AGh;rw[show(fun a=>S.wrong y l' x a&&decide (a.who=who))=fun a=>S.wrong d l x a&&decide (a.who=who) from funext fun a=>by rw[p.wrong hv v v' h]]
 . cases I:ADl y l' asked day (i,who) with
   |some z=>
    obtain⟨x,hx,e⟩:=AQ1 (p.vd hv) I
    exact absurd ⟨x,p.x.mem_iff.1 hx,e⟩ c
   |none=>
    cases H:ADl d l asked day (i,who) with
    |some z=>exact absurd (AQ1 hv H) c
    |none=>rfl
theorem Pm.lt{asked:List Asked}{day:Int}(hd:0<=day/\day<=100000){r:List Letter×Int}(J:LtS y asked day r):LtS d asked day r:=by
 obtain⟨z',H,h⟩:=J;obtain⟨z,_,I⟩:=AFi hv hd;rcases p.fol hv I H with⟨rfl,rfl⟩|⟨m,rfl,rfl⟩
 . rcases h with⟨_,h⟩|⟨h,_⟩
   . exact⟨_,I,.inl ⟨rfl,h⟩⟩
   . cases h
 . refine⟨_,I,?_⟩;rcases h with⟨h,_⟩|⟨_,V,U⟩
   . cases h
   . refine .inr ⟨rfl,V,?_⟩;rw[<-p.due hv (AGf hv I rfl) (AGf (p.vd hv) H rfl) (fun r=>((p.r.append_right m).mem_iff).symm)];exact U
theorem Pm.mark(report day:Int):AC5 y report day=AC5 d report day:=by
 have I:isO y report day=isO d report day:=by funext x;unfold isO;rw[p.wh hv]
 have H:isS y report day=isS d report day:=by funext x;unfold isS;rw[p.wh hv,p.dec hv,p.t]
 unfold AC5;rw[I,H,AHM (fun _=>p.x.mem_iff),AHM (fun _=>p.x.mem_iff)]
theorem Pm.dues{day:Int}{out:List Int}(h:AJy y day out):AJy d day out:=by
 obtain⟨m,I,H,rfl⟩:=h;exact⟨m,I.trans p.x,H,by rw[show(fun x=>decide (S.wh y x day=1))=fun x=>decide (S.wh d x day=1) from funext fun x=>by rw[p.wh hv]]⟩
end
theorem AIR{b:List Int}(H:∀x∈b,0<=x/\x<=4294967295){i:Int}(hi:0<=i):Ret (Q6 b i) fun z=>0<=z/\z<=4294967295:=by
 unfold Q6;refine Ret.cond (fun c=>?_) fun _=>Ret.ok (by decide);have c:=AbH c;exact Ret.bind (ARI hi c fun x hx=>Ret.ok (H x (AbB hx)))
theorem ANB{α:Type}{l:List α}{n:Nat}(I:n<l.length){z:Int}(J:0<=z){R:Type}{K:List α->Option R}{Q:R->Prop}(hl:l.length<=1000000)(h:∀l',l'.Perm l->Ret (K l') Q):Ret ((remO z (l.length:Int)).bind fun n40=>(ixo l n40).bind fun y41=>(ixo l (n:Int)).bind fun y42=>(ixo l (n:Int)).bind fun y43=>(seto l (n:Int) y41).bind fun l44=>(ixo l44 n40).bind fun y45=>(seto l44 n40 y42).bind K) Q:=by
 refine Ret.bind (Ret.remO J (by omega) ?_);obtain⟨k,hk⟩:∃k:Nat,z % (l.length:Int)=k:=⟨(z % (l.length:Int)).toNat,(Int.toNat_of_nonneg (Int.emod_nonneg _ (by omega))).symm⟩;have H:k<l.length:=by have:=Int.emod_lt_of_pos z (show(0:Int)<l.length by omega);omega
 rw[hk];refine Ret.bind (K1 H (Ret.bind (K1 I (Ret.bind (K1 I (Ret.bind (Ret.seto I ?_)))))));exact Ret.bind (K1 (by rw[AcX];exact H) (Ret.bind (Ret.seto (by rw[AcX];exact H) (h _ (List.set_set_perm I H)))))
theorem AHP(N:U4=some true){d:Desk}(B:InD d){asked:List Asked}{day id report:Int}{by_:List Int}(S:asked.length<=9223372036854775807)(C:∀x∈by_,0<=x/\x<=4294967295):U0 d asked day id report by_=some true:=by
 refine Ret.eq ?_;unfold U0;rw[N,bindS];refine Ret.bind (B9 (AUP B) fun b Z=>?_);cases b with
 |false=>exact Ret.condT rfl (Ret.ok (Ret.condT rfl (Ret.ok rfl)))
 |true=>
 obtain⟨hv,X,G⟩:=Z rfl;refine Ret.condF rfl (B9 (Q':=fun b=>b=true->AskV asked) ?_ fun b Z=>?_)
 . by_cases h:asked.length<=1000000
   . exact AUc h
   . unfold P1;exact Ret.condT (AbL (by omega)) (Ret.ok fun h=>by cases h)
 cases b with
 |false=>exact Ret.condT rfl (Ret.ok (Ret.condT rfl (Ret.ok rfl)))
 |true=>
 have R:=Z rfl;have c:=hv.x.len;have e:=hv.r.len;have f:=hv.a.len;refine Ret.condF rfl (Ret.cond (fun _=>Ret.ok (Ret.condT rfl (Ret.ok rfl))) fun c2=>Ret.cond (fun _=>Ret.ok (Ret.condT rfl (Ret.ok rfl))) fun c3=>Ret.ok (Ret.condF rfl ?_));have c2:=AbM c2;have c3:=AbM c3;rw[AUi (by omega) (by omega) (by omega),bindS];dsimp only;refine B9 (Q':=fun l=>l.Perm d.reports) ?_ fun l1 p1=>B9 (Q':=fun l=>l.Perm d.disputes) ?_ fun l2 p2=>B9 (Q':=fun l=>l.Perm d.answers) ?_ fun l3 p3=>?_
 . refine C3 d.reports.length (fun n (t:Int×List Report)=>t.1=n/\t.2.Perm d.reports) ⟨rfl,Ab6 _⟩ ?_ ?_
   . rintro n J ⟨_,l⟩ ⟨rfl,H⟩;dsimp only at H ⊢;have hl:=H.length_eq;refine Ret.condT (Y8 J) (B9 (AIR C (by omega)) fun z U=>Ret.bind (Ret.chk (by omega) (ANB (by omega) U.1 (by omega) fun l' I=>Ret.bind (Ret.chk (by omega) (Ret.next ⟨by dsimp only;omega,I.trans H⟩)))))
   . rintro⟨_,l⟩ ⟨rfl,H⟩;exact Ret.condF (Y9 (AbQ _)) (Ret.done H)
 . refine C3 d.disputes.length (fun n (t:Int×List Dispute)=>t.1=n/\t.2.Perm d.disputes) ⟨rfl,Ab6 _⟩ ?_ ?_
   . rintro n J ⟨_,l⟩ ⟨rfl,H⟩;dsimp only at H ⊢;have hl:=H.length_eq;refine Ret.condT (Y8 J) (Ret.bind (Ret.chk (by omega) (B9 (AIR C (by omega)) fun z U=>Ret.bind (Ret.chk (by omega) (ANB (by omega) U.1 (by omega) fun l' I=>Ret.bind (Ret.chk (by omega) (Ret.next ⟨by dsimp only;omega,I.trans H⟩)))))))
   . rintro⟨_,l⟩ ⟨rfl,H⟩;exact Ret.condF (Y9 (AbQ _)) (Ret.done H)
 . refine C3 d.answers.length (fun n (t:Int×List Answer)=>t.1=n/\t.2.Perm d.answers) ⟨rfl,Ab6 _⟩ ?_ ?_
   . rintro n J ⟨_,l⟩ ⟨rfl,H⟩;dsimp only at H ⊢;have hl:=H.length_eq;refine Ret.condT (Y8 J) (Ret.bind (Ret.chk (by omega) (B9 (AIR C (by omega)) fun z U=>Ret.bind (Ret.chk (by omega) (ANB (by omega) U.1 (by omega) fun l' I=>Ret.bind (Ret.chk (by omega) (Ret.next ⟨by dsimp only;omega,I.trans H⟩)))))))
   . rintro⟨_,l⟩ ⟨rfl,H⟩;exact Ret.condF (Y9 (AbQ _)) (Ret.done H)
 have p:Pm d (Desk.mk (Terms.mk d.terms.answer d.terms.mark d.terms.lately) l1 l2 l3):=⟨rfl,p1,p2,p3⟩;have hy:=p.vd hv;generalize Desk.mk (Terms.mk d.terms.answer d.terms.mark d.terms.lately) l1 l2 l3=y at p hy;have hd:0<=day/\day<=100000:=⟨X,G⟩;refine B9 (AFi hv hd) fun z U=>B9 (AFi hy hd) fun z' V=>B9 (AGg hv R hd) fun q P=>B9 (AGg hy R hd) fun q' Y=>?_;have T:q'=q:=AUj hv (p.lt hv hd Y) P;subst T;obtain⟨q1,q2⟩:=q';dsimp only;rw[AMl hv hd,bindS,AMl hy hd,p.fct hv,p.mark hv,bindS];generalize (if (fct d.reports report).isSome then(AC5 d report day,0) else(0,6))=mk
 obtain⟨m1,m2⟩:=mk;refine B9 (APP hv hd) fun x hx=>B9 (APP hy hd) fun x' W=>?_;obtain⟨x1,x2⟩:=x;obtain⟨x1',x2'⟩:=x';obtain⟨rfl,hx⟩:=hx;obtain⟨rfl,W⟩:=W;have O:x1'=x1:=AM2 hv (p.dues hv W) hx;subst O;have Q:x1'.length<=1000000:=by
  obtain⟨m,g,_,rfl⟩:=hx;rw[Abd];exact AbP (Ab1 ..) (by rw[g.length_eq];omega)
 have E:=AWj hv R.len P;dsimp only at E ⊢;have F:z.2=z'.2:=by
  rcases p.fol hv U V with⟨rfl,rfl⟩|⟨m,rfl,rfl⟩<;>rfl
 rw[F];refine Ret.bind (Ret.condF (by simp) (Ret.condF (by simp) ?_));rw[AGi E,bindS];refine Ret.condF rfl (Ret.condF (by simp) (Ret.condF (by simp) (Ret.condF (by simp) ?_)));rw[AGj Q,bindS];refine Ret.ok (Ret.condF rfl ?_);have K:=U;have D:=V;rcases p.fol hv U V with⟨rfl,rfl⟩|⟨m,rfl,rfl⟩
 . exact Ret.condT rfl (Ret.bind (Ret.condT rfl (Ret.ok (Ret.ok rfl))))
 refine Ret.condF rfl ?_;have v1:=AGf hv K rfl;have v2:=AGf hy D rfl;have A:∀r,r∈d.reports++m↔r∈y.reports++m:=fun r=>((p.r.append_right m).mem_iff).symm;obtain⟨o1,s1,st1,sb1,e1,e2⟩:=AOG v1 (a:=id) (day:=day) (known:=day) ⟨by omega,by omega⟩ hd hd;obtain⟨o2,s2,st2,sb2,e3,e4⟩:=AOG v2 (a:=id) (day:=day) (known:=day) ⟨by omega,by omega⟩ hd hd;have M:o1=o2:=St.uniq v2 (known:=day) (a:=o1) (b:=o2) (AUt v1 v2 A st1) st2;subst M;have L:s1=s2:=by
  have:=e1.symm.trans e3;cases this;rfl
 subst L;refine Y7 e2 (Y7 e4 ?_);dsimp only;refine Ret.bind (Ret.condT rfl (Ret.condT (AbL (by simp only[List.length_append];rw[p.r.length_eq])) (Ret.condT rfl (Ret.condT rfl ?_))));rw[APh sb1,bindS];exact Ret.ok (Ret.ok rfl)
end S
end Go.Proofs.YtgioiejbphljoaaGreatDoor
end
