/-
  Part DisputeExamples 9 of the texts that the statement's proof stands on: what memory holds, how code is walked, what the functions reckon. In the order in which they build.
-/
import Derived.RangeFuncNested
import Derived.Test.YtgioiejbphljoaaGreatDoorEbDisputeExamples8
open List (mem_append mem_cons mem_map mem_singleton toArray)
open Nat (beq blt)
open Go.Proofs.Tryz
set_option linter.unusedVariables false
set_option linter.unusedSectionVars false
set_option maxRecDepth 20000
set_option maxHeartbeats 4000000
noncomputable section
namespace Go.Proofs.YtgioiejbphljoaaGreatDoor
open Go Go.Sx Go.Rx Go.RowKit
def F4(d:Desk)(day:Int):Option (Desk_99×Int):=(G3 d).bind fun (r1,r2)=>Option.bind (α:=Bool) (cond (decide (r2=0)) ((D9 (0:Int) (100000:Int) ([day])).bind fun r4=>some (!r4)) (some false)) ((fun x5=>Option.bind (α:=Int) (cond (x5) (some (2:Int)) (some r2)) ((fun x6=>some (r1,x6)))))
def AXJ:An:=.nd .x (.nd .x (.nd (.nd (.jn [.norm ⟨[(.slot 20,.d .bool)],[6,4]⟩] .x) (.jn [.norm ⟨[(.slot 7,.d (.int .i64))],[6,4]⟩] .x)) .x))
def ctr40:Ctr:=⟨[.d (.st 4),.d (.int .i64)],[.d (.st 10),.d (.int .i64)],fun a=>F4 a.1 a.2.1⟩
theorem ok40:Ctr.ok prog 40 ctr40:=B3 (G:={ gxb with fs:=[(44,ctr44),(70,ctr70)] }) (an:=AXJ) (B4 ⟨⟨ok44,call44⟩,⟨ok70,call70⟩,trivial⟩) func40 rfl rfl rfl rfl (fun a=>by kernel_rfl)
def T4(slices:(List (List Report))):Option (List Report):=(C0 (S:=(Int×Int)) (R:=Int) (fun (x6,x7)=>cond (decide (x6<(slices.length:Int))) ((ixo slices x6).bind fun y8=>(chk .i64 (x7+(y8.length:Int))).bind fun n9=>cond (decide (n9<0)) (none) ((chk .i64 (x6+1)).bind fun n10=>some (Sum.inl (n10,n9)))) (some (Sum.inr x7))) ((0:Int),(0:Int))).bind ((fun x11=>(N3 () x11).bind fun r12=>(C0 (S:=(Int×(List Report))) (R:=((List Report))) (fun (x18,x19)=>cond (decide (x18<(slices.length:Int))) ((ixo slices x18).bind fun y20=>(appo 64 x19 y20).bind fun l21=>(chk .i64 (x18+1)).bind fun n22=>some (Sum.inl (n22,l21))) (some (Sum.inr x19))) ((0:Int),r12)).bind ((fun x23=>some x23))))
def AXK:An:=.nd .x (.nd .x (.nd (.nd .x (.lp ⟨[(.slot 11,.d (.int .i64)),(.slot 3,.d (.int .i64))],[]⟩ [.exit 0 ⟨[(.slot 3,.d (.int .i64))],[]⟩] .x)) (.nd .x (.nd (.nd .x (.lp ⟨[(.slot 27,.d (.int .i64)),(.slot 6,.own (.sl 45 (.st 1)))],[]⟩ [.exit 2 ⟨[(.slot 6,.own (.sl 45 (.st 1)))],[]⟩] .x)) .x))))
def ctr80:Ctr:=⟨[.d (.sl (.sl (.st 1)))],[.own (.sl 45 (.st 1))],fun a=>T4 a.1⟩
theorem ok80:Ctr.ok prog 80 ctr80:=B3 (G:={ gxb with fs:=[(120,ctr120)] }) (an:=AXK) (B4 ⟨⟨ok120,call120⟩,trivial⟩) func80 rfl rfl rfl rfl (fun a=>by kernel_rfl)
def T5(l:List Report)(day:Int):Option (A4 Int Report):=(M3 l day).bind fun (r1,r2)=>(C0 (S:=(Int×(A4 Int Report))) (R:=((A4 Int Report))) (fun (x10,x11)=>cond (decide (x10<(r1.length:Int))) ((ixo r1 x10).bind fun y12=>(chk .i64 (x10+1)).bind fun n13=>some (Sum.inl (n13,(B5 x11 y12.id y12)))) (some (Sum.inr x11))) ((0:Int),(fnone:(A4 Int Report)))).bind ((fun x14=>some x14))
def AXL:An:=.nd .x (.nd .x (.nd .x (.nd (.nd .x (.lp ⟨[(.slot 19,.d (.int .i64)),(.cont 10,.own (.mp 3 (.int .i64) (.st 1)))],[14,10]⟩ [.exit 0 ⟨[(.cont 10,.own (.mp 3 (.int .i64) (.st 1)))],[10]⟩] .x)) .x)))
def ctr46:Ctr:=⟨[.d (.sl (.st 1)),.d (.int .i64)],[.own (.mp 3 (.int .i64) (.st 1))],fun a=>T5 a.1 a.2.1⟩
theorem ok46:Ctr.ok prog 46 ctr46:=B3 (G:={ gxb with fs:=[(29,ctr29)] }) (an:=AXL) (B4 ⟨⟨ok29,call29⟩,trivial⟩) func46 rfl rfl rfl rfl (fun a=>by kernel_rfl)
def J8(d:Desk)(day:Int):Option ((List Int)×Int):=(F4 d day).bind fun (r1,r2)=>cond ((!decide (r2=0))) (some (([]:List Int),r2)) ((O9 r1.desk.disputes).bind fun r3=>(H3 ([(60:Nat),(61:Nat)]) r3).bind fun (_,m4)=>(C0 (S:=(Int×(List Int))) (R:=((List Int))) (fun (x13,x14)=>cond (decide (x13<(m4.length:Int))) ((ixo m4 x13).bind fun y15=>(F8 r1 y15 day).bind fun (r16,r17)=>Option.bind (α:=((List Int))) (cond (decide (r16=1)) ((appo 8 x14 ([y15.id])).bind fun l18=>some l18) (some x14)) ((fun x19=>(chk .i64 (x13+1)).bind fun n20=>some (Sum.inl (n20,x19))))) (some (Sum.inr x14))) ((0:Int),([]:List Int))).bind ((fun x21=>some (x21,(0:Int)))))
def AXM:An:=.nd .x (.nd .x (.nd .x (.nd .x (.nd (.nd .x (.lp ⟨[(.slot 29,.d (.int .i64)),(.slot 8,.own (.sl 3 (.int .i64)))],[25,6]⟩ [.exit 0 ⟨[(.slot 8,.own (.sl 3 (.int .i64)))],[]⟩] (.nd .x (.nd .x (.nd (.nd .x (.nd .x (.nd .x (.jn [.norm ⟨[(.slot 8,.own (.sl 3 (.int .i64)))],[25,6]⟩] .x)))) .x))))) .x))))
def ctr24:Ctr:=⟨[.d (.st 4),.d (.int .i64)],[.own (.sl 3 (.int .i64)),.d (.int .i64)],fun a=>J8 a.1 a.2.1⟩
theorem ok24:Ctr.ok prog 24 ctr24:=B3 (G:={ gxb with fs:=[(40,ctr40),(57,ctr57),(59,ctr59),(60,ctr60),(61,ctr61)],fm:=[(58,ctrm58)] }) (an:=AXM) (ACp ⟨⟨ok40,call40⟩,⟨ok57,call57⟩,⟨ok59,call59⟩,⟨ok60,call60⟩,⟨ok61,call61⟩,trivial⟩ trivial ⟨⟨okm58,call58⟩,trivial⟩) func24 rfl rfl rfl rfl (fun a=>by kernel_rfl)
def J1(d:Desk)(id:Int)(day:Int):Option (Int×Int×Int):=(F4 d day).bind fun (r1,r2)=>cond ((!decide (r2=0))) (some ((0:Int),(0:Int),r2)) ((V2 r1.desk.disputes (fun a3=>Q9 a3 id)).bind fun r4=>cond (decide (r4<0)) (some ((0:Int),(0:Int),(6:Int))) ((ixo r1.desk.disputes r4).bind fun y5=>(F8 r1 y5 day).bind fun (r6,r7)=>some (r6,r7.day,(0:Int))))
def AXN:An:=.x
def ctr23:Ctr:=⟨[.d (.st 4),.d (.int .i64),.d (.int .i64)],[.d (.int .u8),.d (.int .i64),.d (.int .i64)],fun a=>J1 a.1 a.2.1 a.2.2.1⟩
theorem ok23:Ctr.ok prog 23 ctr23:=B3 (G:={ gxb with fs:=[(40,ctr40),(55,ctr55),(56,ctr56),(57,ctr57)] }) (an:=AXN) (B4 ⟨⟨ok40,call40⟩,⟨ok55,call55⟩,⟨ok56,call56⟩,⟨ok57,call57⟩,trivial⟩) func23 rfl rfl rfl rfl (fun a=>by kernel_rfl)
def X5(id:Int)(day:Int)(where_:Int)(decided:Int):Option Bool:=(Z9).bind fun r1=>(J1 r1 id day).bind fun (r2,r3,r4)=>Option.bind (α:=Bool) (cond (decide (r4=0)) (cond (decide (r2=where_)) (some (decide (r3=decided))) (some false)) (some false)) ((fun x5=>some x5))
def AXO:An:=.nd .x (.nd .x (.nd (.jn [.norm ⟨[(.slot 8,.d .bool)],[]⟩] .x) .x))
def ctr31:Ctr:=⟨[.d (.int .i64),.d (.int .i64),.d (.int .u8),.d (.int .i64)],[.d .bool],fun a=>X5 a.1 a.2.1 a.2.2.1 a.2.2.2.1⟩
theorem ok31:Ctr.ok prog 31 ctr31:=B3 (G:={ gxb with fs:=[(23,ctr23),(33,ctr33)] }) (an:=AXO) (B4 ⟨⟨ok23,call23⟩,⟨ok33,call33⟩,trivial⟩) func31 rfl rfl rfl rfl (fun a=>by kernel_rfl)
def O0(d:Desk)(report:Int)(day:Int):Option (Int×Int):=(F4 d day).bind fun (r1,r2)=>cond ((!decide (r2=0))) (some ((0:Int),r2)) (cond ((!((r1.facts report).isSome))) (some ((0:Int),(6:Int))) ((C0 (S:=(Int×Int)) (R:=Int) (fun (x20,x21)=>cond (decide (x21<(r1.desk.disputes.length:Int))) (Option.bind (α:=((Int)⊕(Int))) ((ixo r1.desk.disputes x21).bind fun y22=>cond ((!decide (y22.report=report))) (some (Sum.inl x20)) ((F8 r1 y22 day).bind fun (r23,r24)=>cond (decide (r23=1)) (some (Sum.inr r23)) (Option.bind (α:=Bool) (cond (decide (r23=2)) ((chk .i64 (day-r24.day)).bind fun n25=>some (decide (n25<=r1.desk.terms.mark))) (some false)) ((fun x26=>Option.bind (α:=Int) (cond (x26) (some r23) (some x20)) ((fun x27=>some (Sum.inl x27)))))))) ((Sum.elim (fun x28=>(chk .i64 (x21+1)).bind fun n29=>some (Sum.inl (x28,n29))) (fun x30=>some (Sum.inr x30))))) (some (Sum.inr x20))) ((0:Int),(0:Int))).bind ((fun x31=>some (x31,(0:Int))))))
def AXP:An:=.nd .x (.nd .x (.nd .x (.nd .x (.nd .x (.nd .x (.nd (.nd .x (.lp ⟨[(.slot 12,.d (.int .u8)),(.slot 39,.d (.int .i64))],[8]⟩ [.exit 0 ⟨[(.slot 12,.d (.int .u8))],[]⟩] (.nd .x (.nd .x (.nd (.jn [.norm ⟨[(.slot 12,.d (.int .u8))],[8]⟩,.exit 0 ⟨[(.slot 12,.d (.int .u8))],[]⟩] (.nd .x (.nd .x (.nd .x (.nd .x (.nd .x (.nd (.jn [.norm ⟨[(.slot 58,.d .bool)],[8]⟩] .x) (.jn [.norm ⟨[(.slot 12,.d (.int .u8))],[8]⟩] .x)))))))) .x))))) .x))))))
def ctr28:Ctr:=⟨[.d (.st 4),.d (.int .i64),.d (.int .i64)],[.d (.int .u8),.d (.int .i64)],fun a=>O0 a.1 a.2.1 a.2.2.1⟩
theorem ok28:Ctr.ok prog 28 ctr28:=B3 (G:={ gxb with fs:=[(40,ctr40),(57,ctr57)] }) (an:=AXP) (B4 ⟨⟨ok40,call40⟩,⟨ok57,call57⟩,trivial⟩) func28 rfl rfl rfl rfl (fun a=>by kernel_rfl)
def M4(id:Int)(day:Int)(mark:Int):Option Bool:=(Z9).bind fun r1=>(O0 r1 id day).bind fun (r2,r3)=>Option.bind (α:=Bool) (cond (decide (r3=0)) (some (decide (r2=mark))) (some false)) ((fun x4=>some x4))
def AXQ:An:=.nd .x (.nd .x (.nd (.jn [.norm ⟨[(.slot 6,.d .bool)],[]⟩] .x) .x))
def ctr32:Ctr:=⟨[.d (.int .i64),.d (.int .i64),.d (.int .u8)],[.d .bool],fun a=>M4 a.1 a.2.1 a.2.2.1⟩
theorem ok32:Ctr.ok prog 32 ctr32:=B3 (G:={ gxb with fs:=[(28,ctr28),(33,ctr33)] }) (an:=AXQ) (B4 ⟨⟨ok28,call28⟩,⟨ok33,call33⟩,trivial⟩) func32 rfl rfl rfl rfl (fun a=>by kernel_rfl)
def E3(d:Desk):Option Int:=(G3 d).bind fun (r1,r2)=>some r2
def AXR:An:=.x
def ctr34:Ctr:=⟨[.d (.st 4)],[.d (.int .i64)],fun a=>E3 a.1⟩
theorem ok34:Ctr.ok prog 34 ctr34:=B3 (G:={ gxb with fs:=[(70,ctr70)] }) (an:=AXR) (B4 ⟨⟨ok70,call70⟩,trivial⟩) func34 rfl rfl rfl rfl (fun a=>by kernel_rfl)
end Go.Proofs.YtgioiejbphljoaaGreatDoor
namespace Go.Proofs.YtgioiejbphljoaaGreatDoor
open Go Go.Sx Go.Rx
namespace S
def AJR{α:Type}(l:List α)(id:α->Option Int)(right:α->Option Bool):Option Bool:=(C0 (S:=(Int×(A4 Int Bool))) (R:=(Unit⊕Bool)) (fun (x16,x17)=>cond (decide (x16<(l.length:Int))) ((ixo l x16).bind fun y18=>Option.bind (α:=Bool) ((right y18).bind fun y19=>cond ((!y19)) (some true) ((id y18).bind fun y20=>some ((x17 y20).getD false))) ((fun x21=>cond (x21) (some (Sum.inr (Sum.inr false))) ((id y18).bind fun y22=>(chk .i64 (x16+1)).bind fun n23=>some (Sum.inl (n23,(B5 x17 y22 true))))))) (some (Sum.inr (Sum.inl ())))) ((0:Int),(fnone:(A4 Int Bool)))).bind ((Sum.elim (fun _=>some true) (fun r24=>some r24)))
variable{α:Type}{k:α->Int}{D:Desk_99}
theorem AV9{l:List α}(h:(l.map k).Nodup){n:Nat}(H:n<l.length):∀x∈l.take n,k x≠k l[n]:=fun x hx=>by
 rw[List.Nodup,AZB,AYt]at h;obtain⟨i,hi,rfl⟩:=List.mem_take_iff_getElem.1 hx;exact h i n (by omega) H (by omega)
theorem AIO{l:List α}{id:α->Option Int}{right:α->Option Bool}(hl:l.length<=1000000)(U:∀x∈l,right x=some true)(I:∀x,id x=some (k x))(J:(l.map k).Nodup):AJR l id right=some true:=by
 refine Ret.eq ?_;unfold AJR;refine Ret.bind (C2 l.length (fun n (t:Int×A4 Int Bool)=>t.1=n/\∀i,(∀x∈l.take n,k x≠i)->t.2 i=none) ⟨rfl,fun i _=>rfl⟩ ?_ ?_)
 . rintro n H ⟨_,m⟩ ⟨rfl,hm⟩;dsimp only at hm;refine Ret.condT (Y9 H) (Ret.bind (O4 H (Ret.bind (V7 (U _ (AYJ H)) (Ret.condF rfl (V7 (I _) (Ret.ok ?_)))))));rw[hm _ (AV9 J H)];refine Ret.condF rfl (V7 (I _) (Ret.bind (Ret.chk (by omega) (Ret.next ⟨by dsimp only;omega,fun i hi=>?_⟩))));dsimp only[B5];rw[if_neg (fun e=>hi l[n] ((C4 H).2 (.inr rfl)) e.symm)];exact hm i fun x hx=>hi x ((C4 H).2 (.inl hx))
 . rintro⟨_,m⟩ ⟨rfl,hm⟩;exact Ret.condF (Z0 (AYE _)) (Ret.done (C8 (Ret.ok rfl)))
def Fc(d:Desk)(f:A4 Int Report):Prop:=∀i,f i=fct d.reports i
theorem AOl{l:List Report}(J:AET l){i:Int}{r:Report}:fct l i=some r↔r∈l/\r.kind<=7/\r.id=i:=by
 constructor
 . intro h;obtain⟨I,H,U⟩:=ABO h;exact⟨I,U,H⟩
 . rintro⟨I,H,rfl⟩;exact ATu J I H
theorem AQv{d:Desk}(V:VL d.reports):Ret (H7 d) (Fc d):=by
 have hl:=V.len;unfold H7;refine Ret.bind (C2 d.reports.length (fun n (t:Int×A4 Int Report)=>t.1=n/\∀i r,t.2 i=some r↔r∈d.reports.take n/\r.kind<=7/\r.id=i) ⟨rfl,fun i r=>by simp[fnone]⟩ ?_ ?_)
 . rintro n H ⟨_,m⟩ ⟨rfl,hm⟩;dsimp only at hm;refine Ret.condT (Y9 H) (Ret.bind (O4 H (Ret.bind (Ret.cond (fun h=>?_) fun h=>?_))))
   . have h:=AX6 h;refine Ret.ok (Ret.bind (Ret.chk (by omega) (Ret.next ⟨by dsimp only;omega,fun i r=>?_⟩)));rw[C4 H];dsimp only[B5];by_cases e:i=d.reports[n].id
     . subst e;rw[AYB rfl];constructor
       . intro h;cases h;exact⟨.inr rfl,h,rfl⟩
       . rintro⟨I|I,J,U⟩
         . rw[V.cons r (AZC I) _ (AYJ H) U]
         . rw[I]
     . rw[if_neg e,hm];constructor
       . rintro⟨I,J⟩;exact⟨.inl I,J⟩
       . rintro⟨I|rfl,J,U⟩
         . exact⟨I,J,U⟩
         . exact absurd U.symm e
   . have h:=AYD h;refine Ret.ok (Ret.bind (Ret.chk (by omega) (Ret.next ⟨by dsimp only;omega,fun i r=>?_⟩)));rw[C4 H,hm];constructor
     . rintro⟨I,J⟩;exact⟨.inl I,J⟩
     . rintro⟨I|rfl,J,U⟩
       . exact⟨I,J,U⟩
       . exact absurd J h
 . rintro⟨_,m⟩ ⟨rfl,hm⟩;dsimp only at hm;rw[AYL]at hm;refine Ret.condF (Z0 (AYE _)) (Ret.done (Ret.ok fun i=>?_));apply Option.ext;intro r;rw[hm,AOl V.cons]
def An(d:Desk)(h:A4 Int (List Answer)):Prop:=∀i,(h i).getD []=d.answers.filter fun a=>decide (a.dispute=i)
theorem AMC:∀(l pre:List Answer) (h:A4 Int (List Answer)),(∀i,(h i).getD []=pre.filter fun a=>decide (a.dispute=i))->pre.length+l.length<=1000000->∃I,AIL l h=some I/\∀i,(I i).getD []=(pre++l).filter fun a=>decide (a.dispute=i)
 |[],pre,h,H,_=>⟨h,rfl,by simpa using H⟩
 |a::l,pre,h,H,hl=>by
  have U:((h a.dispute).getD []).length<=pre.length:=by rw[H];exact AY9 ..
  have W:pre.length+l.length+1<=1000000:=by simpa[Nat.add_assoc] using hl
  have e:appo 48 ((h a.dispute).getD []) [a]=some ((h a.dispute).getD []++[a]):=ACF (by simp only[List.length_singleton];omega) (by simp only[List.length_singleton];omega);have V:∀i,(B5 h a.dispute ((h a.dispute).getD []++[a]) i).getD []=(pre++[a]).filter fun a=>decide (a.dispute=i):=fun i=>by
   dsimp only[B5];rw[AZq];by_cases e:i=a.dispute
   . subst e;rw[AYB rfl];simp[H]
   . rw[if_neg e,H];have e2:¬a.dispute=i:=fun h=>e h.symm;simp[e2]
  obtain⟨I,e',J⟩:=AMC l (pre++[a]) (B5 h a.dispute ((h a.dispute).getD []++[a])) V (by simp;omega);refine⟨I,?_,fun i=>by rw[J,AYU];rfl⟩;unfold AIL;rw[e,bindS,e']
theorem AWA(h:TV D.desk.terms):C5 D=some 0:=by
 obtain⟨t1,t2,t3⟩:=h;unfold C5;rw[d_in1,d_in2,F9 t1,F9 t2,F9 t3];rfl
theorem AWB(h:VL D.desk.reports):D5 D=some 0:=by
 unfold D5;rw[AIK h];rfl
theorem AWC(h:Vd D.desk)(C:Fc D.desk D.facts):D6 D=some 0:=by
 obtain⟨⟨t1,t2,t3⟩,V,hx,_⟩:=h;have hl:=V.len;have W:=hx.len;refine Ret.eq ?_;unfold D6;refine Ret.bind (C2 D.desk.reports.length (fun n (t:Int×A4 Int Bool)=>t.1=n/\∀i,(∀x∈D.desk.reports.take n,x.id≠i)->t.2 i=none) ⟨rfl,fun i _=>rfl⟩ ?_ ?_)
 . rintro n H ⟨_,m⟩ ⟨rfl,hm⟩;dsimp only at hm;refine Ret.condT (Y9 H) (Ret.bind (O4 H (Ret.bind (Ret.chk (by omega) (Ret.next ⟨by dsimp only;omega,fun i hi=>?_⟩)))));dsimp only[B5];rw[if_neg (fun e=>hi _ ((C4 H).2 (.inr rfl)) e.symm)];exact hm i fun x hx=>hi x ((C4 H).2 (.inl hx))
 rintro⟨_,m⟩ ⟨rfl,hm⟩;dsimp only at hm;rw[AYL]at hm;refine Ret.condF (Z0 (AYE _)) (Ret.done (Ret.bind (Ret.condF (AX8 (by omega)) ?_)));have U:N1 D.desk.disputes (fun a16=>I6 a16) (fun a17=>D8 a17 D m)=some true:=AIO (k:=(·.id)) (by omega) (fun x I=>?_) (fun _=>rfl) hx.nd
 . rw[U];exact Ret.ok (Ret.ok rfl)
 . obtain⟨v1,v2,f,J,v3,v4⟩:=hx.v x I;refine Ret.eq ?_;unfold D8;rw[C,J];have v2:=hm x.id v2;refine Ret.bind (Ret.condT rfl ?_);dsimp only[Option.getD_some];rw[d_in1,F9 v1,bindS,v2];refine Ret.condT rfl (Ret.condT rfl (Ret.bind (Ret.chk (by omega) (Ret.bind (Ret.chk (by omega) ?_)))));rw[d_in1,F9 (show _/\_ from⟨v3,by omega⟩)];exact Ret.ok (Ret.ok rfl)
theorem AWD(h:Vd D.desk)(Q:Fc D.desk D.facts):F1 D=some 0:=by
 obtain⟨⟨t1,t2,t3⟩,W,hx,U⟩:=h;have K:=hx.len;have O:=U.len;have F:P3 D.desk.answers (fun a4=>N6 a4) (fun a5=>F6 a5 D)=some true:=AIO (k:=(·.id)) (by omega) (fun a C=>?_) (fun _=>rfl) U.nd
 . unfold F1;rw[AX8 (by omega),F];rfl
 . obtain⟨v1,v2,v3,x,I,v4,v5,v6⟩:=U.v a C;refine Ret.eq ?_;unfold F6;refine Ret.bind ?_;refine(AHf (s:=D.desk.disputes) (f:=fun a1=>J0 a1 a) (fun _ _=>rfl) (by omega) (fun h=>?_) fun k hk h Y=>?_:Ret (AGl _ _) _)
   . have:=AYD (h x I);exact absurd v4 this
   have h:=AX6 h;have V:D.desk.disputes[k]=x:=by
    have hnd:=hx.nd;rw[List.Nodup,AZB,AYt]at hnd;obtain⟨j,E,rfl⟩:=AZK I;rcases AZt k j with e|e|e
    . exact absurd (h.trans v4.symm) (hnd k j hk E e)
    . subst e;rfl
    . exact absurd (v4.trans h.symm) (hnd j k E hk e)
   refine Ret.bind (Ret.condF (AX8 (by omega)) ?_);have vab:0<=a.about/\a.about<=100000:=by
    by_cases e:a.says=2
    . obtain⟨_,_,f,H,_⟩:=hx.v x I;exact(v6 e f H).1
    . have:=(v5 e).1;omega
   rw[d_in1,F9 v1,bindS];refine Ret.condF rfl ?_;rw[d_in2,F9 v2,F9 vab,bindS];refine Ret.ok (Ret.condF rfl (Ret.bind (O4 hk ?_)));rw[V];by_cases e:a.says=2
   . obtain⟨_,_,f,H,_⟩:=hx.v x I;refine Ret.bind (Ret.condF (AX8 (by omega)) (Ret.ok ?_));rw[AX8 (show ¬a.says=3 by omega)];refine Ret.condF rfl (Ret.condT (AYA e) ?_);rw[Q,H];obtain⟨w1,w2,w3⟩:=v6 e f H;have J:=ABO H;obtain⟨u1,u2,u3,u4,u5,u6,u7,u8,u9,u10,u11⟩:=W.v f J.1;rw[AIK (l:=[_]) ⟨by simp,fun r W=>?_,fun a U b T _=>?_⟩,bindS]
     . exact Ret.ok rfl
     . rw[mem_singleton.1 W];exact⟨u1,u2,u3,u4,u5,u6,w1,⟨w2,w3⟩,u9,u10,fun h=>by have:=J.2.2;dsimp only[Option.getD_some]at h;omega⟩
     . rw[mem_singleton.1 U,mem_singleton.1 T]
   . obtain⟨w1,w2⟩:=v5 e;refine Ret.bind (Ret.val (a:=true) ?_ (Ret.condT rfl (Ret.bind (Ret.condT (AYA w1) (Ret.ok (Ret.ok (AYA w2)))))));by_cases e1:a.says=1
     . rw[AYA e1];rfl
     . rw[AX8 e1,AYA (show a.says=3 by omega)];rfl
structure Dw(d:Desk)(D:Desk_99):Prop where
 d:D.desk=d
 f:Fc D.desk D.facts
 a:An D.desk D.answers
theorem AMD{d:Desk}(h:Vd d):∃D,G3 d=some (D,0)/\Dw d D:=by
 obtain⟨f,U,H⟩:=AQv h.r;have J:=h.a.len;obtain⟨V,e',I⟩:=AMC d.answers [] fnone (fun i=>rfl) (by simp;omega);refine⟨⟨d,f,V⟩,?_,rfl,H,I⟩;unfold G3;rw[U,bindS];have s1:=AWA (D:=⟨d,f,fnone⟩) h.t;have s2:=AWB (D:=⟨d,f,fnone⟩) h.r;have s3:=AWC (D:=⟨d,f,fnone⟩) h H;have s4:=AWD (D:=⟨d,f,fnone⟩) h H;have:AAq ⟨d,f,fnone⟩ 0 4=some 0:=by
  show (C5 _).bind _=_;rw[s1,bindS,AYB rfl];show (D5 _).bind _=_;rw[s2,bindS,AYB rfl];show (D6 _).bind _=_;rw[s3,bindS,AYB rfl];show (F1 _).bind _=_;rw[s4,bindS,AYB rfl];rfl
 rw[this,bindS,AYB rfl,e'];rfl
theorem ABP{d:Desk}(h:Vd d){day:Int}(hd:0<=day/\day<=100000):∃D,F4 d day=some (D,0)/\Dw d D:=by
 obtain⟨D,I,H⟩:=AMD h;refine⟨D,?_,H⟩;unfold F4;rw[I,bindS,d_in1,F9 hd];rfl
end S
namespace S
def R4(x y:Int):Int:=if x<y then -1 else if y<x then 1 else 0
theorem p_cmp{x y:Int}:D7 x y=some (R4 x y):=by
 unfold D7 Y6 R4;by_cases h:x<y
 . simp[h]
 . by_cases H:y<x
   . simp[h,H]
   . simp[h,H]
theorem p_Or{a b:Int}:Z8 [a,b]=some (if a=0 then b else a):=by
 refine Ret.eq ?_;unfold Z8;refine Ret.bind (Ret.loop (fun t:Int=>t=0\/t=1/\a=0\/t=2/\a=0/\b=0) (fun t=>2-t.toNat) (.inl rfl) ?_);rintro _ (rfl|⟨rfl,rfl⟩|⟨rfl,rfl,rfl⟩)
 . refine Ret.condT rfl (Ret.bind (Ret.val (show ixo [a,b] 0=some a from rfl) ?_));by_cases c:a=0
   . rw[AYA c];exact Ret.condF rfl (Ret.bind (Ret.chk (by omega) (Ret.next ⟨.inr (.inl ⟨rfl,c⟩),by decide⟩)))
   . rw[AX8 c];exact Ret.condT rfl (Ret.done (E5 (Ret.ok (by rw[if_neg c]))))
 . refine Ret.condT rfl (Ret.bind (Ret.val (show ixo [0,b] 1=some b from rfl) ?_));by_cases c:b=0
   . rw[AYA c];exact Ret.condF rfl (Ret.bind (Ret.chk (by omega) (Ret.next ⟨.inr (.inr ⟨rfl,rfl,c⟩),by decide⟩)))
   . rw[AX8 c];exact Ret.condT rfl (Ret.done (E5 (Ret.ok (by rw[AYB rfl]))))
 . exact Ret.condF rfl (Ret.done (C8 (Ret.ok (by simp))))
def alt(a b:Answer):Bool:=decide (a.day<b.day\/a.day=b.day/\a.id<b.id)
theorem p_first{a b:Answer}:M6 a b=some (alt a b):=by
 unfold M6;rw[p_cmp,bindS,p_cmp,bindS,p_Or,bindS];congr 1;unfold alt R4;rw[Bool.eq_iff_iff,decide_eq_true_iff,decide_eq_true_iff];split<;>split<;>(try split)<;>(try split)<;>omega
def win(x:Dispute)(last:Int)(a:Answer):Bool:=inB x.day last a.day
def AEY(x:Dispute)(last:Int)(v:Verdict)(a:Answer):Verdict:=if win x last a&&(decide (v.is_=5)||alt a v.by_) then⟨a.day,a.says+1,a⟩ else v
def zeroA:Answer:=Answer.mk 0 0 0 0 0 0
def ANN(x:Dispute)(A:Int)(l:List Answer):Verdict:=l.foldl (AEY x (x.day+A)) ⟨x.day+A+1,5,zeroA⟩
def dec(d:Desk)(x:Dispute):Verdict:=ANN x d.terms.answer (d.answers.filter fun a=>decide (a.dispute=x.id))
theorem AQA{s:Int}(h:1<=s/\s<=3):(AFn s).getD 0=s+1:=by
 have:s=1\/s=2\/s=3:=by omega
 rcases this with rfl|rfl|rfl<;>rfl
theorem AHi{α β:Type}{f:β->α->β}{b:β}{l:List α}{n:Nat}(h:n<l.length):(l.take (n+1)).foldl f b=f ((l.take n).foldl f b) l[n]:=by
 rw[AAo h,AZw];rfl
theorem AQB{d:Desk}{D:Desk_99}(hD:Dw d D)(hv:Vd d){x:Dispute}(hx:x∈d.disputes):O6 D x=some (dec d x):=by
 have U:=hv.x.v x hx;have T:=hv.t.1;obtain⟨_,_,f,O,x1,x2⟩:=U;have K:=(hv.r.v f (ABO O).1).2.2.2.2.2.1;have V:=hv.a.len;have hd:=hD.d;refine Ret.eq ?_;unfold O6;rw[hD.a,hd];let aa:=d.answers.filter fun a=>decide (a.dispute=x.id);have C:aa.length<=40:=AYG (AY9 ..) V;have has:∀a∈aa,1<=a.says/\a.says<=3:=fun a Q=>(hv.a.v a (List.mem_filter.1 Q).1).2.2.1;show Ret (Option.bind _ _) (·=ANN x d.terms.answer aa);refine Ret.bind (Ret.chk (by omega) (Ret.bind (Ret.chk (by omega) (Ret.bind (C2 aa.length (fun n (t:Int×Int×Int×Int×Int×Int×Int×Int×Int)=>∃v:Verdict,v=(aa.take n).foldl (AEY x (x.day+d.terms.answer)) ⟨x.day+d.terms.answer+1,5,zeroA⟩/\t=((n:Int),v.day,v.is_,v.by_.id,v.by_.dispute,v.by_.day,v.by_.says,v.by_.about,v.by_.cents)) ⟨_,rfl,rfl⟩ ?_ ?_)))))
 . rintro n I _ ⟨v,H,rfl⟩;have F:=has _ (AYJ I);refine Ret.condT (Y9 I) (Ret.bind (Ret.val (a:=aa[n]) (AG2 (AX7 I)) (Ret.bind ?_)));rw[d_in1,bindS];have key:∀b:Bool,b=(win x (x.day+d.terms.answer) aa[n]&&(decide (v.is_=5)||alt aa[n] v.by_))->Ret (Option.bind (α:=(Int×Int×Int×Int×Int×Int×Int×Int)) (cond b (some (aa[n].day,((AFn aa[n].says).getD 0),aa[n].id,aa[n].dispute,aa[n].day,aa[n].says,aa[n].about,aa[n].cents)) (some (v.day,v.is_,v.by_.id,v.by_.dispute,v.by_.day,v.by_.says,v.by_.about,v.by_.cents))) ((fun (x52,x53,x54,x55,x56,x57,x58,x59)=>(chk .i64 ((n:Int)+1)).bind fun n60=>some (Sum.inl (n60,x52,x53,x54,x55,x56,x57,x58,x59))))) (Nxt (fun (t:Int×Int×Int×Int×Int×Int×Int×Int×Int)=>∃v:Verdict,v=(aa.take (n+1)).foldl (AEY x (x.day+d.terms.answer)) ⟨x.day+d.terms.answer+1,5,zeroA⟩/\t=(((n+1:Nat):Int),v.day,v.is_,v.by_.id,v.by_.dispute,v.by_.day,v.by_.says,v.by_.about,v.by_.cents)) (fun (r:Int×Int×Int×Int×Int×Int×Int×Int)=>Ret (some (Verdict.mk r.1 r.2.1 (Answer.mk r.2.2.1 r.2.2.2.1 r.2.2.2.2.1 r.2.2.2.2.2.1 r.2.2.2.2.2.2.1 r.2.2.2.2.2.2.2))) (·=ANN x d.terms.answer aa))):=fun b E=>by
    cases b with
    |true=>
     refine Ret.bind (Ret.condT rfl (Ret.ok (Ret.bind (Ret.chk (by omega) (Ret.next ⟨_,rfl,?_⟩)))))
     rw[AHi I,<-H]
     unfold AEY
     rw[AYB E.symm,AQA F]
     rfl
    |false=>
     refine Ret.bind (Ret.condF rfl (Ret.ok (Ret.bind (Ret.chk (by omega) (Ret.next ⟨_,rfl,?_⟩)))))
     rw[AHi I,<-H]
     unfold AEY
     rw[if_neg (by rw[<-E];decide)]
     rfl
   refine Ret.cond (fun J=>?_) fun J=>Ret.ok (key _ (by rw[show win x (x.day+d.terms.answer) aa[n]=false from J];rfl));have J:win x (x.day+d.terms.answer) aa[n]=true:=J;refine Ret.cond (fun W=>Ret.ok (key _ (by rw[J,W];rfl))) fun W=>?_;have e:(Answer.mk v.by_.id v.by_.dispute v.by_.day v.by_.says v.by_.about v.by_.cents)=v.by_:=rfl;rw[e,p_first,bindS];exact Ret.ok (key _ (by rw[J,W];rfl))
 . rintro _ ⟨v,H,rfl⟩;refine Ret.condF (Z0 (AYE _)) (Ret.done (Ret.ok ?_));rw[AYL]at H;show _=List.foldl _ _ _;rw[<-H]
structure DecL(x:Dispute)(A:Int)(l:List Answer)(v:Verdict):Prop where
 is5:v.is_=5->v=⟨x.day+A+1,5,zeroA⟩/\∀a∈l,win x (x.day+A) a=false
 by_:v.is_≠5->v=⟨v.by_.day,v.by_.says+1,v.by_⟩/\v.by_∈l/\win x (x.day+A) v.by_=true/\∀a∈l,win x (x.day+A) a=true->alt a v.by_=false
variable{x:Dispute}{d:Desk}{day:Int}{α:Type}{n:Nat}
theorem AR9{a b c:Answer}(H:alt a b=true)(I:alt c b=false):alt c a=false:=by
 unfold alt at *;rw[decide_eq_true_iff]at H;rw[decide_eq_false_iff_not]at *;omega
theorem AXS{A:Int}:∀(l:List Answer),(∀a∈l,1<=a.says/\a.says<=3)->DecL x A l (ANN x A l):=by
 have key:∀(l p:List Answer) (v:Verdict),(∀a∈l,1<=a.says/\a.says<=3)->DecL x A p v->DecL x A (p++l) (l.foldl (AEY x (x.day+A)) v):=by
  intro l;induction l with
  |nil=>intro p v _ h;simpa using h
  |cons a l ih=>
   intro p v U h
   have:p++a::l=(p++[a])++l:=by simp
   rw[this]
   refine ih _ _ (fun b H=>U b (AX0 _ H)) ?_
   have V:=U a (AX4 ..)
   unfold AEY
   by_cases c:(win x (x.day+A) a&&(decide (v.is_=5)||alt a v.by_))=true
   . rw[AYB c]
     rw[Bool.and_eq_true,Bool.or_eq_true]at c
     refine⟨fun I=>?_,fun _=>⟨rfl,mem_append.2 (.inr (mem_singleton.2 rfl)),c.1,fun b H J=>?_⟩⟩
     . have I:a.says+1=5:=I
       omega
     . show alt b a=false
       rcases mem_append.1 H with H|H
       . by_cases c5:v.is_=5
         . rw[(h.is5 c5).2 b H]at J;cases J
         . rcases c.2 with c2|c2
           . exact absurd (AX6 c2) c5
           . exact AR9 c2 ((h.by_ c5).2.2.2 b H J)
       . rw[mem_singleton.1 H]
         unfold alt
         exact AX8 (by omega)
   . rw[if_neg c]
     refine⟨fun I=>⟨(h.is5 I).1,fun b H=>?_⟩,fun I=>⟨(h.by_ I).1,mem_append.2 (.inl (h.by_ I).2.1),(h.by_ I).2.2.1,fun b H J=>?_⟩⟩
     . rcases mem_append.1 H with H|H
       . exact(h.is5 I).2 b H
       . rw[mem_singleton.1 H]
         rw[AYA I,Bool.true_or,Bool.and_true]at c
         simpa using c
     . rcases mem_append.1 H with H|H
       . exact(h.by_ I).2.2.2 b H J
       . rw[mem_singleton.1 H]at J ⊢
         rw[J,AX8 I,Bool.false_or,Bool.true_and]at c
         simpa using c
 intro l hl;have:=key l [] ⟨x.day+A+1,5,zeroA⟩ hl ⟨fun _=>⟨rfl,fun a V=>by cases V⟩,fun h=>absurd rfl h⟩;rw[AYR]at this;exact this
theorem AHj(hv:Vd d)(x:Dispute):DecL x d.terms.answer (d.answers.filter fun a=>decide (a.dispute=x.id)) (dec d x):=AXS _ fun a H=>(hv.a.v a (List.mem_filter.1 H).1).2.2.1
theorem ASA(hv:Vd d):x.day<=(dec d x).day/\(dec d x).day<=x.day+d.terms.answer+1:=by
 have J:=hv.t.1;have h:=AHj hv x;by_cases c:(dec d x).is_=5
 . rw[(h.is5 c).1];show _<=x.day+d.terms.answer+1/\x.day+d.terms.answer+1<=_;omega
 . obtain⟨I,_,H,_⟩:=h.by_ c;have H:=K9 H;rw[I];show _<=(dec d x).by_.day/\(dec d x).by_.day<=_;omega
theorem AFN(hv:Vd d)(hx:x∈d.disputes):0<=(dec d x).day/\(dec d x).day<=100000:=by
 obtain⟨_,_,f,I,x1,x2⟩:=hv.x.v x hx;have H:=(hv.r.v f (ABO I).1).2.2.2.2.2.1;have:=ASA hv (x:=x);omega
theorem AQC(hv:Vd d)(x:Dispute):2<=(dec d x).is_/\(dec d x).is_<=5:=by
 by_cases c:(dec d x).is_=5
 . omega
 . obtain⟨I,H,_⟩:=(AHj hv x).by_ c;have:=(hv.a.v _ (List.mem_filter.1 H).1).2.2.1;rw[I];show 2<=(dec d x).by_.says+1/\(dec d x).by_.says+1<=5;omega
def wh(d:Desk)(x:Dispute)(day:Int):Int:=if (dec d x).day<=day then(dec d x).is_ else if x.day<=day then 1 else 0
theorem AFr{D:Desk_99}(hD:Dw d D)(hv:Vd d)(hx:x∈d.disputes):F8 D x day=some (wh d x day,dec d x):=by
 unfold F8 wh;rw[AQB hD hv hx,bindS];by_cases c:(dec d x).day<=day
 . rw[AYA c,condT,AYB c]
 . rw[AX8 c,condF,if_neg c];by_cases c2:x.day<=day
   . rw[AYA c2,condT,AYB c2]
   . rw[AX8 c2,condF,if_neg c2]
theorem AOm{l:List α}{k:α->Int}(h:(l.map k).Nodup){x:α}(hx:x∈l)(H:n<l.length)(J:k l[n]=k x):l[n]=x:=by
 rw[List.Nodup,AZB,AYt]at h;obtain⟨j,I,rfl⟩:=AZK hx;rcases AZt n j with e|e|e
 . exact absurd J (h n j H I e)
 . subst e;rfl
 . exact absurd J.symm (h j n I H e)
theorem ASB(hv:Vd d)(hx:x∈d.disputes)(hd:0<=day/\day<=100000):J1 d x.id day=some (wh d x day,(dec d x).day,0):=by
 obtain⟨D,I,hD⟩:=ABP hv hd;have H:=hv.x.len;refine Ret.eq ?_;unfold J1;rw[I,bindS];refine Ret.condF (by decide) (Ret.bind ?_);rw[hD.d];refine(AHf (s:=d.disputes) (f:=fun a3=>Q9 a3 x.id) (fun _ _=>rfl) (by omega) (fun h=>?_) fun k hk h J=>?_:Ret (AGl _ _) _)
 . exact absurd rfl (AYD (h x hx))
 . refine Ret.condF (AX8 (by omega)) (Ret.bind (O4 hk ?_));rw[AOm hv.x.nd hx hk (AX6 h),AFr hD hv hx];exact Ret.ok rfl
def isO(d:Desk)(report day:Int)(x:Dispute):Bool:=decide (x.report=report)&&decide (wh d x day=1)
def isS(d:Desk)(report day:Int)(x:Dispute):Bool:=decide (x.report=report)&&(decide (wh d x day=2)&&decide (day-(dec d x).day<=d.terms.mark))
def AHk(d:Desk)(report day:Int):Int:=if d.disputes.any (isO d report day) then 1 else if d.disputes.any (isS d report day) then 2 else 0
theorem AEZ{l:List α}{p:α->Bool}(h:n<l.length):(l.take (n+1)).any p=((l.take n).any p||p l[n]):=by
 rw[AAo h,List.any_append];simp
theorem AOn(hv:Vd d){report day:Int}(hd:0<=day/\day<=100000):O0 d report day=some (if (fct d.reports report).isSome then(AHk d report day,0) else(0,6)):=by
 obtain⟨D,W,hD⟩:=ABP hv hd;have U:=hv.x.len;refine Ret.eq ?_;unfold O0;rw[W,bindS];refine Ret.condF (by decide) ?_;rw[hD.f,hD.d];cases C:fct d.reports report with
 |none=>exact Ret.condT rfl (Ret.ok rfl)
 |some f=>
  refine Ret.condF rfl ?_
  refine Ret.bind (C2 d.disputes.length (fun n (t:Int×Int)=>t.2=n/\(d.disputes.take n).any (isO d report day)=false/\t.1=if (d.disputes.take n).any (isS d report day) then 2 else 0) ⟨rfl,rfl,rfl⟩ ?_ ?_)
  . rintro n H ⟨m,_⟩ ⟨rfl,I,hm⟩
    dsimp only at hm
    have hx:=AYJ H
    refine Ret.condT (Y9 H) (Ret.bind (Ret.bind (O4 H (Ret.cond (fun c=>?_) fun c=>?_))))
    . have c:decide (d.disputes[n].report=report)=false:=by simpa using c
      refine Ret.ok (C8 (Ret.bind (Ret.chk (by omega) (Ret.next ⟨by dsimp only;omega,?_,?_⟩))))
      . rw[AEZ H,I];unfold isO;rw[c];rfl
      . dsimp only;rw[AEZ H,hm];unfold isS;rw[c,Bool.false_and,Bool.or_false]
    . have c:decide (d.disputes[n].report=report)=true:=by simpa using c
      rw[AFr hD hv hx,bindS]
      refine Ret.cond (fun c1=>?_) fun c1=>?_
      . refine Ret.ok (E5 (Ret.done (Ret.ok ?_)))
        have:d.disputes.any (isO d report day)=true:=List.any_eq_true.2 ⟨_,hx,by unfold isO;rw[c,c1];rfl⟩
        unfold AHk
        rw[AYB this,AX6 c1]
        rfl
      . refine Ret.bind ?_
        have key:∀b:Bool,b=(decide (wh d d.disputes[n] day=2)&&decide (day-(dec d d.disputes[n]).day<=d.terms.mark))->Ret (Option.bind (α:=Int) (cond b (some (wh d d.disputes[n] day)) (some m)) fun x27=>some (Sum.inl x27:Int⊕Int)) fun a=>Ret (Sum.elim (fun x28=>(chk .i64 ((n:Int)+1)).bind fun n29=>some (Sum.inl (x28,n29))) (fun x30=>some (Sum.inr x30)) a) (Nxt (fun (t:Int×Int)=>t.2=((n+1:Nat):Int)/\(d.disputes.take (n+1)).any (isO d report day)=false/\t.1=if (d.disputes.take (n+1)).any (isS d report day) then 2 else 0) fun a=>Ret (some (a,(0:Int))) (·=if (some f).isSome then(AHk d report day,0) else(0,6))):=fun b J=>by
         have eo:(d.disputes.take (n+1)).any (isO d report day)=false:=by rw[AEZ H,I];unfold isO;rw[c,c1];rfl
         have es:(d.disputes.take (n+1)).any (isS d report day)=((d.disputes.take n).any (isS d report day)||b):=by rw[AEZ H,J];unfold isS;rw[c,Bool.true_and]
         cases b with
         |true=>
          refine Ret.bind (Ret.condT rfl (Ret.ok (Ret.ok (C8 (Ret.bind (Ret.chk (by omega) (Ret.next ⟨by dsimp only;omega,eo,?_⟩)))))))
          rw[es,Bool.or_true,AYB rfl]
          symm at J
          rw[Bool.and_eq_true]at J
          exact AX6 J.1
         |false=>
          refine Ret.bind (Ret.condF rfl (Ret.ok (Ret.ok (C8 (Ret.bind (Ret.chk (by omega) (Ret.next ⟨by dsimp only;omega,eo,?_⟩)))))))
          rw[es,Bool.or_false]
          exact hm
        have V:=AFN hv hx
        refine Ret.cond (fun c2=>Ret.bind (Ret.chk (by omega) (Ret.ok (key _ ?_)))) fun c2=>Ret.ok (key _ ?_)
        . rw[c2,Bool.true_and]
        . rw[c2];rfl
  . rintro⟨m,_⟩ ⟨rfl,I,hm⟩
    dsimp only at hm
    rw[AYL]at I hm
    refine Ret.condF (Z0 (AYE _)) (Ret.done (Ret.ok ?_))
    rw[AYB (show(some f).isSome=true from rfl)]
    unfold AHk
    rw[if_neg (by rw[I];decide),hm]
end S
namespace S
def AQw{α:Type}(D:Nat->α->Option Int)(a b:α)(a2_:List Nat):Option Int:=(C0 (S:=Int) (R:=(Unit⊕Int)) (fun x7=>cond (decide (x7<(a2_.length:Int))) ((ixo a2_ x7).bind fun y8=>(D y8 a).bind fun y9=>(D y8 b).bind fun y10=>(D7 y9 y10).bind fun r11=>cond ((!decide (r11=0))) (some (Sum.inr (Sum.inr r11))) ((chk .i64 (x7+1)).bind fun n12=>some (Sum.inl n12))) (some (Sum.inr (Sum.inl ())))) (0:Int)).bind ((Sum.elim (fun _=>some (0:Int)) (fun r13=>some r13)))
def cf2{α:Type}(k1 k2:α->Int)(a b:α):Int:=if R4 (k1 a) (k1 b)=0 then R4 (k2 a) (k2 b) else R4 (k1 a) (k1 b)
variable{x:Int}{y:Int}{α:Type}{k1:α->Int}{k2:α->Int}{a:α}{b:α}
theorem AME:R4 x y<0↔x<y:=by unfold R4;split<;>(try split)<;>omega
theorem AK5:R4 x y=0↔x=y:=by unfold R4;split<;>(try split)<;>omega
theorem ADv:cf2 k1 k2 a b<0↔k1 a<k1 b\/k1 a=k1 b/\k2 a<k2 b:=by
 unfold cf2;split
 . rename_i h;rw[AK5]at h;rw[AME];omega
 . rename_i h;rw[AK5]at h;rw[AME];omega
theorem AFs{D:Nat->α->Option Int}{i j:Nat}(I:∀y,D i y=some (k1 y))(H:∀y,D j y=some (k2 y)):AQw D a b [i,j]=some (cf2 k1 k2 a b):=by
 refine Ret.eq ?_;unfold AQw;refine Ret.bind (Ret.loop (fun t:Int=>t=0\/t=1/\R4 (k1 a) (k1 b)=0\/t=2/\R4 (k1 a) (k1 b)=0/\R4 (k2 a) (k2 b)=0) (fun t=>2-t.toNat) (.inl rfl) ?_);rintro _ (rfl|⟨rfl,e⟩|⟨rfl,e,e2⟩)
 . refine Ret.condT rfl (Ret.bind (Ret.val (show ixo [i,j] 0=some i from rfl) ?_));rw[I,I,bindS,bindS,p_cmp,bindS];by_cases c:R4 (k1 a) (k1 b)=0
   . rw[AYA c];exact Ret.condF rfl (Ret.bind (Ret.chk (by omega) (Ret.next ⟨.inr (.inl ⟨rfl,c⟩),by decide⟩)))
   . rw[AX8 c];exact Ret.condT rfl (Ret.done (E5 (Ret.ok (by unfold cf2;rw[if_neg c]))))
 . refine Ret.condT rfl (Ret.bind (Ret.val (show ixo [i,j] 1=some j from rfl) ?_));rw[H,H,bindS,bindS,p_cmp,bindS];by_cases c:R4 (k2 a) (k2 b)=0
   . rw[AYA c];exact Ret.condF rfl (Ret.bind (Ret.chk (by omega) (Ret.next ⟨.inr (.inr ⟨rfl,e,c⟩),by decide⟩)))
   . rw[AX8 c];exact Ret.condT rfl (Ret.done (E5 (Ret.ok (by unfold cf2;rw[AYB e]))))
 . exact Ret.condF rfl (Ret.done (C8 (Ret.ok (by unfold cf2;rw[AYB e,e2]))))
def le2{α:Type}(k1 k2:α->Int)(a b:α):Prop:=k1 a<k1 b\/k1 a=k1 b/\k2 a<=k2 b
theorem AJS{x:List α}{cmp:α->α->Option Int}(E:∀a b,cmp a b=some (cf2 k1 k2 a b))(one:∀a b,a∈x->b∈x->k1 a=k1 b->k2 a=k2 b->a=b)(hl:x.length<=1000000):Ret (ACC x cmp) fun out=>out.Perm x/\out.Pairwise (le2 k1 k2):=by
 have W:AKt x cmp (cf2 k1 k2):=by
  refine⟨fun a b _ _=>E a b,⟨fun a=>?_,fun a b c H U=>?_,fun a b c H U=>?_⟩,fun a b D C H U=>?_⟩
  . show decide (cf2 k1 k2 a.1 a.1<0)=false;rw[decide_eq_false_iff_not,ADv];omega
  . have H:=AX6 H;have U:=AX6 U;refine AYA ?_;rw[ADv]at *;omega
  . have H:=AYD H;have U:=AYD U;refine AX8 ?_;rw[ADv]at *;omega
  . rw[ADv]at H U;exact one a b D C (by omega) (by omega)
 have J:x.length<4611686018427387904/\∃cf,AKt x cmp cf:=⟨by omega,_,W⟩;have F:ACC x cmp=some (x.mergeSort fun a b=>!decide (J.2.choose b a<0)):=by
  unfold ACC;rw[dif_pos J]
 refine Ret.val F ⟨List.mergeSort_perm _ _,?_⟩;have V:=J.2.choose_spec.1;have hm:=List.map_mergeSort (r:=fun a b=>!decide (J.2.choose b a<0)) (s:=fun a b=>!decide (cf2 k1 k2 b a<0)) (f:=id) (l:=x) fun a D b C=>by
  have H:=V b a C D;rw[E]at H;rw[<-AXz H];rfl
 simp only[List.map_id]at hm;rw[hm];have I:∀a b:α,(!decide (cf2 k1 k2 b a<0))=true↔le2 k1 k2 a b:=fun a b=>by
  rw[Bool.not_eq_true',decide_eq_false_iff_not,ADv];unfold le2;omega
 refine(List.pairwise_mergeSort (fun a b c H U=>?_) (fun a b=>?_) x).imp fun h=>(I _ _).1 h
 . rw[I]at *;unfold le2 at *;omega
 . rw[Bool.or_eq_true,I,I];unfold le2;omega
theorem AEa{l1 l2:List α}(J:l1.Perm l2)(C:l1.Pairwise (le2 k1 k2))(W:l2.Pairwise (le2 k1 k2))(one:∀a b,a∈l1->b∈l1->k1 a=k1 b->k2 a=k2 b->a=b):l1=l2:=by
 refine List.Perm.eq_of_pairwise (fun a b V U I H=>?_) C W J;unfold le2 at I H;exact one a b V (J.mem_iff.2 U) (by omega) (by omega)
theorem AA7{l:List α}{k:α->Int}(h:(l.map k).Nodup):∀a b,a∈l->b∈l->k a=k b->a=b:=fun a b I H e=>by
 obtain⟨i,hi,rfl⟩:=AZK I;exact AOm h H hi e
def ANO(d:Desk)(day:Int)(out:List Int):Prop:=∃m:List Dispute,m.Perm d.disputes/\m.Pairwise (le2 (·.day) (·.id))/\out=(m.filter fun y=>decide (wh d y day=1)).map (·.id)
theorem AWE{d:Desk}(hv:Vd d){day:Int}(hd:0<=day/\day<=100000):Ret (J8 d day) fun r=>r.2=0/\ANO d day r.1:=by
 obtain⟨D,Q,hD⟩:=ABP hv hd;have C:=hv.x.len;unfold J8;rw[Q,bindS];refine Ret.condF (by decide) ?_;rw[hD.d];have E:O9 d.disputes=some d.disputes:=by
  unfold O9;have O:appo 24 ([]:List Dispute) d.disputes=some d.disputes:=ACF (xs:=([]:List Dispute)) (by simp;omega) (by simp;omega);refine ANm (fun h=>?_) ?_
  . rw[h];rfl
  . show (appo 24 ([]:List Dispute) d.disputes).bind (fun l7=>some l7)=some d.disputes;rw[O,bindS]
 rw[E,bindS];have V:=AJS (x:=d.disputes) (cmp:=fun a b=>J7 a b [60,61]) (k1:=(·.day)) (k2:=(·.id)) (fun a b=>AFs (D:=fd130.D) (fun _=>rfl) (fun _=>rfl)) (fun a b K F _ e=>AA7 hv.x.nd a b K F e) (by omega);refine Ret.bind (Ret.bind (V.mono fun m hm=>Ret.ok ?_));obtain⟨I,J⟩:=hm;have W:m.length=d.disputes.length:=I.length_eq;refine Ret.bind (C2 m.length (fun n (t:Int×List Int)=>t.1=n/\t.2=((m.take n).filter fun y=>decide (wh d y day=1)).map (·.id)) ⟨rfl,rfl⟩ ?_ ?_)
 . rintro n H ⟨_,o⟩ ⟨rfl,rfl⟩;have hx:m[n]∈d.disputes:=I.mem_iff.1 (AYJ H);refine Ret.condT (Y9 H) (Ret.bind (O4 H ?_));rw[AFr hD hv hx,bindS];have U:(((m.take n).filter fun y=>decide (wh d y day=1)).map (·.id)).length<=n:=by
    rw[AYZ];exact AYG (AY9 ..) (by rw[AYj];omega)
   refine Ret.bind (Ret.cond (fun c=>?_) fun c=>?_)
   . refine Ret.bind (Ret.appo (by simp only[List.length_singleton];omega) (by simp only[List.length_singleton];omega) (Ret.ok (Ret.bind (Ret.chk (by omega) (Ret.next ⟨by dsimp only;omega,?_⟩)))));dsimp only;rw[AAo H,AZq,AYI];congr 1;rw[AYv,AYB c];rfl
   . refine Ret.ok (Ret.bind (Ret.chk (by omega) (Ret.next ⟨by dsimp only;omega,?_⟩)));dsimp only;rw[AAo H,AZq,AYI,AYv,if_neg (by rw[c];decide)];simp
 . rintro⟨_,o⟩ ⟨rfl,rfl⟩;refine Ret.condF (Z0 (AYE _)) (Ret.done (Ret.ok ⟨rfl,m,I,J,?_⟩));dsimp only;rw[AYL]
end S
namespace S
def Aim(K:List Report)(r o:Report):Prop:=o∈K/\o.id=r.of_/\o.source=r.source/\o.account=r.account
def Wd(K:List Report)(i:Int)(r:Report):Prop:=r∈K/\r.kind=9/\r.of_=i/\∃o,Aim K r o/\o.kind≠9
def Least(p:Report->Prop)(l:List Report):Option Int->Prop
 |none=>∀r∈l,¬p r
 |some z=>∃r∈l,p r/\r.id=z/\∀s∈l,p s->z<=s.id
def Latest(p:Report->Prop)(l:List Report):Option Report->Prop
 |none=>∀r∈l,¬p r
 |some r=>r∈l/\p r/\∀s∈l,p s->s.made<r.made\/s.made=r.made/\s.id<=r.id
def WdR(K:List Report)(i:Int)(z:Option Int):Prop:=Least (Wd K i) K z
def Co(K:List Report)(o r:Report):Prop:=r.kind=8/\Aim K r o/\(0<=r.cents/\r.cents<=most o.kind)/\WdR K r.id none
structure Ok(K:List Report):Prop where
 v:∀r∈K,V r
 nd:(K.map (·.id)).Nodup
 len:K.length<=60
variable{K:List Report}{p:Report->Prop}{a:Option Int}{q:Report->Prop}{m:A4 Int Report}
theorem Ok.one(h:Ok K){a b:Report}(I:a∈K)(H:b∈K)(e:a.id=b.id):a=b:=by
 exact AA7 h.nd a b I H e
theorem Least.uniq{l:List Report}{a b:Option Int}(U:Least p l a)(J:Least p l b):a=b:=by
 cases a with
 |none=>
  cases b with
  |none=>rfl
  |some y=>obtain⟨r,H,I,_⟩:=J;exact absurd I (U r H)
 |some x=>
  cases b with
  |none=>obtain⟨r,H,I,_⟩:=U;exact absurd I (J r H)
  |some y=>
   obtain⟨r,H,I,rfl,hx⟩:=U
   obtain⟨s,V,W,rfl,hy⟩:=J
   have:=hx s V W
   have:=hy r H I
   rw[show r.id=s.id by omega]
theorem Least.congr{l l':List Report}(h:Least p l a)(e:∀r,r∈l/\p r↔r∈l'/\q r):Least q l' a:=by
 cases a with
 |none=>
  intro r H I
  obtain⟨U,J⟩:=(e r).2 ⟨H,I⟩
  exact h r U J
 |some x=>
  obtain⟨r,H,W,hx,hm⟩:=h
  obtain⟨U,J⟩:=(e r).1 ⟨H,W⟩
  exact⟨r,U,J,hx,fun s V I=>by
   obtain⟨D,C⟩:=(e s).2 ⟨V,I⟩;exact hm s D C⟩
theorem Latest.congr{l l':List Report}{a:Option Report}(h:Latest p l a)(e:∀r,r∈l/\p r↔r∈l'/\q r):Latest q l' a:=by
 cases a with
 |none=>
  intro r H I
  obtain⟨U,J⟩:=(e r).2 ⟨H,I⟩
  exact h r U J
 |some x=>
  obtain⟨H,W,hm⟩:=h
  obtain⟨U,J⟩:=(e x).1 ⟨H,W⟩
  exact⟨U,J,fun s V I=>by
   obtain⟨D,C⟩:=(e s).2 ⟨V,I⟩;exact hm s D C⟩
theorem Latest.uniq(hK:Ok K){a b:Option Report}(I:Latest p K a)(H:Latest p K b):a=b:=by
 cases a with
 |none=>
  cases b with
  |none=>rfl
  |some y=>exact absurd H.2.1 (I y H.1)
 |some x=>
  cases b with
  |none=>exact absurd I.2.1 (H x I.1)
  |some y=>
   obtain⟨hx,px,mx⟩:=I
   obtain⟨hy,py,my⟩:=H
   have:=mx y hy py
   have:=my x hx px
   rw[hK.one hx hy (by omega)]
theorem Least.push{l:List Report}{z:Option Int}(h:Least p l z)(x:Report):(¬p x->Least p (l++[x]) z)/\(p x->(z=none\/∃y,z=some y/\x.id<y)->Least p (l++[x]) (some x.id))/\(p x->∀y,z=some y->y<=x.id->Least p (l++[x]) z):=by
 have mem:∀s,s∈l++[x]↔s∈l\/s=x:=fun s=>by simp
 refine⟨fun hx=>?_,fun hx D=>?_,fun hx y hy C=>?_⟩
 . cases z with
   |none=>
    intro r J
    rcases (mem r).1 J with H|rfl
    . exact h r H
    . exact hx
   |some y=>
    obtain⟨r,J,V,W,hm⟩:=h
    exact⟨r,(mem r).2 (.inl J),V,W,fun s U I=>by
     rcases (mem s).1 U with H|rfl
     . exact hm s H I
     . exact absurd I hx⟩
 . refine⟨x,(mem x).2 (.inr rfl),hx,rfl,fun s U I=>?_⟩;rcases (mem s).1 U with H|rfl
   . rcases D with rfl|⟨y,rfl,E⟩
     . exact absurd I (h s H)
     . obtain⟨r,J,V,W,hm⟩:=h;have:=hm s H I;omega
   . exact Int.le_refl _
 . subst hy;obtain⟨r,J,V,W,hm⟩:=h;exact⟨r,(mem r).2 (.inl J),V,W,fun s U I=>by
    rcases (mem s).1 U with H|rfl
    . exact hm s H I
    . exact C⟩
theorem Latest.push{l:List Report}{z:Option Report}(h:Latest p l z)(x:Report):(¬p x->Latest p (l++[x]) z)/\(p x->(z=none\/∃y,z=some y/\(y.made<x.made\/y.made=x.made/\y.id<x.id))->Latest p (l++[x]) (some x))/\(p x->∀y,z=some y->¬(y.made<x.made\/y.made=x.made/\y.id<x.id)->Latest p (l++[x]) z):=by
 have mem:∀s,s∈l++[x]↔s∈l\/s=x:=fun s=>by simp
 refine⟨fun hx=>?_,fun hx W=>?_,fun hx y hy D=>?_⟩
 . cases z with
   |none=>
    intro r U
    rcases (mem r).1 U with H|rfl
    . exact h r H
    . exact hx
   |some y=>
    obtain⟨U,V,hm⟩:=h
    exact⟨(mem y).2 (.inl U),V,fun s J I=>by
     rcases (mem s).1 J with H|rfl
     . exact hm s H I
     . exact absurd I hx⟩
 . refine⟨(mem x).2 (.inr rfl),hx,fun s J I=>?_⟩;rcases (mem s).1 J with H|rfl
   . rcases W with rfl|⟨y,rfl,C⟩
     . exact absurd I (h s H)
     . have:=h.2.2 s H I;omega
   . omega
 . subst hy;obtain⟨U,V,hm⟩:=h;exact⟨(mem y).2 (.inl U),V,fun s J I=>by
    rcases (mem s).1 J with H|rfl
    . exact hm s H I
    . omega⟩
def knS:List Report->Int->List Report
 |[],_=>[]
 |r::l,k=>if r.made<=k/\r∉knS l k then r::knS l k else knS l k
theorem kn_mem:∀{l:List Report} {k:Int} {r:Report},r∈knS l k↔r∈l/\r.made<=k
 |[],k,r=>by simp[knS]
 |x::l,k,r=>by
  unfold knS;split
  . rename_i h;rw[AYS,AYS,kn_mem];constructor
    . rintro (rfl|H)
      . exact⟨.inl rfl,h.1⟩
      . exact⟨.inr H.1,H.2⟩
    . rintro⟨rfl|H,I⟩
      . exact .inl rfl
      . exact .inr ⟨H,I⟩
  . rename_i h;rw[AYS,kn_mem];constructor
    . rintro⟨H,I⟩;exact⟨.inr H,I⟩
    . rintro⟨rfl|H,I⟩
      . exact kn_mem.1 (AZX fun J=>h ⟨I,J⟩)
      . exact⟨H,I⟩
theorem kn_nd:∀{l:List Report} {k:Int},(knS l k).Nodup
 |[],k=>AZD
 |x::l,k=>by
  unfold knS;split
  . rename_i h;exact List.nodup_cons.2 ⟨h.2,kn_nd⟩
  . exact kn_nd
theorem AOo:∀{l:List Report} {k:Int},(knS l k).length<=l.length
 |[],k=>AYE _
 |x::l,k=>by
  unfold knS;have:=AOo (l:=l) (k:=k);split
  . simp only[List.length_cons];omega
  . simp only[List.length_cons];omega
theorem AFt{l:List Report}(h:VL l)(k:Int):Ok (knS l k):=by
 refine⟨fun r I=>h.v r (kn_mem.1 I).1,?_,AYG AOo h.len⟩;rw[List.Nodup,AZB];exact List.Pairwise.imp_of_mem (fun {a b} U J H e=>H (h.cons a (kn_mem.1 U).1 b (kn_mem.1 J).1 e)) kn_nd
def Rep(K:List Report)(m:A4 Int Report):Prop:=∀i r,m i=some r↔r∈K/\r.id=i
theorem ABk{S β:Type}{f:S->β->Option S}(I:List β->S->Prop):∀(l pre:List β) (s:S),I pre s->(∀pre x s,x∈l->I pre s->∃s',f s x=some s'/\I (pre++[x]) s')->∃s',l.foldlM f s=some s'/\I (pre++l) s'
 |[],pre,s,h,_=>⟨s,rfl,by simpa using h⟩
 |x::l,pre,s,h,H=>by
  obtain⟨s1,W,V⟩:=H pre x s (AX4 ..) h;obtain⟨s2,U,J⟩:=ABk I l (pre++[x]) s1 V fun pre y s hy=>H pre y s (AX0 _ hy);refine⟨s2,?_,by simpa using J⟩;rw[AY7,W];exact U
theorem Rep.lists(hK:Ok K)(h:Rep K m):Lists m (K.map fun r=>(r.id,r)):=by
 refine⟨?_,fun a y=>?_⟩
 . rw[AYe];exact hK.nd
 . rw[h,AZL];constructor
   . rintro⟨r,H,e⟩;cases e;exact⟨H,rfl⟩
   . rintro⟨H,rfl⟩;exact⟨y,H,rfl⟩
theorem Rep.mem(h:Rep K m){l:List (Int×Report)}(hl:Lists m l)(r:Report):r∈l.map (·.2)↔r∈K:=by
 rw[AZL];constructor
 . rintro⟨⟨a,y⟩,hy,rfl⟩;exact((h a y).1 ((hl.2 a y).1 hy)).1
 . intro H;exact⟨(r.id,r),(hl.2 _ _).2 ((h _ _).2 ⟨H,rfl⟩),rfl⟩
theorem AHl{S κ α R:Type}{f:S->κ×α->Option S}{m:A4 κ α}{l0:List (κ×α)}(J:Lists m l0){s0:S}(Spec:S->Prop)(H:∀l,Lists m l->∃s,l.foldlM f s0=some s/\Spec s)(uniq:∀s s',Spec s->Spec s'->s=s'){K:S->Option R}{Q:R->Prop}(h:∀s,Spec s->Ret (K s) Q):Ret (AAP m fun l=>(l.foldlM f s0).bind K) Q:=by
 obtain⟨r,D,I⟩:=H _ J;obtain⟨a,V,U⟩:=h r I;refine⟨a,AHv J fun l hl=>?_,U⟩;obtain⟨s,C,W⟩:=H l hl;rw[C,bindS,uniq s r W I,V]
theorem ATz{r:Report}(h:m r.of_=none):F0 (Store.mk m) r=some (Report.mk 0 0 0 0 0 0 0 0,false):=by
 unfold F0;simp[h]
theorem AT0{r o:Report}(h:m r.of_=some o):F0 (Store.mk m) r=some (o,decide (o.source=r.source/\o.account=r.account)):=by
 unfold F0;by_cases c1:o.source=r.source
 . simp[h,c1];rw[<-c1]
 . simp[h,c1]
section
variable{K:List Report}(hK:Ok K){m:A4 Int Report}(hm:Rep K m)
include hK hm
theorem AQx{r:Report}{Q:Report×Bool->Prop}(W:∀o,Aim K r o->Q (o,true))(V:∀o',(∀o,¬Aim K r o)->Q (o',false)):Ret (F0 (Store.mk m) r) Q:=by
 rcases I:m r.of_ with _|o
 . rw[ATz I];refine Ret.ok (V _ fun o H=>?_);rw[(hm _ o).2 ⟨H.1,H.2.1⟩]at I;cases I
 . obtain⟨J,U⟩:=(hm _ o).1 I;rw[AT0 I];by_cases c:o.source=r.source/\o.account=r.account
   . rw[AYA c];exact Ret.ok (W o ⟨J,U,c.1,c.2⟩)
   . rw[AX8 c];exact Ret.ok (V _ fun o' H=>c (by rw[<-hK.one H.1 J (by rw[H.2.1,U])];exact⟨H.2.2.1,H.2.2.2⟩))
end
def Co'(K:List Report)(i:Int)(r:Report):Prop:=∃o∈K,o.id=i/\o.kind<=7/\WdR K i none/\Co K o r
structure Dk(K:List Report)(d:Desk_139):Prop where
 reports:Rep K d.store.reports
 gone:∀i,WdR K i (d.gone i)
 fixed:∀i,∃z:Option Report,d.fixed i=z.map (·.id)/\Latest (Co' K i) K z
theorem AT1{l:List Report}(hv:VL l){known:Int}{Q:Desk_139->Prop}(h:∀d,Dk (knS l known) d->Q d):Ret (V1 l known) Q:=by
 have hK:Ok (knS l known):=AFt hv known;have hC:=hv.cons;have hl:=hv.len;generalize hKe:knS l known=K at h hK;unfold V1;refine Ret.bind (C2 l.length (fun n (t:Int×A4 Int Report)=>t.1=n/\∀i r,t.2 i=some r↔(r∈l.take n/\r.made<=known)/\r.id=i) ⟨rfl,fun i r=>by simp[fnone]⟩ ?_ ?_)
 . rintro n O ⟨_,m⟩ ⟨rfl,hm⟩;dsimp only at hm;refine Ret.condT (Y9 O) (Ret.bind (O4 O (Ret.bind (Ret.cond (fun c=>?_) fun c=>?_))))
   . have c:=AX6 c;refine Ret.ok (Ret.bind (Ret.chk (by omega) (Ret.next ⟨by dsimp only;omega,fun i r=>?_⟩)));rw[C4 O];show B5 m l[n].id l[n] i=some r↔_;unfold B5;by_cases e:i=l[n].id
     . subst e;simp only[if_true];constructor
       . intro H;have:=AXz H;exact⟨⟨.inr this.symm,by rw[<-this];exact c⟩,by rw[<-this]⟩
       . rintro⟨⟨H|H,X⟩,B⟩
         . rw[hC r (AZC H) l[n] (AYJ O) B]
         . rw[H]
     . simp only[e,if_false];rw[hm];constructor
       . rintro⟨⟨H,X⟩,B⟩;exact⟨⟨.inl H,X⟩,B⟩
       . rintro⟨⟨H|H,X⟩,B⟩
         . exact⟨⟨H,X⟩,B⟩
         . exact absurd (by rw[<-B,H]) e
   . have c:=AYD c;refine Ret.ok (Ret.bind (Ret.chk (by omega) (Ret.next ⟨by dsimp only;omega,fun i r=>?_⟩)));rw[C4 O];dsimp only;rw[hm];constructor
     . rintro⟨⟨H,X⟩,B⟩;exact⟨⟨.inl H,X⟩,B⟩
     . rintro⟨⟨H|H,X⟩,B⟩
       . exact⟨⟨H,X⟩,B⟩
       . exact absurd (H▸X) c
 rintro⟨_,m⟩ ⟨rfl,hm⟩;dsimp only at hm;rw[AYL]at hm;refine Ret.condF (Z0 (AYE _)) (Ret.done ?_);have hm:Rep K m:=fun i r=>by rw[hm,<-hKe,kn_mem]
 have j:=hm.lists hK;have mem1:∀{lx:List (Int×Report)},Lists m lx->∀x∈lx,x.2∈K:=fun V x hx=>(hm.mem V x.2).1 (mem_map.2 ⟨x,hx,rfl⟩);refine AHl j (fun s:A4 Int Int=>∀i,WdR K i (s i)) (fun lx V=>?_) (fun s s' u N=>funext fun i=>(u i).uniq (N i)) fun g hg=>?_
 . refine Exists.imp (fun s (h:_/\_)=>⟨h.1,fun i=>(h.2 i).congr fun r=>by rw[AYR,hm.mem V]⟩) (ABk (fun (pre:List (Int×Report)) (s:A4 Int Int)=>∀i,Least (Wd K i) (pre.map (·.2)) (s i)) lx [] (fnone:A4 Int Int) (fun i r P=>by simp at P) (fun pre x s hx D=>?_))
   . obtain⟨xk,r⟩:=x;have P:r∈K:=mem1 V _ hx;have no:(∀i,¬Wd K i r)->∀i,Least (Wd K i) ((pre++[(xk,r)]).map (·.2)) (s i):=fun L i=>by rw[AYI];exact((D i).push r).1 (L i)
     show Ret _ fun s':A4 Int Int=>∀i,Least (Wd K i) ((pre++[(xk,r)]).map (·.2)) (s' i);refine Ret.bind (AQx hK hm (fun o T=>?_) fun o' S=>?_)
     . dsimp only;by_cases c1:r.kind=9
       . rw[AYA c1];by_cases c2:o.kind=9
         . rw[AYA c2];refine Ret.bind (Ret.condT rfl (Ret.condT rfl (Ret.ok (Ret.bind (Ret.condF rfl (Ret.ok (Ret.ok (no fun i A=>?_))))))));obtain⟨_,_,R,o2,G,H⟩:=A;exact H (by rw[hK.one G.1 T.1 (by rw[G.2.1,T.2.1])];exact c2)
         . rw[AX8 c2];have A:Wd K o.id r:=⟨P,c1,T.2.1.symm,o,T,c2⟩;have oth:∀i,i≠o.id->¬Wd K i r:=fun i hi A=>hi (by rw[T.2.1,A.2.2.1]);refine Ret.bind (Ret.condT rfl (Ret.condT rfl (Ret.ok (Ret.bind (Ret.condT rfl (Ret.bind ?_))))));have put:(s o.id=none\/∃y,s o.id=some y/\r.id<y)->∀i,Least (Wd K i) ((pre++[(xk,r)]).map (·.2)) (B5 s o.id r.id i):=fun C i=>by
            rw[AYI];unfold B5;by_cases e:i=o.id
            . subst e;rw[AYB rfl];exact((D _).push r).2.1 A C
            . rw[if_neg e];exact((D i).push r).1 (oth i e)
           cases C:s o.id with
           |none=>exact Ret.condT rfl (Ret.ok (Ret.bind (Ret.condT rfl (Ret.ok (Ret.ok (Ret.ok (put (.inl C))))))))
           |some y=>
            refine Ret.condF rfl (Ret.ok ?_)
            by_cases c3:r.id<y
            . rw[AYA (show r.id<(some y).getD 0 from c3)]
              exact Ret.bind (Ret.condT rfl (Ret.ok (Ret.ok (Ret.ok (put (.inr ⟨y,C,c3⟩))))))
            . rw[AX8 (show ¬r.id<(some y).getD 0 from c3)]
              refine Ret.bind (Ret.condF rfl (Ret.ok (Ret.ok (Ret.ok fun i=>?_))))
              rw[AYI]
              by_cases e:i=o.id
              . subst e;exact((D _).push r).2.2 A y C (by omega)
              . exact((D i).push r).1 (oth i e)
       . rw[AX8 c1];exact Ret.bind (Ret.condF rfl (Ret.ok (Ret.bind (Ret.condF rfl (Ret.ok (Ret.ok (no fun i A=>c1 A.2.1)))))))
     . dsimp only;have L:∀i,¬Wd K i r:=fun i A=>by
        obtain⟨_,_,_,o2,G,_⟩:=A;exact S o2 G
       refine Ret.bind (Ret.cond (fun _=>Ret.condF rfl (Ret.ok ?_)) fun _=>Ret.ok ?_)<;>exact Ret.bind (Ret.condF rfl (Ret.ok (Ret.ok (no L))))
 refine AHl j (fun s:A4 Int Int=>∀i,∃z:Option Report,s i=z.map (·.id)/\Latest (Co' K i) K z) (fun lx V=>?_) (fun s s' u N=>funext fun i=>?_) fun f hf=>?_
 . refine Exists.imp (fun s (h:_/\_)=>⟨h.1,fun i=>(by
    obtain⟨z,C,I⟩:=h.2.2 i;exact⟨z,C,I.congr fun r=>by rw[AYR,hm.mem V]⟩)⟩) (ABk (fun (pre:List (Int×Report)) (s:A4 Int Int)=>(∀x∈pre,x.2∈K)/\∀i,∃z:Option Report,s i=z.map (·.id)/\Latest (Co' K i) (pre.map (·.2)) z) lx [] (fnone:A4 Int Int) ⟨(fun x hx=>by simp at hx),fun i=>⟨none,rfl,fun r P=>by simp at P⟩⟩ (fun pre x s hx D=>?_))
   . obtain⟨xk,r⟩:=x;have P:r∈K:=mem1 V _ hx;obtain⟨Z,D⟩:=D;have hpre':∀x∈pre++[(xk,r)],x.2∈K:=fun x hx=>by
      rcases mem_append.1 hx with H|H
      . exact Z x H
      . have:x=(xk,r):=by simpa using H
        rw[this];exact P
     have no:(∀i,¬Co' K i r)->(∀x∈pre++[(xk,r)],x.2∈K)/\∀i,∃z:Option Report,s i=z.map (·.id)/\Latest (Co' K i) ((pre++[(xk,r)]).map (·.2)) z:=fun L=>⟨hpre',fun i=>by
      obtain⟨z,C,I⟩:=D i;rw[AYI];exact⟨z,C,(I.push r).1 (L i)⟩⟩
     show Ret _ fun s':A4 Int Int=>(∀x∈pre++[(xk,r)],x.2∈K)/\∀i,∃z:Option Report,s' i=z.map (·.id)/\Latest (Co' K i) ((pre++[(xk,r)]).map (·.2)) z;refine Ret.bind (AQx hK hm (fun o T=>?_) fun o' S=>?_)
     . dsimp only;have hov:=hK.v o T.1;have one:∀{i o2},o2∈K->o2.id=i->Co K o2 r->o2=o:=fun E _ R=>hK.one E T.1 (by rw[R.2.1.2.1,T.2.1]);by_cases c1:r.kind=8
       . rw[AYA c1];refine Ret.bind (Ret.condF rfl (Ret.condF rfl ?_));unfold I3;refine Ret.bind (Ret.ok ?_);by_cases c2:o.kind<=7
         . refine Ret.condF (by simp;exact c2) ?_;rw[AKx hov.1,ADR (by simp),bindS];by_cases c3:0<=r.cents/\r.cents<=most o.kind
           . refine Ret.condF (by simp[inB,c3]) ?_;unfold Q6;refine Ret.bind (Ret.ok ?_);dsimp only;have gs:∀i,(g i).isSome=true↔¬WdR K i none:=fun i=>by
              cases k:g i with
              |none=>simp;have:=hg i;rw[k]at this;exact this
              |some y=>simp;intro H;have:=(hg i).uniq H;rw[k]at this;cases this
             by_cases c4:(g r.id).isSome=true
             . rw[c4];exact Ret.condT rfl (Ret.ok (Ret.condT rfl (Ret.ok (no fun i U=>by
                obtain⟨o2,_,_,_,_,W⟩:=U;exact(gs r.id).1 c4 W.2.2.2))))
             . have c4':(g r.id).isSome=false:=by simpa using c4
               rw[c4'];refine Ret.condF rfl (Ret.bind (Ret.ok ?_));by_cases c5:(g o.id).isSome=true
               . rw[c5];exact Ret.ok (Ret.condT rfl (Ret.ok (no fun i U=>by
                  obtain⟨o2,E,Y,_,h4,W⟩:=U;have:=one E Y W;subst this;exact(gs o2.id).1 c5 (Y▸h4))))
               . have c5':(g o.id).isSome=false:=by simpa using c5
                 rw[c5'];refine Ret.ok (Ret.condF rfl ?_);have w1:WdR K r.id none:=AZX fun H=>c4 ((gs r.id).2 H);have w2:WdR K o.id none:=AZX fun H=>c5 ((gs o.id).2 H);have U:Co' K o.id r:=⟨o,T.1,rfl,c2,w2,c1,T,c3,w1⟩;have oth:∀i,i≠o.id->¬Co' K i r:=fun i hi U=>by
                  obtain⟨o2,E,Y,_,_,W⟩:=U;exact hi (by rw[<-Y,one E Y W])
                 obtain⟨z,C,I⟩:=D o.id;have put:(z=none\/∃y,z=some y/\(y.made<r.made\/y.made=r.made/\y.id<r.id))->(∀x∈pre++[(xk,r)],x.2∈K)/\∀i,∃z:Option Report,(B5 s o.id r.id) i=z.map (·.id)/\Latest (Co' K i) ((pre++[(xk,r)]).map (·.2)) z:=fun H=>⟨hpre',fun i=>by
                  rw[AYI];unfold B5;by_cases e:i=o.id
                  . subst e;rw[AYB rfl];exact⟨some r,rfl,(I.push r).2.1 U H⟩
                  . rw[if_neg e];obtain⟨z',F,J⟩:=D i;exact⟨z',F,(J.push r).1 (oth i e)⟩⟩
                 have keep:∀y,z=some y->¬(y.made<r.made\/y.made=r.made/\y.id<r.id)->(∀x∈pre++[(xk,r)],x.2∈K)/\∀i,∃z:Option Report,s i=z.map (·.id)/\Latest (Co' K i) ((pre++[(xk,r)]).map (·.2)) z:=fun y hy H=>⟨hpre',fun i=>by
                  rw[AYI];by_cases e:i=o.id
                  . subst e;exact⟨z,C,(I.push r).2.2 U y hy H⟩
                  . obtain⟨z',F,J⟩:=D i;exact⟨z',F,(J.push r).1 (oth i e)⟩⟩
                 refine Ret.bind ?_;rw[C];cases z with
                 |none=>exact Ret.condT rfl (Ret.ok (Ret.bind (Ret.condT rfl (Ret.ok (Ret.ok (put (.inl rfl)))))))
                 |some y=>
                  have p:y∈K:=by
                   obtain⟨q,k,v⟩:=mem_map.1 I.1;rw[<-v];exact Z q k
                  have hmy:m y.id=some y:=(hm _ _).2 ⟨p,rfl⟩
                  refine Ret.condF rfl (Ret.bind (Ret.val p_cmp (Ret.bind (Ret.val p_cmp (Ret.bind (Ret.val p_Or ?_))))))
                  have M:((some y).map (·.id)).getD 0=y.id:=rfl
                  rw[M,hmy]
                  simp only[Option.getD_some]
                  have bd:∀a b:Int,-1<=R4 a b/\R4 a b<=1:=fun a b=>by unfold R4;split<;>(try split)<;>omega
                  have b1:=bd y.made r.made
                  have b2:=bd y.id r.id
                  refine Ret.ok ?_
                  have key:decide ((if R4 y.made r.made=0 then R4 y.id r.id else R4 y.made r.made)<0)=decide (y.made<r.made\/y.made=r.made/\y.id<r.id):=by
                   rw[decide_eq_decide];unfold R4;by_cases E:y.made<r.made
                   . simp[E]
                   . by_cases Y:r.made<y.made
                     . simp[E,Y];omega
                     . have:y.made=r.made:=by omega
                       simp[this];by_cases R:y.id<r.id
                       . simp[R]
                       . simp[R];split<;>omega
                  rw[key]
                  by_cases c6:y.made<r.made\/y.made=r.made/\y.id<r.id
                  . rw[AYA c6]
                    exact Ret.bind (Ret.condT rfl (Ret.ok (Ret.ok (put (.inr ⟨y,rfl,c6⟩)))))
                  . rw[AX8 c6]
                    exact Ret.bind (Ret.condF rfl (Ret.ok (Ret.ok (keep y rfl c6))))
           . have hx:([r.cents].all (inB 0 (most o.kind)))=false:=by simp only[List.all_cons,List.all_nil,Bool.and_true,inB];exact AX8 c3
             rw[hx];exact Ret.condT rfl (Ret.ok (Ret.condT rfl (Ret.ok (no fun i U=>by
              obtain⟨o2,E,Y,_,_,W⟩:=U;rw[one E Y W]at W;exact c3 W.2.2.1))))
         . refine Ret.condT (by simp;omega) (Ret.ok (Ret.condT rfl (Ret.ok (no fun i U=>?_))));obtain⟨o2,E,Y,R,_,W⟩:=U;rw[one E Y W]at R;exact c2 R
       . rw[AX8 c1];exact Ret.bind (Ret.condT rfl (Ret.ok (Ret.condT rfl (Ret.ok (no fun i U=>by
          obtain⟨o2,_,_,_,_,W⟩:=U;exact c1 W.1)))))
     . dsimp only;have L:∀i,¬Co' K i r:=fun i U=>by
        obtain⟨o2,_,_,_,_,W⟩:=U;exact S o2 W.2.1
       refine Ret.bind (Ret.cond (fun _=>Ret.ok ?_) fun _=>Ret.condT rfl (Ret.ok ?_))<;>exact Ret.condT rfl (Ret.ok (no L))
 . obtain⟨z,C,I⟩:=u i;obtain⟨z',F,J⟩:=N i;rw[C,F,Latest.uniq hK I J]
 . exact Ret.ok (h _ ⟨hm,hg,hf⟩)
end S
namespace S
def ANP(r o:Report):Bool:=decide (o.id=r.of_/\o.source=r.source/\o.account=r.account)
def wdB(K:List Report)(i:Int)(r:Report):Bool:=decide (r.kind=9/\r.of_=i)&&K.any fun o=>ANP r o&&decide (o.kind≠9)
def AJT(K:List Report)(i:Int):Bool:=K.any (wdB K i)
def coB(K:List Report)(o r:Report):Bool:=decide (r.kind=8/\0<=r.cents/\r.cents<=most o.kind)&&(ANP r o&&!AJT K r.id)
def AK7(K:List Report)(o:Report)(z:Option Report)(r:Report):Option Report:=if coB K o r then match z with
 |none=>some r
 |some y=>if y.made<r.made\/y.made=r.made/\y.id<r.id then some r else some y else z
def ANQ(K:List Report)(o:Report):Option Report:=K.foldl (AK7 K o) none
def fix(K:List Report)(o:Report):Report:=match ANQ K o with
 |none=>o
 |some c=>Report.mk o.id o.source o.account o.made c.about o.kind c.cents o.of_
def T(K:List Report):List Report:=(K.filter fun o=>decide (o.kind<=7)&&!AJT K o.id).map (fix K)
variable{K:List Report}{i:Int}{o:Report}{α:Type}
theorem AMG{r:Report}(V:r∈K):wdB K i r=true↔Wd K i r:=by
 unfold wdB Wd Aim ANP;rw[Bool.and_eq_true,decide_eq_true_iff,AZc];constructor
 . rintro⟨⟨U,J⟩,o,I,H⟩;rw[Bool.and_eq_true,decide_eq_true_iff,decide_eq_true_iff]at H;exact⟨V,U,J,o,⟨I,H.1⟩,H.2⟩
 . rintro⟨_,U,J,o,⟨I,H⟩,W⟩;exact⟨⟨U,J⟩,o,I,by rw[Bool.and_eq_true,decide_eq_true_iff,decide_eq_true_iff];exact⟨H,W⟩⟩
theorem AGn:AJT K i=false↔WdR K i none:=by
 unfold AJT WdR Least;rw[List.any_eq_false];constructor
 . intro h r H I;exact h r H ((AMG H).2 I)
 . intro h r H I;exact h r H ((AMG H).1 I)
theorem AMH{o r:Report}(V:o∈K):coB K o r=true↔Co K o r:=by
 unfold coB Co Aim ANP;rw[Bool.and_eq_true,Bool.and_eq_true,decide_eq_true_iff,decide_eq_true_iff,Bool.not_eq_true',AGn];constructor
 . rintro⟨⟨U,J⟩,I,H⟩;exact⟨U,⟨V,I⟩,J,H⟩
 . rintro⟨U,⟨_,I⟩,J,H⟩;exact⟨⟨U,J⟩,I,H⟩
theorem AF8(I:o∈K):Latest (Co K o) K (ANQ K o):=by
 have key:∀(l p:List Report) (z:Option Report),Latest (Co K o) p z->Latest (Co K o) (p++l) (l.foldl (AK7 K o) z):=by
  intro l;induction l with
  |nil=>intro p z h;simpa using h
  |cons r l ih=>
   intro p z h
   have:p++r::l=(p++[r])++l:=by simp
   rw[this]
   refine ih _ _ ?_
   obtain⟨p1,p2,p3⟩:=h.push r
   unfold AK7
   by_cases c:coB K o r=true
   . rw[AYB c]
     have c:=(AMH I).1 c
     cases z with
     |none=>exact p2 c (.inl rfl)
     |some y=>
      dsimp only
      split
      . rename_i H;exact p2 c (.inr ⟨y,rfl,H⟩)
      . rename_i H;exact p3 c y rfl H
   . rw[if_neg c]
     exact p1 fun H=>c ((AMH I).2 H)
 have:=key K [] none (fun r J=>by cases J);rw[AYR]at this;exact this
theorem AK8(o:Report):(fix K o).id=o.id:=by
 unfold fix;split<;>rfl
theorem T_mem{r:Report}:r∈T K↔∃o∈K,o.kind<=7/\WdR K o.id none/\r=fix K o:=by
 unfold T;rw[AZL];constructor
 . rintro⟨o,H,rfl⟩;rw[List.mem_filter,Bool.and_eq_true,decide_eq_true_iff,Bool.not_eq_true',AGn]at H;exact⟨o,H.1,H.2.1,H.2.2,rfl⟩
 . rintro⟨o,U,J,I,rfl⟩;exact⟨o,List.mem_filter.2 ⟨U,by rw[Bool.and_eq_true,decide_eq_true_iff,Bool.not_eq_true',AGn];exact⟨J,I⟩⟩,rfl⟩
theorem ANR(hK:Ok K):((T K).map (·.id)).Nodup:=by
 unfold T;rw[AYe];have:(fun r:Report=>r.id) ∘ fix K=fun r=>r.id:=funext fun o=>AK8 o;rw[this];exact(AZU _ AYm).nodup hK.nd
theorem ANS(hK:Ok K):(T K).length<=60:=by
 unfold T;rw[AYZ];exact AYG (AY9 _ _) hK.len
theorem ASC(hK:Ok K)(H:o∈K){z:Option Report}(h:Latest (Co K o) K z):ANQ K o=z:=Latest.uniq hK (AF8 H) h
def cv(d:Desk_139)(o:Report):Report:=match d.fixed o.id with
 |none=>o
 |some j=>Report.mk o.id o.source o.account o.made ((d.store.reports j).getD (Report.mk 0 0 0 0 0 0 0 0)).about o.kind ((d.store.reports j).getD (Report.mk 0 0 0 0 0 0 0 0)).cents o.of_
theorem AQz{p q:Prop}[Decidable p][Decidable q](h:p↔q){a b:α}:(if p then a else b)=if q then a else b:=by
 by_cases c:p
 . rw[AYB c,AYB (h.1 c)]
 . rw[if_neg c,if_neg fun c'=>c (h.2 c')]
theorem AOp{α β:Type}{f:α->β}{l:List α}(h:(l.map f).Nodup):l.Nodup:=(List.pairwise_map.1 h).imp fun h e=>h (AX9 f e)
theorem AK9:∀(l:List (Int×Report)) (pre:List Report),pre.length+l.length<=1000000->List.foldlM (m:=Option) (s:=((List Report))) (α:=Int×Report) (fun x37 (k38,v39)=>(appo 64 x37 ([v39])).bind fun l40=>some l40) pre l=some (pre++l.map (·.2))
 |[],pre,_=>by simp
 |x::l,pre,h=>by
  rw[AY6]at h;obtain⟨k,v⟩:=x;rw[AY7];dsimp only;rw[ACF (by simp;omega) (by simp;omega)];show List.foldlM _ (pre++[v]) l=_;rw[AK9 l (pre++[v]) (by simp;omega)];simp
section
variable{K:List Report}(hK:Ok K){d:Desk_139}(hd:Dk K d)
include hK hd
theorem AQ0{i:Int}:d.gone i=none↔WdR K i none:=by
 constructor
 . intro h;have:=hd.gone i;rwa [h]at this
 . intro h;exact(hd.gone i).uniq h
theorem AT3{o:Report}(H:o∈K)(J:o.kind<=7)(I:WdR K o.id none)(r:Report):Co' K o.id r↔Co K o r:=by
 constructor
 . rintro⟨o2,V,U,_,_,W⟩;rwa [<-hK.one V H U]
 . intro h;exact⟨o,H,rfl,J,I,h⟩
theorem AQD{o:Report}(I:o∈K)(J:o.kind<=7)(H:WdR K o.id none):∃z:Option Report,d.fixed o.id=z.map (·.id)/\Latest (Co K o) K z:=by
 obtain⟨z,V,U⟩:=hd.fixed o.id;exact⟨z,V,U.congr fun r=>and_congr_right fun _=>AT3 hK hd I J H r⟩
theorem AOq{o:Report}(H:o∈K)(V:o.kind<=7)(J:WdR K o.id none):cv d o=fix K o:=by
 obtain⟨z,W,I⟩:=AQD hK hd H V J;unfold cv fix;rw[ASC hK H I,W];cases z with
 |none=>rfl
 |some c=>
  have U:c∈K:=I.1
  simp only[Option.map_some,(hd.reports c.id c).2 ⟨U,rfl⟩,Option.getD_some]
theorem AWF:Lists d.gone ((K.filter fun o=>(d.gone o.id).isSome).map fun o=>(o.id,(d.gone o.id).getD 0)):=by
 refine⟨?_,fun a y=>?_⟩
 . rw[AYe];exact(AZU _ AYm).nodup hK.nd
 . rw[AZL];constructor
   . rintro⟨o,H,e⟩;rw[List.mem_filter]at H;obtain⟨z,J⟩:=Option.isSome_iff_exists.1 H.2;cases e
     rw[J];rfl
   . intro h;have:=hd.gone a;rw[h]at this;obtain⟨r,_,⟨_,_,U,o,I,_⟩,_⟩:=this;have e:o.id=a:=by rw[I.2.1,U]
     refine⟨o,List.mem_filter.2 ⟨I.1,by rw[e,h];rfl⟩,by rw[e,h];rfl⟩
open Classical in
theorem ASD{Q:List Report->Prop}(h:∀out,out.Perm (T K)->out.Pairwise (le2 (·.about) (·.id))->Q out):Ret (N2 d) Q:=by
 have M:=hd.reports.lists hK;have v:=hK.len;unfold N2;refine Ret.bind ?_;unfold Y3;refine AHl M (fun s:A4 Int Report=>∀i r',s i=some r'↔∃o∈K,o.id=i/\o.kind<=7/\r'=cv d o) (fun lx W=>?_) (fun s s' P O=>funext fun i=>Option.ext fun r'=>(P i r').trans (O i r').symm) fun m1 Z=>?_
 . refine Exists.imp (fun s (h:_/\_)=>⟨h.1,fun i r'=>(h.2.2 i r').trans (by
    constructor
    . rintro⟨o,U,H⟩;exact⟨o,by rwa [AYR,hd.reports.mem W]at U,H⟩
    . rintro⟨o,U,H⟩;exact⟨o,by rwa [AYR,hd.reports.mem W],H⟩)⟩) (ABk (fun (pre:List (Int×Report)) (s:A4 Int Report)=>(∀x∈pre,x.2∈K)/\∀i r',s i=some r'↔∃o∈pre.map (·.2),o.id=i/\o.kind<=7/\r'=cv d o) lx [] (fnone:A4 Int Report) ⟨(fun x hx=>by simp at hx),fun i r'=>by simp[fnone]⟩ (fun pre x s hx B=>?_))
   obtain⟨xk,o⟩:=x;obtain⟨U,S⟩:=(hd.reports xk o).1 ((W.2 _ _).1 hx);subst S;obtain⟨E,B⟩:=B;have hpre':∀x∈pre++[(o.id,o)],x.2∈K:=fun x hx=>by
    rcases mem_append.1 hx with H|H
    . exact E x H
    . have:x=(o.id,o):=by simpa using H
      rw[this];exact U
   show Ret _ fun s':A4 Int Report=>(∀x∈pre++[(o.id,o)],x.2∈K)/\∀i r',s' i=some r'↔∃o'∈(pre++[(o.id,o)]).map (·.2),o'.id=i/\o'.kind<=7/\r'=cv d o';have fin:∀a c,cv d o=Report.mk o.id o.source o.account o.made a o.kind c o.of_->Ret ((I3 (Report.mk o.id o.source o.account o.made a o.kind c o.of_)).bind fun r19=>Option.bind (α:=((A4 Int Report))) (cond (r19) (some (B5 s o.id (Report.mk o.id o.source o.account o.made a o.kind c o.of_))) (some s)) ((fun x20=>some x20))) fun s':A4 Int Report=>(∀x∈pre++[(o.id,o)],x.2∈K)/\∀i r',s' i=some r'↔∃o'∈(pre++[(o.id,o)]).map (·.2),o'.id=i/\o'.kind<=7/\r'=cv d o':=fun a c e=>by
    rw[<-e];refine Ret.bind (Ret.val (show I3 (cv d o)=some (decide (o.kind<=7)) by rw[e];rfl) (Ret.bind (Ret.cond (fun V=>Ret.ok (Ret.ok ⟨hpre',fun i r'=>?_⟩)) fun V=>Ret.ok (Ret.ok ⟨hpre',fun i r'=>?_⟩))))
    . have V:=AX6 V;rw[AYI];unfold B5;by_cases ei:i=o.id
      . subst ei;rw[AYB rfl];constructor
        . intro H;exact⟨o,mem_append.2 (.inr (by simp)),rfl,V,(AXz H).symm⟩
        . rintro⟨o',J,I,g,f⟩;have:o'=o:=by
           rcases mem_append.1 J with H|H
           . obtain⟨x,N,rfl⟩:=mem_map.1 H;exact hK.one (E x N) U I
           . simpa using H
          rw[f,this]
      . rw[if_neg ei,B];constructor
        . rintro⟨o',J,I⟩;exact⟨o',mem_append.2 (.inl J),I⟩
        . rintro⟨o',J,I⟩;rcases mem_append.1 J with H|H
          . exact⟨o',H,I⟩
          . have:o'=o:=by simpa using H
            exact absurd (by rw[<-I.1,this]) ei
    . have V:=AYD V;rw[AYI,B];constructor
      . rintro⟨o',J,I⟩;exact⟨o',mem_append.2 (.inl J),I⟩
      . rintro⟨o',J,I⟩;rcases mem_append.1 J with H|H
        . exact⟨o',H,I⟩
        . have:o'=o:=by simpa using H
          exact absurd (this▸I.2.1) V
   have e1:cv d o=Report.mk o.id o.source o.account o.made (if (d.fixed o.id).isSome then((d.store.reports ((d.fixed o.id).getD 0)).getD (Report.mk 0 0 0 0 0 0 0 0)).about else o.about) o.kind (if (d.fixed o.id).isSome then((d.store.reports ((d.fixed o.id).getD 0)).getD (Report.mk 0 0 0 0 0 0 0 0)).cents else o.cents) o.of_:=by
    unfold cv;cases d.fixed o.id with
    |none=>rfl
    |some j=>rfl
   refine Ret.bind ?_;cases k:d.fixed o.id with
   |none=>
    rw[k]at e1
    exact Ret.condF rfl (Ret.ok (fin _ _ e1))
   |some j=>
    rw[k]at e1
    exact Ret.condT rfl (Ret.ok (fin _ _ e1))
 refine AHl (AWF hK hd) (fun s:A4 Int Report=>∀i,s i=if (d.gone i).isSome then none else m1 i) (fun lx W=>?_) (fun s s' P O=>funext fun i=>(P i).trans (O i).symm) fun m2 L=>?_
 . classical
   refine Exists.imp (fun s (h:_/\_)=>⟨h.1,fun i=>(h.2 i).trans (AQz ?_)⟩) (ABk (fun (pre:List (Int×Int)) (s:A4 Int Report)=>∀i,s i=if ∃y,(i,y)∈pre then none else m1 i) lx [] m1 (fun i=>by simp) (fun pre x s hx B=>⟨_,rfl,fun i=>?_⟩))
   . unfold Z2;by_cases e:i=x.1
     . rw[AYB e,AYB ⟨x.2,mem_append.2 (.inr (by rw[e];simp))⟩]
     . rw[if_neg e,B];refine AQz (exists_congr fun y=>?_);rw[AYY];constructor
       . exact .inl
       . rintro (H|H)
         . exact H
         . have:(i,y)=x:=by simpa using H
           exact absurd (by rw[<-this]) e
   . rw[AYR,Option.isSome_iff_exists];exact exists_congr fun y=>W.2 i y
 have C:Lists m2 ((T K).map fun r=>(r.id,r)):=by
  refine⟨by rw[AYe];exact ANR hK,fun a y=>?_⟩;rw[L,AZL];constructor
  . rintro⟨r,q,e⟩;cases e
    obtain⟨o,U,Y,G,rfl⟩:=T_mem.1 q;rw[AK8,(AQ0 hK hd).2 G];exact(Z _ _).2 ⟨o,U,rfl,Y,(AOq hK hd U Y G).symm⟩
  . intro V;split at V
    . cases V
    rename_i J;obtain⟨o,U,rfl,Y,rfl⟩:=(Z _ _).1 V;have G:WdR K o.id none:=(AQ0 hK hd).1 (by simpa using J);rw[AOq hK hd U Y G];exact⟨fix K o,T_mem.2 ⟨o,U,Y,G,rfl⟩,by rw[AK8]⟩
 have X:∀l,Lists m2 l->(l.map (·.2)).Perm (T K):=fun l hl=>by
  have:l.Perm ((T K).map fun r=>(r.id,r)):=by
   refine(AYo ?_ ?_).2 fun p=>?_
   . exact AOp hl.1
   . exact AOp C.1
   . obtain⟨a,y⟩:=p;exact(hl.2 a y).trans (C.2 a y).symm
  have:=this.map (·.2);rwa [AYe,show((fun p:Int×Report=>p.2) ∘ fun r:Report=>(r.id,r))=id from rfl,List.map_id]at this
 have one:∀{l:List Report},l.Perm (T K)->∀a b,a∈l->b∈l->a.about=b.about->a.id=b.id->a=b:=fun A a b u t _ e=>AA7 (ANR hK) a b (A.mem_iff.1 u) (A.mem_iff.1 t) e;have F:∀l,Lists m2 l->Ret ((List.foldlM (m:=Option) (s:=((List Report))) (α:=Int×Report) (fun x37 (k38,v39)=>(appo 64 x37 ([v39])).bind fun l40=>some l40) ([]:List Report) l).bind fun x42=>(F2 ([(107:Nat),(108:Nat)]) x42).bind fun (_,m43)=>some (m43,(m43.length:Int),(0:Int))) fun z=>(z.1.Perm (T K)/\z.1.Pairwise (le2 (·.about) (·.id)))/\z=(z.1,(z.1.length:Int),(0:Int)):=fun l hl=>by
  have A:=X l hl;have R:=A.length_eq;have:=ANS hK;rw[AYZ]at R;rw[AK9 l [] (by simp;omega),AYR,bindS];have U:=AJS (x:=l.map (·.2)) (cmp:=fun a b=>K4 a b [107,108]) (k1:=(·.about)) (k2:=(·.id)) (fun a b=>AFs (D:=fd160.D) (fun _=>rfl) (fun _=>rfl)) (one A) (by rw[AYZ];omega);exact Ret.bind (Ret.bind (U.mono fun m hm=>Ret.ok (Ret.ok ⟨⟨hm.1.trans A,hm.2⟩,rfl⟩)))
 obtain⟨z,V,⟨J,I⟩,g⟩:=F _ C;refine⟨z,AHv C fun l hl=>?_,?_⟩
 . obtain⟨z',f,⟨n,Y⟩,h8⟩:=F l hl;rw[f,g,h8,AEa (n.trans J.symm) Y I (one n)]
 . rw[g];exact Ret.condT (by simp) (Ret.ok (h _ J I))
theorem AOr(I:∀r∈K,InR r){Q:List Report->Prop}(h:∀out,out.Perm (T K)->out.Pairwise (le2 (·.about) (·.id))->Q out):Ret (F7 d) Q:=by
 unfold F7;refine Ret.bind (ASD hK hd fun out H J=>?_);have W:=H.length_eq;have:=ANS hK;rw[AYB]
 . exact Ret.ok (h out H J)
 refine⟨by omega,fun r C=>?_⟩;obtain⟨o,V,F,E,rfl⟩:=T_mem.1 (H.mem_iff.1 C);have U:=AF8 (K:=K) V;unfold fix;have H:=I o V;cases D:ANQ K o with
 |none=>exact H
 |some c=>
  rw[D]at U
  have J:=I c U.1
  exact⟨H.1,H.2.1,H.2.2.1,H.2.2.2.1,J.2.2.2.2.1,H.2.2.2.2.2.1,J.2.2.2.2.2.2.1,H.2.2.2.2.2.2.2⟩
end
theorem AXT{r:Report}(h:V r):InR r:=by
 obtain⟨c1,c2,c3,c4,c5,c6,c7,c8,_⟩:=h;have hm:most r.kind<=1000000000000:=by unfold most;split<;>(try split)<;>omega
 exact⟨InK.i64.2 (by omega),InK.i64.2 (by omega),InK.i64.2 (by omega),InK.i64.2 (by omega),InK.i64.2 (by omega),InK.u8.2 (by omega),InK.i64.2 (by omega),InK.i64.2 (by omega)⟩
structure St(l:List Report)(known:Int)(out:List Report):Prop where
 perm:out.Perm (T (knS l known))
 ord:out.Pairwise (le2 (·.about) (·.id))
theorem ANT{l:List Report}(h:VL l){known:Int}(hk:0<=known/\known<=100000):Ret (M3 l known) fun z=>z.2=0/\St l known z.1:=by
 unfold M3 T9;rw[AIK h];refine Ret.bind ?_;rw[bindS];refine Ret.condF (by decide) ?_;rw[ADR (by simp),bindS,show([known].all (inB 0 100000))=true by simp[inB,hk]];refine Ret.condF rfl (Ret.ok (C8 (Ret.bind (AT1 h fun D hD=>?_))));exact Ret.bind (AOr (AFt h known) hD (fun r H=>AXT ((AFt h known).v r H)) fun out J I=>Ret.ok ⟨rfl,J,I⟩)
end S
namespace S
theorem ASE{r:Report}(h:V r):R6 r=some true:=by
 obtain⟨c1,c2,c3,c4,c5,c6,c7,c8,c9,c10,c11⟩:=h;refine Ret.eq ?_;unfold R6;simp only[AFp,bindS];refine Ret.bind (Ret.condF (by rw[F9 c2];rfl) (Ret.condF (by rw[F9 c3];rfl) (Ret.condF (by rw[F9 c4];rfl) (Ret.condF (by rw[F9 c6];rfl) (Ret.condF (by rw[F9 c7];rfl) (Ret.bind (Ret.chk (by omega) (Ret.ok (Ret.condF (by rw[F9 c1];rfl) ?_)))))))));refine Ret.cond (fun h=>?_) fun h=>?_
 . have h:=AX6 h;rw[AOg (by omega),bindS];exact Ret.bind (Ret.condT (F9 c8) (Ret.ok (Ret.ok (AYA (c9 h)))))
 . have h:=AYD h;refine Ret.bind (Ret.condF (by rw[F9 c5];rfl) (Ret.ok ?_));refine Ret.condF (AX8 (c10 (by omega))) ?_;refine Ret.cond (fun c=>?_) fun c=>?_
   . have c:=AX6 c;rw[show most r.kind=1000000000000 by simp[most,c]]at c8;exact Ret.ok (F9 c8)
   . have c:=AYD c;have k9:r.kind=9:=by omega
     have:r.cents=0:=by
      have e:most r.kind=0:=by simp[most,k9]
      omega
     exact Ret.bind (Ret.condT (AYA this) (Ret.ok (Ret.ok (AYA (c11 k9)))))
theorem AQE{r:Report}(hk:0<=r.kind/\r.kind<=255):Ret (R6 r) fun b=>b=true↔V r:=by
 obtain⟨b,H,I⟩:=AL6 hk;refine⟨b,H,I,fun h=>?_⟩;rw[ASE h]at H;cases H;rfl
theorem ASF{r:Report}(hk:0<=r.kind/\r.kind<=255):Ret (H0 r) fun b=>b=true->V r:=by
 have bad:∀{o:Option Bool},Ret (cond true (some false) o) fun b=>b=true->V r:=fun {o}=>Ret.condT rfl (Ret.ok fun h=>by cases h);unfold H0;refine Ret.bind (Ret.bind (Ret.chk (by omega) ?_));rw[ADR (by simp),bindS];refine Ret.cond (fun _=>Ret.ok bad) fun c1=>?_;have c1:1<=r.kind/\r.kind<=9:=by simpa[inB] using c1
 rw[ADR (by simp),bindS];refine Ret.cond (fun _=>Ret.ok bad) fun c2=>?_;have c2:(0<=r.id/\r.id<=999999)/\(0<=r.source/\r.source<=999999)/\(0<=r.account/\r.account<=999999)/\(0<=r.of_/\r.of_<=999999):=by simpa[inB] using c2
 rw[ADR (by simp),bindS];refine Ret.cond (fun _=>Ret.ok bad) fun c3=>?_;have c3:(0<=r.made/\r.made<=100000)/\(0<=r.about/\r.about<=100000):=by simpa[inB] using c3
 rw[AKx c1,ADR (by simp),bindS];refine Ret.ok (Ret.cond (fun _=>Ret.ok fun h=>by cases h) fun c8=>?_);have c8:0<=r.cents/\r.cents<=most r.kind:=by simpa[inB] using c8
 unfold I3;rw[bindS];refine Ret.cond (fun h=>?_) fun h=>?_
 . have h:=AX6 h;exact Ret.ok fun H=>⟨c1,c2.1,c2.2.1,c2.2.2.1,c2.2.2.2,c3.1,c3.2,c8,fun _=>AX6 H,fun h=>by omega,fun h=>by omega⟩
 . have h:=AYD h;have hx:(cond (decide (r.kind=9)) (some (!decide (r.about=0))) (some false):Option Bool)=some (decide (r.kind=9/\r.about≠0)):=by
    by_cases c:r.kind=9<;>by_cases d:r.about=0<;>simp[c,d]
   refine V7 hx (Ret.cond (fun _=>Ret.ok fun h=>by cases h) fun c11=>Ret.ok fun c10=>?_);have c11:=AYD c11;have c10:r.of_≠r.id:=by simpa using c10
   exact⟨c1,c2.1,c2.2.1,c2.2.2.1,c2.2.2.2,c3.1,c3.2,c8,fun h=>by omega,fun _=>c10,fun k9=>by
    by_cases d:r.about=0
    . exact d
    . exact absurd ⟨k9,d⟩ c11⟩
open Classical in
theorem AQF{r:Report}(hk:0<=r.kind/\r.kind<=255):H0 r=some (decide (V r)):=by
 obtain⟨b,I,H⟩:=ASF hk;by_cases h:V r
 . rw[AL5 h,AYA h]
 . cases b with
   |true=>exact absurd (H rfl) h
   |false=>rw[I,AX8 h]
open Classical in
def U3(l:List Report):Int:=if 60<l.length then 4 else if ∀r∈l,V r then(if AET l then 0 else 31) else 30
theorem code3_0{l:List Report}:U3 l=0↔VL l:=by
 unfold U3;constructor
 . intro h;split at h
   . cases h
   split at h
   . rename_i J I;split at h
     . rename_i H;exact⟨by omega,I,H⟩
     . cases h
   . cases h
 . intro h;rw[if_neg (by have:=h.len;omega),AYB h.v,AYB h.cons]
theorem ALA{l:List Report}(hl:l.length<=60)(h:¬∀r∈l,V r):U3 l=30:=by
 unfold U3;rw[if_neg (by omega),if_neg h]
theorem ALB{l:List Report}(hl:l.length<=60)(h:∀r∈l,V r)(H:¬AET l):U3 l=31:=by
 unfold U3;rw[if_neg (by omega),AYB h,if_neg H]
theorem AXf{l:List Report}(hk:∀r∈l,0<=r.kind/\r.kind<=255):AAY l=some (U3 l):=by
 refine Ret.eq ?_;unfold AAY;refine Ret.cond (fun c=>Ret.ok ?_) fun c1=>?_
 . have c:=AX6 c;unfold U3;rw[AYB (by omega)]
 have c1:=AYD c1;have hl:l.length<=60:=by omega
 refine Ret.bind (C2 l.length (fun n (t:Int)=>t=n/\∀r∈l.take n,V r) ⟨rfl,fun r I=>by simp at I⟩ ?_ ?_)
 . rintro n H _ ⟨rfl,hv⟩;refine Ret.condT (Y9 H) (Ret.bind (O4 H (Ret.bind ((AQE (hk _ (AYJ H))).mono fun b U=>?_))));cases b with
   |false=>exact Ret.condT rfl (Ret.done (E5 (Ret.ok (ALA hl fun h=>by have:=U.2 (h _ (AYJ H));cases this).symm)))
   |true=>
    refine Ret.condF rfl (Ret.bind (Ret.chk (by omega) (Ret.next ⟨by omega,fun r I=>?_⟩)))
    rw[C4 H]at I
    rcases I with I|rfl
    . exact hv r I
    . exact U.1 rfl
 rintro _ ⟨rfl,hv⟩;rw[AYL]at hv;refine Ret.condF (Z0 (AYE _)) (Ret.done (C8 (Ret.bind (C2 l.length (fun n (t:Int)=>t=n/\AET (l.take n)) ⟨rfl,fun a C=>by simp at C⟩ ?_ ?_))))
 . rintro n H _ ⟨rfl,F⟩;refine Ret.condT (Y9 H) (Ret.bind (C2 n (fun m (t:Int)=>t=m/\∀r∈l.take m,l[n].id=r.id->l[n]=r) ⟨rfl,fun r I=>by simp at I⟩ ?_ ?_))
   . rintro m hm _ ⟨rfl,E⟩;have J:m<l.length:=by omega
     refine Ret.condT (AYA (by omega)) (Ret.bind (Ret.bind (O4 H (Ret.bind (O4 J (Ret.cond (fun D=>?_) fun D=>?_))))))
     . have D:=AX6 D;refine Ret.bind (O4 H (Ret.bind (O4 J (Ret.ok ?_))));by_cases e:l[n]=l[m]
       . refine Ret.condF (by rw[AYA e];rfl) (Ret.bind (Ret.chk (by omega) (Ret.next ⟨by omega,fun r I hi=>?_⟩)));rw[C4 J]at I;rcases I with I|rfl
         . exact E r I hi
         . exact e
       . exact Ret.condT (by rw[AX8 e];rfl) (Ret.done (E5 (Ret.done (E5 (Ret.ok (ALB hl hv fun h=>e (h _ (AYJ H) _ (AYJ J) D)).symm)))))
     . have D:=AYD D;refine Ret.ok (Ret.condF rfl (Ret.bind (Ret.chk (by omega) (Ret.next ⟨by omega,fun r I hi=>?_⟩))));rw[C4 J]at I;rcases I with I|rfl
       . exact E r I hi
       . exact absurd hi D
   . rintro _ ⟨rfl,E⟩;refine Ret.condF (AX8 (by omega)) (Ret.done (C8 (Ret.bind (Ret.chk (by omega) (Ret.next ⟨by omega,fun a C b U W=>?_⟩)))));rw[C4 H]at C U;rcases C with C|rfl<;>rcases U with U|rfl
     . exact F a C b U W
     . exact(E a C W.symm).symm
     . exact E b U W
     . rfl
 . rintro _ ⟨rfl,F⟩;rw[AYL]at F;exact Ret.condF (Z0 (AYE _)) (Ret.done (C8 (Ret.ok (code3_0.2 ⟨hl,hv,F⟩).symm)))
open Classical in
theorem AMI{l:List Report}(hk:∀r∈l,0<=r.kind/\r.kind<=255):I9 l=some (U3 l):=by
 refine Ret.eq ?_;unfold I9;refine Ret.cond (fun c=>Ret.ok ?_) fun c1=>?_
 . have c:=AX6 c;unfold U3;rw[AYB (by omega)]
 have c1:=AYD c1;have hl:l.length<=60:=by omega
 have T:M9 l (fun a1=>Q5 a1)=some (l.any fun r=>!decide (V r)):=AJP (fun r H=>by
  show (H0 r).bind _=_;rw[AQF (hk r H),bindS]) (by omega)
 rw[T,bindS];refine Ret.cond (fun c=>Ret.ok ?_) fun c=>?_
 . obtain⟨r,H,W⟩:=List.any_eq_true.1 c;exact(ALA hl fun h=>by rw[AYA (h r H)]at W;cases W).symm
 have hv:∀r∈l,V r:=fun r H=>by
  have:=List.any_eq_false.1 c r H;simpa using this
 refine Ret.bind (C2 l.length (fun n (t:Int×A4 Int Report)=>t.1=n/\AET (l.take n)/\(∀i r,t.2 i=some r->r∈l.take n/\r.id=i)/\∀r∈l.take n,t.2 r.id=some r) ⟨rfl,(fun a U=>by simp at U),(fun i r H=>by cases H),(fun r H=>by simp at H)⟩ ?_ ?_)
 . rintro n I ⟨_,m⟩ ⟨rfl,E,hm,C⟩;dsimp only at hm C;refine Ret.condT (Y9 I) (Ret.bind (O4 I (Ret.bind ?_)));have stp:∀{Q:(Unit⊕Int)->Prop},(∀y,m l[n].id=some y->y=l[n])->Ret ((chk .i64 ((n:Int)+1)).bind fun n16=>some (Sum.inl (n16,B5 m l[n].id l[n])):Option ((Int×A4 Int Report)⊕(Unit⊕Int))) (Nxt (fun t=>t.1=((n+1:Nat):Int)/\AET (l.take (n+1))/\(∀i r,t.2 i=some r->r∈l.take (n+1)/\r.id=i)/\∀r∈l.take (n+1),t.2 r.id=some r) Q):=fun {Q} hy=>by
    refine Ret.bind (Ret.chk (by omega) (Ret.next ⟨by dsimp only;omega,(fun a U b D J=>?_),(fun i r H=>?_),(fun r H=>?_)⟩))
    . rw[C4 I]at U D;rcases U with U|rfl<;>rcases D with D|rfl
      . exact E a U b D J
      . exact hy _ (by rw[<-J];exact C a U)
      . exact(hy _ (by rw[J];exact C b D)).symm
      . rfl
    . dsimp only[B5]at H;rw[C4 I];split at H
      . rename_i e;cases H;exact⟨.inr rfl,e.symm⟩
      . obtain⟨W,K⟩:=hm _ _ H;exact⟨.inl W,K⟩
    . dsimp only[B5];rw[C4 I]at H;rcases H with H|rfl
      . split
        . rename_i e;rw[hy r (by rw[<-e];exact C r H)]
        . exact C r H
      . rw[AYB rfl]
   cases F:m l[n].id with
   |none=>
    refine Ret.condF rfl (Ret.ok (Ret.condF rfl (stp fun y hy=>?_)))
    rw[F]at hy;cases hy
   |some y=>
    refine Ret.condT rfl (Ret.ok ?_)
    by_cases e:y=l[n]
    . refine Ret.condF (by show(!decide (y=l[n]))=false;rw[AYA e];rfl) (stp fun z O=>?_)
      rw[F]at O;cases O;exact e
    . obtain⟨W,K⟩:=hm _ _ F
      refine Ret.condT (by show(!decide (y=l[n]))=true;rw[AX8 e];rfl) (Ret.done (E5 (Ret.ok (ALB hl hv fun h=>e (h y (AZC W) _ (AYJ I) K)).symm)))
 . rintro⟨_,m⟩ ⟨rfl,E,_,_⟩;rw[AYL]at E;exact Ret.condF (Z0 (AYE _)) (Ret.done (C8 (Ret.ok (code3_0.2 ⟨hl,hv,E⟩).symm)))
open Classical in
def M7(d:Desk):Int:=if TV d.terms then(if U3 d.reports=0 then(if DV d then(if WV d then 0 else 52) else 51) else U3 d.reports) else 50
end S
end Go.Proofs.YtgioiejbphljoaaGreatDoor
namespace Go.Proofs.YtgioiejbphljoaaGreatDoor
open Go Go.Sx Go.Rx Go.RowKit
def V3(d:Desk_99)(x:Dispute)(v:Verdict)(l:List Report):Option (List Report):=Option.bind (α:=(Int×Int×Int)) (cond (decide (v.is_=3)) (some (v.by_.about,(8:Int),v.by_.cents)) (some ((0:Int),(9:Int),(0:Int)))) ((fun (x1,x2,x3)=>(appo 64 l ([(Report.mk x.id (((d.facts x.report).getD (Report.mk 0 0 0 0 0 0 0 0)).source) (((d.facts x.report).getD (Report.mk 0 0 0 0 0 0 0 0)).account) v.day x1 x2 x3 (((d.facts x.report).getD (Report.mk 0 0 0 0 0 0 0 0)).id))])).bind fun l4=>some (l4)))
def AI3:An:=.nd .x (.nd .x (.nd (.nd .x (.jn [.norm ⟨[(.cell 10 4,.d (.int .i64)),(.cell 10 5,.d (.int .u8)),(.cell 10 6,.d (.int .i64))],[10,6,66]⟩] .x)) .x))
def AAZ(d:Desk_99)(l:List Report):Option (List Report×Int):=(chk .i64 ((d.desk.reports.length:Int)+(l.length:Int))).bind fun n1=>cond (decide (60<n1)) (some (([]:List Report),(9:Int))) ((I1 ([(78:Nat),(79:Nat)]) l).bind fun (_,m2)=>(T4 ([d.desk.reports,m2])).bind fun r3=>some (r3,(0:Int)))
def ALC:An:=.x
end Go.Proofs.YtgioiejbphljoaaGreatDoor
namespace Go.Rx
open Go Go.Sx Go.RowKit
section
variable[Trk][Sg][Sf]{P:Program}[Se P][Anch]{w0 w:World}{M:List Nat}{N:Nat}{ds:List Deferred}
theorem ANU[Sl (P:=P)]{G:Gx}(D:GxOk P G)(r:Option Nat){n:Nat}(c:Code)(an:An){sh:Sh}{σ:AS}{x:O2 sh.cs}{L:A7}{w:World}{A B:A3}{X:Nat->A3}{Z:List PanicEntry->A3}(h:exec G N (fun _=>(none:Option Unit)) c an (I8 sh) (fun _ _=>none) (fun _=>none) σ=some x)(C:Holds (P:=P) w0 [] M σ L w)(hA:∀L' w',EnvS (D4 c++C9 an) L L'->Holds (P:=P) w0 [] M (B6 (D4 c++C9 an) sh σ x) L' w'->A ds L' w'):CF r n P N c ds L w A B X Z:=
 ACk (I0 D c an _ _ _ _ _ _ _ _ _ _ _ _ _ h C (fun σ1 L1 w1 E V I H=>by
  obtain⟨S,ρ,γ,μ,ι,U⟩:=H;exact hA L1 w1 I (T2 U V E)) (fun i σ2 L2 w2 J=>by cases J) (fun r σ2 L2 w2 J F _ W=>by cases J) PZ.no)
end
theorem AFu[Trk][Sg][Sf]{P:Program}[Se P][Sl (P:=P)][Sn P](J:¬Trk.t){G:Gx}(T:GxOk P G){f:Func}{cs:List Ck}{M:List Nat}{w:World}{r:E2 cs}(V:Nat.ble cs.length 4=true)(K:tnK cs=true){D:Nat}(hD:w.heap.size<=D){σ':AS}{L':A7}{w':World}(L:V0 G cs f.results.toList σ'=some r)(F:@Holds _ _ _ P _ (AHV D) _ w [] M σ' L' w'):FinM P f (fun e w'=>∃vs,e=.returned (ABs vs)/\KsOk (P:=P) M (X7 cs vs++M) w w' cs r vs/\Ext w w') [{ target:=.collected D,args:=#[] }] L' w':=by
 obtain⟨vs,N,Z,X,I⟩:=@AL1 _ _ _ P _ _ (AHV D) G T _ _ _ _ _ _ _ _ F L;obtain⟨S,ρ,γ,μ,ι,Q⟩:=F;have E:D∉mm S M/\w'.heap[D]?=some (.deferred (some [])):=by
  letI:=AHV D
  exact Q.anch.1
 have H:Tn w' (w'.putObj D (.deferred none)):=⟨by simp,fun b o U W=>by
  by_cases e:b=D
  . subst e;rw[E.2]at U;cases U;cases W
  . exact(World.putObj_heap_other e).trans U⟩
 have hx:Ext w (w'.putObj D (.deferred none)):=⟨I.os,I.tape,I.output,AYG I.size (by simp),fun b O V=>(World.putObj_heap_other (by omega)).trans (I.block b O V),fun h=>absurd h J⟩;have B:=N8 (P:=P) (fn:=f) (R:=fun e w'=>∃vs,e=.returned (ABs vs)/\KsOk (P:=P) M (X7 cs vs++M) w w' cs r vs/\Ext w w') (by simp) (AllRs.tn H N) (by rw[Z];exact V) ⟨vs,by rw[AER],KsOk.tn H cs K X,hx⟩;obtain⟨_,v,A,Y⟩:=B;exact .inr ⟨D,_,rfl,run_takeDeferred E.2,v,fun a C=>A { tmps:=a.tmps,defers:=[] } ⟨C.size,rfl,C.val⟩,Y⟩
end Go.Rx
namespace Go.Proofs.YtgioiejbphljoaaGreatDoor
open Go Go.Sx Go.Rx Go.RowKit
theorem AT4:AJt ReportE:=fun h=>ReportE_R.2 (ReportE_R.1 h)
def ABQ(x:Dispute):List Value:=[.int .i64 x.id,.int .i64 x.report,.int .i64 x.day]
def ADS(v:Verdict):List Value:=[.int .i64 v.day,.int .u8 v.is_,.int .i64 v.by_.id,.int .i64 v.by_.dispute,.int .i64 v.by_.day,.int .u8 v.by_.says,.int .i64 v.by_.about,.int .i64 v.by_.cents]
noncomputable def AXU:Code:=match f41.body with
 |some (.seq _ (.seq _ (.seq (.seq _ (.block _ c)) _)))=>c
 |_=>.skip
noncomputable def AT5:Code:=match AXU with
 |.rangeFunc _ _ _ b=>b
 |_=>.skip
noncomputable def AT6:Code:=match f41.body with
 |some (.seq _ (.seq _ (.seq _ c)))=>c
 |_=>.skip
def sB(d:Desk_99)(x:Dispute)(v:Verdict)(l:List Report):AS:=⟨(6,.ptr 6 0)::[(2,.rp (.str 10 d) 0),(7,.rp (.str 2 x) 0),(8,.rp (.str 12 v) 0)],[(6,.row 24 [.own 66]),(66,.own false (.sl 45 (.st 1)) l)],[],[]⟩
def sP(d:Desk_99)(l:List Report):AS:=⟨(6,.ptr 6 0)::[(2,.rp (.str 10 d) 0)],[(6,.row 24 [.own 66]),(66,.own false (.sl 45 (.st 1)) l)],[],[]⟩
def shB:Sh:=⟨[(.cell 6 0,.own (.sl 45 (.st 1)))],[6]⟩
def cs41:List Ck:=[.own (.sl 45 (.st 1)),.d (.int .i64)]
def ANV:Gx:={ gxb with fs:=[(78,ctr78),(79,ctr79),(80,ctr80)],fm:=[(77,ctrm77)] }
theorem AIP:GxOk prog ANV:=ACp ⟨⟨ok78,call78⟩,⟨ok79,call79⟩,⟨ok80,call80⟩,trivial⟩ trivial ⟨⟨okm77,call77⟩,trivial⟩
theorem ASG(d:Desk_99)(x:Dispute)(v:Verdict)(l:List Report):exec gxb 65 (fun _=>(none:Option Unit)) AT5 AI3 (I8 shB) (fun _ _=>none) (fun _=>none) (sB d x v l)=V3 d x v l:=by kernel_rfl
theorem AT7(d:Desk_99)(l:List Report):exec ANV 65 (V0 ANV cs41 f41.results.toList) AT6 ALC (V0 ANV cs41 f41.results.toList) (fun _ _=>none) some (sP d l)=AAZ d l:=by kernel_rfl
def AXV(M:List Nat)(b6:Nat)(Lb:Sx.A7)(x:Dispute×Verdict)(L:Sx.A7)(W:World):Prop:=∃b7 b8 u,L=(8,.pointer (some ⟨b8,0,none⟩))::(7,.pointer (some ⟨b7,0,none⟩))::(15,M8 (.st 12) x.2)::(14,M8 (.st 2) x.1)::Lb/\Row 53 W b7 (ABQ x.1)/\Row 111 W b8 (ADS x.2)/\Row 24 W b6 [u]/\(b7∉ob u/\b7≠b6/\b7∉M)/\(b8∉ob u/\b8≠b6/\b8∉M)
theorem AGo{e:TypeId}{W W':World}{b:Nat}{cs:List Value}{row:Option Nat}(h:Row e W b cs)(I:W.grownBy W' row)(H:∀r,row=some r->∃o:Obj,W.heap[r]?=some o/\o.isCells=false):Row e W' b cs:=by
 have h:W.heap[b]?=_:=h;refine(I.block b (K7 h) fun e'=>?_).trans h;obtain⟨o',g1,g2⟩:=H b e'.symm;rw[h]at g1;cases g1;cases g2
theorem AI4[Anch]{w:World}{M:List Nat}{b6:Nat}{u:Value}{l:List Report}{L:Sx.A7}{W:World}{env:List (Nat×SV)}(e2:Hp w [] M (F5 ReportE 45 24 b6 u l) W)(l6:Sx.A5 L 6=some (.pointer (some ⟨b6,0,none⟩)))(J:∀t s,A1 env t=some s->∃v,Sx.A5 L t=some v/\Ok (P:=prog) (fun i=>if i=6 then .pointer (some ⟨b6,0,none⟩) else u) (A1 [(6,.row 24 [.own 66]),(66,.own false (.sl 45 (.st 1)) l)]) (mm (F5 ReportE 45 24 b6 u l) M) W s v)(hA:AnOk (P:=prog) (mm (F5 ReportE 45 24 b6 u l) M) W):
  Holds (P:=prog) w [] M ⟨(6,.ptr 6 0)::env,[(6,.row 24 [.own 66]),(66,.own false (.sl 45 (.st 1)) l)],[],[]⟩ L W:=by
 refine⟨F5 ReportE 45 24 b6 u l,fun i=>if i=6 then .pointer (some ⟨b6,0,none⟩) else u,fun i=>if i=6 then [u] else [],fun _=>[],fun i=>if i=6 then 1 else 0,e2,fun i a hi=>?_,fun i j a b hi H e=>?_,fun i a hi=>?_,fun t s I=>?_,hA⟩
 . rw[fnd_cons]at hi
   split at hi
   . rename_i e;subst e;cases hi;rfl
   rw[fnd_cons]at hi
   split at hi
   . rename_i e;subst e;cases hi;rfl
   cases hi
 . rw[fnd_cons]at hi H
   split at hi<;>split at H
   . rename_i e1 e2;rw[<-e1,<-e2]
   . rename_i e1 e2
     rw[fnd_cons]at H
     split at H
     . rename_i e3;subst e1 e3;cases e
     . cases H
   . rename_i e1 e2
     rw[fnd_cons]at hi
     split at hi
     . rename_i e3;subst e2 e3;cases e
     . cases hi
   . rw[fnd_cons]at hi H
     split at hi<;>split at H
     . rename_i e3 e4;rw[<-e3,<-e4]
     . cases H
     . cases hi
     . cases hi
 . rw[fnd_cons]at hi
   split at hi
   . rename_i e;subst e;cases hi
     exact⟨⟨b6,rfl⟩,u,[u],[],rfl,⟨rfl,Own.cells1 (e2.ownAt 0 rfl),Own.oneC (e2.ownAt 0 rfl)⟩,Own.cells1 (e2.ownAt 0 rfl),rfl⟩
   rw[fnd_cons]at hi
   split at hi
   . rename_i e;subst e;cases hi;trivial
   cases hi
 . rw[fnd_cons]at I
   split at I
   . rename_i e;subst e;cases I;exact⟨_,l6,b6,rfl,rfl⟩
   . exact J t s I
def F3(d:Desk_99)(day:Int):Option (List Report×Int):=(C7 d day).bind fun ys=>(ABT (fun l (y:Dispute×Verdict)=>V3 d y.1 y.2 l) [] ys).bind fun l=>AAZ d l
def ctr41:Ctr:=⟨[.d (.st 10),.d (.int .i64)],cs41,fun a=>F3 a.1 a.2.1⟩
theorem ok41:Ctr.ok prog 41 ctr41:=by
 refine⟨by decide,fun M w a vals r hM hg ha J=>?_⟩;obtain⟨d,day,_⟩:=a;obtain⟨vd,_,rfl,X,vk,_,rfl,g,rfl⟩:=ha;have X:OkD (P:=prog) M w (.st 10) d vd:=X;have g:OkD (P:=prog) M w (.int .i64) day vk:=g;have J:F3 d day=some r:=J;unfold F3 at J;obtain⟨ys,hys,J⟩:=R0 J;obtain⟨l0,hl0,J⟩:=R0 J;obtain⟨ho1,ho2⟩:=AE3 hl0;have N:=X;obtain⟨cs,C,h3⟩:=X;obtain rfl:vd=.agg (toArray cs):=h3.elim (fun h=>h.2) fun h=>by cases h.1
 have hncs:cs.length=8:=(enc (P:=prog) (.st 10)).len C;refine ABZ (l:=[.agg (toArray cs),vk]) func41 rfl rfl rfl ?_;have hI:=Hp.start (Mu:=[]) hM;refine A6 ?_;refine A8 ?_;refine AAD hI rfl rfl rfl ?_;intro b2 w2 R x2;have hC2:=R.freezeRow 0 rfl;have R:=R.erase 0;refine G7 rfl rfl ?_;refine G7 rfl rfl ?_;refine Reg.nil ?_;refine A6 ?_;refine A8 ?_;refine ACQ R zeroValue24 rfl rfl ?_;intro b6 w3 O x3;refine Reg.nil ?_;have O:Hp w [] M (F5 ReportE 45 24 b6 (.slice none 0 0) []) w3:=O.addNil ReportE 45;have Y:Adv M (mm (F5 ReportE 45 24 b6 (.slice none 0 0) []) M) w w3:=O.adv;have hb6:w.heap.size<=b6:=((O.own _ (AX1 (i:=1) rfl)).2 b6 (mem_singleton.2 rfl)).resolve_left (fun h=>by cases h);have hC3:RdC (mm (F5 ReportE 45 24 b6 (.slice none 0 0) []) M) w3 b2 0 cs:=(hC2.adv x3).adv (AB3 ReportE 45);refine A6 ?_;refine A6 ?_;refine A8 ?_;refine AAs rfl hC3.cells isAgg99 hncs sizeOf99 rfl ?_;refine J3 rfl rfl ?_;refine X6 rfl call45 rfl ?_;refine(ok45.2 (mm (F5 ReportE 45 24 b6 (.slice none 0 0) []) M) w3 (d,day,()) [.agg cs.toArray,vk] ys O.mlt (hg.adv Y) ⟨_,_,rfl,OkD.adv N Y,_,_,rfl,OkD.adv g Y,rfl⟩ hys).mono ?_;rintro _ w4 ⟨_,rfl,⟨v13,rfl,⟨gf,lb,rfl,heg,hok,hit⟩,_⟩,x4⟩;refine⟨_,rfl,?_⟩;refine Reg.nil ?_;have p:=O.ext x4;have G:=Adv.of_ext (M:=mm (F5 ReportE 45 24 b6 (.slice none 0 0) []) M) x4;have hC4:=hC3.adv G;have hd4:=OkD.adv N (Y.trans G);have hg4:=hg.adv (Y.trans G);have hseq:=hit (mm (F5 ReportE 45 24 b6 (.slice none 0 0) []) M) w4 (Adv.refl _ _) p.mlt {x // x∈ys} Subtype.val ys.attach (AYd ys);generalize Z:((13,ABs [Value.func (.func gf) #[] lb])::(12,vk)::(11,Value.agg cs.toArray)::(6,Value.pointer (some ⟨b6,0,none⟩))::(5,Value.int .i64 0)::(4,Value.slice none 0 0)::(2,Value.pointer (some ⟨b2,0,none⟩))::P6 0 [Value.agg cs.toArray,vk])=Lb;have lb2:Sx.A5 Lb 2=some (.pointer (some ⟨b2,0,none⟩)):=by rw[<-Z];rfl
 have lb6:Sx.A5 Lb 6=some (.pointer (some ⟨b6,0,none⟩)):=by rw[<-Z];rfl
 have lb13:Sx.A5 Lb 13=some (.func (.func gf) #[] lb):=by rw[<-Z];rfl
 clear Z;have hcells:∀x∈ys,okI (.st 2) x.1/\okI (.st 12) x.2:=hok;let S0:=F5 ReportE 45 24 b6 (.slice none 0 0) [];let I:List {x // x∈ys}->World->Prop:=fun pre W=>∃l u,List.foldlM (fun l (y:Dispute×Verdict)=>V3 d y.1 y.2 l) [] (pre.map Subtype.val)=some l/\Hp w [] M (F5 ReportE 45 24 b6 u l) W/\Adv (mm S0 M) (mm (F5 ReportE 45 24 b6 u l) M) w4 W;have f:w.heap.size<=w4.heap.size:=p.kp.size;have hKI:∀{u u':Value} {l l':List Report} {W W':World},Hp w [] M (F5 ReportE 45 24 b6 u l) W->Hp w [] M (F5 ReportE 45 24 b6 u' l') W'->Adv (mm S0 M) (mm (F5 ReportE 45 24 b6 u l) M) w4 W->Adv (mm (F5 ReportE 45 24 b6 u l) M) (mm (F5 ReportE 45 24 b6 u' l') M) W W'->KeepsFrom w4.heap.size W W'/\KI (mm S0 M) w4.heap.size W W':=fun {u u' l l' W W'} h h' hA Q=>by
  obtain⟨_,k⟩:=h.kb h' Q;refine⟨⟨k.size,fun i o hB=>k.same i o (AYG f hB)⟩,Q.kp.os,Q.kp.tape,Q.kp.output,Q.kp.size,fun b V hn=>?_⟩;refine Q.kp.block b (AYH V hA.kp.size) fun hm=>?_;exact(hA.new b hm).elim hn fun h=>by omega
 refine H4 ?_;refine AMe (val:=fun x:{x // x∈ys}=>M8 (.st 2) x.1.1) (val2:=fun x:{x // x∈ys}=>M8 (.st 12) x.1.2) (K:=KI (mm S0 M) w4.heap.size) (xs:=ys.attach) lb13 heg rfl rfl hseq (fun h k=>h.trans k) (fun W k o o' hk _ _ _=>KI.putObj hk) I (fun _ _=>False) ?_ (fun _ _ _ _ h _ _=>h.elim) ⟨[],.slice none 0 0,rfl,p,Adv.refl _ _⟩ (fun x L' W=>AXV M b6 Lb x.1 L' W) ?_ ?_ ?_ ?_ (fun _ _ _ _ _ h _=>h.elim)
 . rintro pre W W' row ⟨l,u,e1,e2,e3⟩ E J;exact⟨l,u,e1,e2.turnG AT4 (fun h=>h) E (fun r e=>⟨AYG f (J r e).1,(J r e).2⟩),Adv.turn (fun h=>h) e3 E J⟩
 . rintro x L' _ W W' row ⟨b7,b8,u,e1,e2,e3,e4,e5⟩ E J;exact⟨b7,b8,u,e1,AGo e2 E fun r e=>(J r e).2,AGo e3 E fun r e=>(J r e).2,AGo e4 E fun r e=>(J r e).2,e5⟩
 . rintro k pre x W ⟨l,u,e1,e2,e3⟩;refine AG3 ?_;refine AAw rfl ?_;refine ACQ e2 zeroValue53 rfl rfl ?_;intro b7 w5 hI5 x5;refine ABF 0 (vs:=ABQ x.1.1) hI5 rfl rfl rfl rfl sizeOf53 rfl rfl (D3 rfl (D3 rfl (D3 rfl ACL))) ?_;intro w6 m x6;have m:Hp w [] M (rowR 53 b7 (ABQ x.1.1)::F5 ReportE 45 24 b6 u l) w6:=m;refine Reg.nil ?_;refine AAw rfl ?_;refine ACQ m zeroValue111 rfl rfl ?_;intro b8 w7 hI7 x7;refine ABF 0 (vs:=ADS x.1.2) hI7 rfl rfl rfl rfl sizeOf111 rfl rfl (D3 rfl (D3 rfl (D3 rfl (D3 rfl (D3 rfl (D3 rfl (D3 rfl (D3 rfl ACL)))))))) ?_;intro w8 H x8;have H:Hp w [] M (rowR 111 b8 (ADS x.1.2)::rowR 53 b7 (ABQ x.1.1)::F5 ReportE 45 24 b6 u l) w8:=H;have hI9:Hp w [] M (F5 ReportE 45 24 b6 u l) w8:=(H.erase 0).erase 0;have hA:Adv (mm (F5 ReportE 45 24 b6 u l) M) (mm (F5 ReportE 45 24 b6 u l) M) W w8:=x5.trans (x6.trans (x7.trans (x8.trans ((G5 (σ:=rowR 111 b8 (ADS x.1.2)::rowR 53 b7 (ABQ x.1.1)::F5 ReportE 45 24 b6 u l) 0).trans (G5 (σ:=rowR 53 b7 (ABQ x.1.1)::F5 ReportE 45 24 b6 u l) 0)))));obtain⟨k1,k2⟩:=hKI e2 hI9 e3 hA;refine Reg.nil ⟨rfl,k1,k2,⟨l,u,e1,hI9,e3.trans hA⟩,b7,b8,u,rfl,H.row 1 rfl,H.row 0 rfl,H.row 3 rfl,⟨?_,?_,?_⟩,?_,?_,?_⟩
   . exact fun V=>H.dis 1 2 _ _ rfl rfl (by omega) b7 (mem_singleton.2 rfl) V
   . exact fun e=>H.dis 1 3 _ _ rfl rfl (by omega) b7 (mem_singleton.2 rfl) (mem_singleton.2 e)
   . exact H.sepM _ (AX1 (i:=1) rfl) b7 (mem_singleton.2 rfl)
   . exact fun V=>H.dis 0 2 _ _ rfl rfl (by omega) b8 (mem_singleton.2 rfl) V
   . exact fun e=>H.dis 0 3 _ _ rfl rfl (by omega) b8 (mem_singleton.2 rfl) (mem_singleton.2 e)
   . exact H.sepM _ (AX1 (i:=0) rfl) b8 (mem_singleton.2 rfl)
 . rintro k pre x L' W ⟨l,u,e1,e2,e3⟩ ⟨b7,b8,u',rfl,r7,r8,r6,s7,s8⟩ hlt;obtain rfl:u'=u:=by
    have e9:W.heap[b6]?=_:=e2.row 1 rfl;have e8:W.heap[b6]?=_:=r6;rw[e9]at e8;have:=AXz e8;injection this with h9;simpa using h9.symm
   obtain⟨l',hb',hfold⟩:=ho2 (pre.map Subtype.val) x.1 l (by simpa using hlt) (fun y hy=>by obtain⟨z,_,rfl⟩:=mem_map.1 hy;exact z.2) x.2 e1;have L:∀b,b∈mm (F5 ReportE 45 24 b6 u' l) M->b∈ob u'\/b=b6\/b∈M:=fun b V=>by
    simp only[mm,ownR,rowR,mem_append,mem_cons,List.not_mem_nil,or_false]at V;rcases V with C|C|C
    . exact .inl C
    . exact .inr (.inl C)
    . exact .inr (.inr C)
   letI:Anch:=AVV (mm (F5 ReportE 45 24 b6 u' l) M) W
   have j:Holds (P:=prog) w [] M (sB d x.1.1 x.1.2 l) ((8,.pointer (some ⟨b8,0,none⟩))::(7,.pointer (some ⟨b7,0,none⟩))::(15,M8 (.st 12) x.1.2)::(14,M8 (.st 2) x.1.1)::Lb) W:=by
    refine AI4 e2 lb6 (fun t s U=>?_) ⟨Adv.refl _ _,hg4.adv e3⟩;rw[fnd_cons]at U;split at U
    . rename_i e;subst e;cases U;exact⟨_,lb2,b2,0,_,cs,rfl,hC4.adv e3,OkD.adv hd4 e3,rfl⟩
    rw[fnd_cons]at U;split at U
    . rename_i e;subst e;cases U;exact⟨_,rfl,b7,0,_,ABQ x.1.1,rfl,H9 (fun V=>(L b7 V).elim s7.1 fun h=>h.elim s7.2.1 s7.2.2) r7,ADs (.st 2) (hcells x.1 x.2).1,rfl⟩
    rw[fnd_cons]at U;split at U
    . rename_i e;subst e;cases U;exact⟨_,rfl,b8,0,_,ADS x.1.2,rfl,H9 (fun V=>(L b8 V).elim s8.1 fun h=>h.elim s8.2.1 s8.2.2) r8,ADs (.st 12) (hcells x.1 x.2).2,rfl⟩
    cases U
   refine AGh (ANU AFq (some k) AT5 AI3 (sh:=shB) ((ASG d x.1.1 x.1.2 l).trans hb') j fun L2 W2 hE2 B=>?_);obtain⟨S2,ρ2,γ2,μ2,ι2,F⟩:=B;obtain⟨v6,l26,bb,hbb,rfl⟩:=F.env 6 (.ptr 6 0) rfl;have hbb6:bb=b6:=by
    have:=(hE2 6 (by decide)).trans lb6;rw[l26]at this;injection this with h9;injection h9 with h9;simpa using h9
   subst hbb6;obtain⟨bq,hbq,rq,oq,iq⟩:=F.rowAt (i:=6) (e:=24) (l:=[.own 10600]) rfl;rw[hbb]at hbq;cases hbq;obtain⟨q,eq1,oq1⟩:=ACK oq;have oq1:q=[]:=oq1;rw[oq1]at eq1;rw[eq1]at iq;have io:=F.res 10600 (.own false (.sl 45 (.st 1)) l') rfl;have io:S2[ι2 10600]?=some (ownR [] ReportE 45 (ρ2 10600) l'):=io;have hni:ι2 10600≠ι2 6:=fun e=>by
    have:=F.inj 10600 6 _ _ rfl rfl e;cases this
   have S:sel S2 [ι2 10600,ι2 6]=F5 ReportE 45 24 bb (ρ2 10600) l':=by
    simp only[sel,nthR_eq,io,iq]
   have v:=F.hp.sel [ι2 10600,ι2 6] (by simp[ABY,hni]);rw[S]at v;have c:Adv (mm (F5 ReportE 45 24 bb u' l) M) (mm (F5 ReportE 45 24 bb (ρ2 10600) l') M) W W2:=by
    have C:Adv (mm (F5 ReportE 45 24 bb u' l) M) (mm S2 M) W W2:=F.anch.1;have T:=C.trans (AHr (M:=M) (w:=W2) (σ:=S2) [ι2 10600,ι2 6]);rw[S]at T;exact T
   obtain⟨k1,k2⟩:=hKI e2 v e3 c;exact⟨k1,k2,l',ρ2 10600,by rw[AYI];exact hfold,v,e3.trans c⟩
 . rintro D W hD ⟨l,u,e1,e2,e3⟩ A;rw[AYd,ho1]at e1;cases e1
   have hDm:D∉mm (F5 ReportE 45 24 b6 u l0) M:=fun V=>by
    simp only[mm,ownR,rowR,mem_append,mem_cons,List.not_mem_nil,or_false]at V;rcases V with C|C|C
    . obtain⟨o,T,h3⟩:=(e2.ownAt 0 rfl).isC D C;rw[A]at T;cases T;cases h3
    . have T:W.heap[b6]?=_:=e2.row 1 rfl;rw[<-C,A]at T;cases T
    . have:=hM D C;omega
   letI:Anch:=AHV D
   have j:Holds (P:=prog) w [] M (sP d l0) Lb W:=by
    refine AI4 e2 lb6 (fun t s U=>?_) ⟨⟨hDm,A⟩,hg4.adv e3⟩;rw[fnd_cons]at U;split at U
    . rename_i e;subst e;cases U;exact⟨_,lb2,b2,0,_,cs,rfl,hC4.adv e3,OkD.adv hd4 e3,rfl⟩
    cases U
   have hDw:w.heap.size<=D:=AYG f hD;exact Y1 (n:=3) (ACk (I0 AIP AT6 ALC _ _ _ _ _ _ _ _ _ _ _ _ _ ((AT7 d l0).trans J) j (fun σ2 L2 w2 T _ _ B=>AFu (fun h=>h) AIP (by decide) rfl hDw T B) (fun i σ2 L2 w2 T=>by cases T) (fun r' σ2 L2 w2 hp hk _ B=>by
    have hk:r'=r:=AXz hk;subst hk;exact AFu (fun h=>h) AIP (by decide) rfl hDw hp B) PZ.no))
def X9(d:Desk)(asked:List Asked)(day:Int):Option ((Desk_99×List Asked×List Report×Int)⊕(List Letter×Int)):=(F4 d day).bind fun (r1,r2)=>cond ((!decide (r2=0))) (some (Sum.inr (([]:List Letter),r2))) ((C0 (S:=(Int×Int)) (R:=(Unit⊕((List Letter)×Int))) (fun (x12,x13)=>cond (decide (x13<(asked.length:Int))) ((ixo asked x13).bind fun y14=>Option.bind (α:=Bool) ((chk .i64 (x12+1)).bind fun n15=>(D9 n15 (999999:Int) ([y14.id])).bind fun r16=>cond ((!r16)) (some true) ((D9 (0:Int) (999999:Int) ([y14.who,y14.account])).bind fun r17=>cond ((!r17)) (some true) ((D9 (0:Int) (100000:Int) ([y14.day])).bind fun r18=>some (!r18)))) ((fun x19=>cond (x19) (some (Sum.inr (Sum.inr (([]:List Letter),(53:Int))))) ((chk .i64 (x13+1)).bind fun n20=>some (Sum.inl (y14.id,n20)))))) (some (Sum.inr (Sum.inl ())))) (((-1):Int),(0:Int))).bind ((Sum.elim (fun _=>cond (decide (40<(asked.length:Int))) (some (Sum.inr (([]:List Letter),(53:Int)))) ((F3 r1 day).bind fun (r21,r22)=>cond ((!decide (r22=0))) (some (Sum.inr (([]:List Letter),r22))) (some (Sum.inl (r1,asked,r21,day))))) (fun r23=>some (Sum.inr r23)))))
def AMJ:An:=.nd .x (.nd .x (.nd .x (.nd .x (.nd (.nd .x (.lp ⟨[(.slot 10,.d (.int .i64)),(.slot 37,.d (.int .i64))],[8,4]⟩ [.exit 0 ⟨[],[8,4]⟩,.ret] (.nd .x (.nd .x (.nd (.nd .x (.nd (.nd (.jn [.norm ⟨[(.slot 63,.d .bool)],[12,8,4]⟩] .x) .x) .x)) .x))))) .x))))
def AAa(l:List Report)(y:Dispute)(v:Verdict):Option (Report×Bool):=(T5 l v.day).bind fun r1=>some (((r1 y.report).getD (Report.mk 0 0 0 0 0 0 0 0)),((r1 y.report).isSome))
def AIQ:An:=.x
def AAJ(x:Desk_99)(l:List Report)(y:Dispute)(v:Verdict)(now:Report)(is_:Bool)(a:Asked):Option (Bool⊕Unit):=Option.bind (α:=Bool) (cond ((!decide (a.account=(((x.facts y.report).getD (Report.mk 0 0 0 0 0 0 0 0)).account)))) (some true) (cond (decide (v.day<=a.day)) (some true) ((chk .i64 (v.day-a.day)).bind fun n2=>some (decide (x.desk.terms.lately<n2))))) ((fun x3=>cond (x3) (some (Sum.inr ())) ((T5 l a.day).bind fun r4=>Option.bind (α:=Bool) (cond ((r4 y.report).isSome) (cond (decide ((((r4 y.report).getD (Report.mk 0 0 0 0 0 0 0 0)).about)<=a.day)) (cond ((!is_)) (some true) (some (!decide (((r4 y.report).getD (Report.mk 0 0 0 0 0 0 0 0))=now)))) (some false)) (some false)) ((fun x5=>some (Sum.inl (x5)))))))
def AGp:An:=.nd (.nd (.jn [.norm ⟨[(.slot 126,.d .bool)],[]⟩] .x) .x) (.nd .x (.jn [.norm ⟨[(.slot 153,.d .bool)],[]⟩] .x))
def M5(l:List Letter):Option (List Letter×Int):=(I2 ([(49:Nat),(50:Nat)]) l).bind fun (_,m1)=>some (m1,(0:Int))
def ALD:An:=.x
end Go.Proofs.YtgioiejbphljoaaGreatDoor
namespace Go.Rx
open Go Go.Sx Go.RowKit
def ALE:Nat->Code->An->Bool
 |0,.seq _ _,_=>true
 |n+1,.seq _ b,.nd _ r=>ALE n b r
 |_,_,_=>false
section
variable[Trk][Sg][Sf]{P:Program}[Se P][Anch]{w0 w:World}{M:List Nat}{r:Option Nat}{n N:Nat}{ds:List Deferred}
theorem ALF[Sl (P:=P)]{G:Gx}(O:GxOk P G):∀(m:Nat) (c:Code) (an:An) {Y:Type} {KN:AS->Option Y} {KX:Nat->AS->Option Y} {σ:AS} {L:A7} {w:World} {z:Y} {A B:A3} {X:Nat->A3} {Z:List PanicEntry->A3},(∀(L:A7) (w:World) (v:Value) (T t:Nat) (L2:A7) (ds:List Deferred),blt t pnc=true->(∀u,u≠t->Sx.A5 L2 u=Sx.A5 L u)->X (ACZ T t) ds ((t,v)::L) w->Z [{ v:=.iface T v,recovered:=false }] ds L2 w)->ALE m c an=true->exec G N (fun _=>(none:Option Unit)) (N9 m c) an KN KX (fun _=>none) σ=some z->Holds (P:=P) w0 [] M σ L w ->
  (∀σ' L' w',KN σ'=some z->EnvS (D4 (N9 m c)++C9 an) L L'->Holds (P:=P) w0 [] M σ' L' w'->CF r n P N (AJQ m c) ds L' w' A B X Z) ->
  (∀i σ' L' w',KX i σ'=some z->EnvS (D4 (N9 m c)++C9 an) L L'->Holds (P:=P) w0 [] M σ' L' w'->X i ds L' w')->CF r n P N c ds L w A B X Z
 |0,.seq a b,an,Y,KN,KX,σ,L,w,z,A,B,X,Z,D,_,h,K,hA,E=>AKh (I0 O a an _ _ _ _ _ _ _ _ _ _ _ _ _ h K (fun σ1 L1 w1 Q _ V C=>hA σ1 L1 w1 Q V C) (fun i σ2 L2 w2 U _ J I=>E i σ2 L2 w2 U J I) (fun r σ2 L2 w2 U S _ I=>by cases U) ⟨fun T t L1 L2 w v W hl hx=>D L1 w v T t L2 ds W hl hx,fun _ _ _ _ h=>h⟩)
 |m+1,.seq a b,.nd l q,Y,KN,KX,σ,L,w,z,A,B,X,Z,D,H,h,K,hA,E=>by
  have H:ALE m b q=true:=H;have h:exec G N (fun _=>(none:Option Unit)) a l (fun σ'=>exec G N (fun _=>(none:Option Unit)) (N9 m b) q KN KX (fun _=>none) σ') KX (fun _=>none) σ=some z:=h;have F:∀t∈D4 a++C9 l,t∈D4 (N9 (m+1) (.seq a b))++C9 (.nd l q):=fun t W=>(mem_append.1 W).elim (fun h=>AX2 _ (AX2 _ h)) fun h=>AX3 _ (AKl (.nd l q) t h);have R:∀t∈D4 (N9 m b)++C9 q,t∈D4 (N9 (m+1) (.seq a b))++C9 (.nd l q):=fun t W=>(mem_append.1 W).elim (fun h=>AX2 _ (AX3 _ h)) fun h=>AX3 _ (AKm (.nd l q) t h);refine AKh (I0 O a l _ _ _ _ _ _ _ _ _ _ _ _ _ h K (fun σ1 L1 w1 Q _ V C=>?_) (fun i σ2 L2 w2 U _ J I=>E i σ2 L2 w2 U (J.mono F) I) (fun r σ2 L2 w2 U S _ I=>by cases U) ⟨fun T t L1 L2 w v W hl hx=>D L1 w v T t L2 ds W hl hx,fun _ _ _ _ h=>h⟩);exact ALF O m b q D H Q C (fun σ2 L2 w2 U J I=>hA σ2 L2 w2 U ((V.mono F).trans (J.mono R)) I) fun i σ2 L2 w2 U J I=>E i σ2 L2 w2 U ((V.mono F).trans (J.mono R)) I
 |m+1,.seq a b,.x,_,_,_,_,_,_,_,_,_,_,_,_,H,_,_,_,_=>by cases H
 |m+1,.seq a b,.jn _ _,_,_,_,_,_,_,_,_,_,_,_,_,H,_,_,_,_=>by cases H
 |m+1,.seq a b,.lp _ _ _,_,_,_,_,_,_,_,_,_,_,_,_,H,_,_,_,_=>by cases H
 |0,.skip,_,_,_,_,_,_,_,_,_,_,_,_,_,H,_,_,_,_|0,.region _ _ _,_,_,_,_,_,_,_,_,_,_,_,_,_,H,_,_,_,_|0,.cond _ _ _,_,_,_,_,_,_,_,_,_,_,_,_,_,H,_,_,_,_|0,.loop _,_,_,_,_,_,_,_,_,_,_,_,_,_,H,_,_,_,_|0,.exit _,_,_,_,_,_,_,_,_,_,_,_,_,_,H,_,_,_,_|0,.ret,_,_,_,_,_,_,_,_,_,_,_,_,_,H,_,_,_,_
 |0,.scope _,_,_,_,_,_,_,_,_,_,_,_,_,_,H,_,_,_,_|0,.label _,_,_,_,_,_,_,_,_,_,_,_,_,_,H,_,_,_,_|0,.goto _,_,_,_,_,_,_,_,_,_,_,_,_,_,H,_,_,_,_|0,.refuse _,_,_,_,_,_,_,_,_,_,_,_,_,_,H,_,_,_,_|0,.block _ _,_,_,_,_,_,_,_,_,_,_,_,_,_,H,_,_,_,_|0,.rangeFunc _ _ _ _,_,_,_,_,_,_,_,_,_,_,_,_,_,H,_,_,_,_
 |_+1,.skip,_,_,_,_,_,_,_,_,_,_,_,_,_,H,_,_,_,_|_+1,.region _ _ _,_,_,_,_,_,_,_,_,_,_,_,_,_,H,_,_,_,_|_+1,.cond _ _ _,_,_,_,_,_,_,_,_,_,_,_,_,_,H,_,_,_,_|_+1,.loop _,_,_,_,_,_,_,_,_,_,_,_,_,_,H,_,_,_,_|_+1,.exit _,_,_,_,_,_,_,_,_,_,_,_,_,_,H,_,_,_,_|_+1,.ret,_,_,_,_,_,_,_,_,_,_,_,_,_,H,_,_,_,_
 |_+1,.scope _,_,_,_,_,_,_,_,_,_,_,_,_,_,H,_,_,_,_|_+1,.label _,_,_,_,_,_,_,_,_,_,_,_,_,_,H,_,_,_,_|_+1,.goto _,_,_,_,_,_,_,_,_,_,_,_,_,_,H,_,_,_,_|_+1,.refuse _,_,_,_,_,_,_,_,_,_,_,_,_,_,H,_,_,_,_|_+1,.block _ _,_,_,_,_,_,_,_,_,_,_,_,_,_,H,_,_,_,_|_+1,.rangeFunc _ _ _ _,_,_,_,_,_,_,_,_,_,_,_,_,_,H,_,_,_,_=>by cases H
end
end Go.Rx
namespace Go.Sx
open Go Go.RowKit
variable[Trk]{P:Program}{N:Nat}{ds:List Deferred}{L:A7}{w:World}{A:A3}{B:A3}{X:Nat->A3}{Z:List PanicEntry->A3}{g:Operand}{p:Nat}{p2:Nat}{assign:Code}{body:Code}{gf:Nat}{lb:Array Value}{α:Type}{xs:List α}{K:World->World->Prop}
theorem ANW(m:Nat){val val2:α->Value}(z:ev L g=some (.func (.func gf) #[] lb))(eg:∀args w,(callFunc gf args).run P w=.ok (.enter gf args) w)(y:blt p N=true)(S:blt p2 N=true)(E:SeqStopsK Fence.wide (m+1) P gf lb (fun x:α=>#[val x,val2 x]) K (fun ys=>ys=xs) (fun pre=>pre <+: xs) xs.length w)(M:∀{A B C:World},K A B->K B C->K A C)(b:∀(W:World) (l:Nat) (o o':Obj),w.heap.size<=l->W.heap[l]?=some o->o.isCells=false->o.isWalk=false->K W (W.putObj l o'))(I Ix:List α->World->Prop)(hI:OwnFrom w.heap.size I)(d:OwnFrom w.heap.size Ix)(h0:I [] w)(AL:α->A7->World->Prop)(f:∀x L',OwnFrom w.heap.size fun (_:Unit) W=>AL x L' W)(hassign:∀(l:Nat) (pre:List α) (x:α) (W:World),I pre W->CI l m P N assign [] ((p2,val2 x)::(p,val x)::L) W (fun ds' L' W'=>ds'=[]/\KeepsFrom w.heap.size W W'/\K W W'/\I pre W'/\AL x L' W') (fun _ _ _=>False) NoX (fun _ _ _ _=>False))(hbody:∀(l:Nat) (pre:List α) (x:α) (L':A7) (W:World),w.heap.size<=l->(∃r,W.heap[l]?=some (.loop r))->I pre W->AL x L' W->pre.length<xs.length ->
   CI l m P N body [] L' W (fun _ _ W'=>KeepsFrom w.heap.size W W'/\K W W'/\I (pre++[x]) W') (fun _ _ W'=>KeepsFrom w.heap.size W W'/\Ix (pre++[x]) W') NoX (fun _ _ _ _=>False))(hdone:∀(D:Nat) (W:World),w.heap.size<=D->I xs W->W.heap[D]?=some (.deferred (some []))->A ({ target:=.collected D,args:=#[] }::ds) L W)(hstop:∀(D:Nat) (pre:List α) (W:World),w.heap.size<=D->pre <+: xs->Ix pre W->W.heap[D]?=some (.deferred (some []))->B ({ target:=.collected D,args:=#[] }::ds) L W):
  CW P N (.rangeFunc g #[p,p2] assign body) ds L w A B X Z:=by
 intro a J
 refine(wpIn_wide (n:=m+2)).1 ?_
 refine wpIn_rangeFunc_ownH (F:=Fence.wide) (n:=m+2) rfl (by omega) (J.eval z) trivial eg E (fun h k=>M h k) b (Below.refl _ _) (fun x=>rfl) I (fun c pre W=>c=.ret/\Ix pre W) hI
  (fun c s W W' row T V R=>⟨T.1,d s W W' row T.2 V R⟩) h0 (fun x a' W=>∃L',Knows N [] L' a'/\AL x L' W) (fun x a' s W W' row T V R=>?_) ?_ ?_ ?_ ?_
 . obtain⟨L',U,q⟩:=T
   exact⟨L',U,f x L' () W W' row q V R⟩
 . intro l pre x W K' hi hK
   have hk:Knows N [] ((p2,val2 x)::(p,val x)::L) { tmps:=(a.tmps.setIfInBounds p (val x)).setIfInBounds p2 (val2 x),defers:=[] }:=by
    have U:=(show Knows N [] L { a with defers:=[] } from⟨J.size,rfl,J.val⟩).put y (val x);exact U.put S (val2 x)
   have u:(Array.foldl (fun (t:Array Value) (x:Tmp×Value)=>match x with|(p,v)=>t.setIfInBounds p v) a.tmps (#[p,p2].zip #[val x,val2 x]))=(a.tmps.setIfInBounds p (val x)).setIfInBounds p2 (val2 x):=by simp
   rw[u]
   refine wpIn_mono (hassign l pre x W hi _ hk) fun e a' W' H=>?_
   cases e with
   |normal=>obtain⟨ds',L',U,rfl,Q,j,h5,h6⟩:=H;exact hK a' W' Q j h5 ⟨L',U,h6⟩
   |ret=>obtain⟨_,_,_,h⟩:=H;exact h.elim
   |exit i=>obtain⟨_,_,_,h⟩:=H;exact h.elim
   |panic c=>obtain⟨_,_,_,h⟩:=H;exact h.elim
   |goto l=>exact H.elim
   |outgrown=>exact H.elim
 . intro l pre x a' W Y O hi hA hl
   obtain⟨L',U,q⟩:=hA
   refine wpIn_mono (hbody l pre x L' W Y O hi q hl a' U) fun e a' W' H=>?_
   cases e with
   |normal=>obtain⟨ds',L',U,Q⟩:=H;exact Q
   |ret=>obtain⟨ds',L',U,Q,j⟩:=H;exact⟨Q,rfl,j⟩
   |exit i=>obtain⟨_,_,_,h⟩:=H;exact h.elim
   |panic c=>obtain⟨_,_,_,h⟩:=H;exact h.elim
   |goto l=>exact H.elim
   |outgrown=>exact H.elim
 . intro D ys W hD hy hi G
   subst hy
   exact⟨_,L,⟨J.size,by rw[J.defers],J.val⟩,hdone D W hD hi G⟩
 . intro D c pre W hD hy hi G
   obtain⟨rfl,hi⟩:=hi
   exact wpIn_ret ⟨_,L,⟨J.size,by rw[J.defers],J.val⟩,hstop D pre W hD hy hi G⟩
theorem ANX(m:Nat){l0:Nat}{val val2:α->Value}(hrec0:∃r,w.heap[l0]?=some (.loop r))(z:ev L g=some (.func (.func gf) #[] lb))(eg:∀args w,(callFunc gf args).run P w=.ok (.enter gf args) w)(y:blt p N=true)(R:blt p2 N=true)(V:SeqStopsK Fence.wide (m+1) P gf lb (fun x:α=>#[val x,val2 x]) K (fun ys=>ys=xs) (fun pre=>pre <+: xs) xs.length w)(M:∀{A B C:World},K A B->K B C->K A C)(b:∀(W:World) (l:Nat) (o o':Obj),w.heap.size<=l->W.heap[l]?=some o->o.isCells=false->o.isWalk=false->K W (W.putObj l o'))(I Ix:List α->World->Prop)(hI:OwnFrom w.heap.size I)(d:OwnFrom w.heap.size Ix)(h0:I [] w)(AL:α->A7->World->Prop)(f:∀x L',OwnFrom w.heap.size fun (_:Unit) W=>AL x L' W)(hassign:∀(l:Nat) (pre:List α) (x:α) (W:World),I pre W->CI l m P N assign [] ((p2,val2 x)::(p,val x)::L) W (fun ds' L' W'=>ds'=[]/\KeepsFrom w.heap.size W W'/\K W W'/\I pre W'/\AL x L' W') (fun _ _ _=>False) NoX (fun _ _ _ _=>False))(hbody:∀(l:Nat) (pre:List α) (x:α) (L':A7) (W:World),w.heap.size<=l->(∃r,W.heap[l]?=some (.loop r))->I pre W->AL x L' W->pre.length<xs.length ->
   CI l m P N body [] L' W (fun _ _ W'=>KeepsFrom w.heap.size W W'/\K W W'/\I (pre++[x]) W') (fun _ _ W'=>KeepsFrom w.heap.size W W'/\Ix (pre++[x]) W') NoX (fun _ _ _ _=>False))(hdone:∀(W:World),I xs W->A ds L W)(S:∀pre W,¬Ix pre W):
  CI l0 (m+2) P N (.rangeFunc g #[p,p2] assign body) ds L w A B X Z:=by
 intro a Q
 obtain⟨r0,Y⟩:=hrec0
 refine wpIn_rangeFunc_ownN (F:=FW l0) (n:=m+2) (l₀:=l0) rfl Y (by omega) (Q.eval z) trivial eg V (fun h k=>M h k) b (Below.refl _ _) (fun x=>rfl) I (fun c pre W=>c=.ret/\Ix pre W) hI
  (fun c s W W' row O U G=>⟨O.1,d s W W' row O.2 U G⟩) h0 (fun x a' W=>∃L',Knows N [] L' a'/\AL x L' W) (fun x a' s W W' row O U G=>?_) ?_ ?_ ?_ ?_
 . obtain⟨L',J,q⟩:=O
   exact⟨L',J,f x L' () W W' row q U G⟩
 . intro l pre x W K' hi hK
   have hk:Knows N [] ((p2,val2 x)::(p,val x)::L) { tmps:=(a.tmps.setIfInBounds p (val x)).setIfInBounds p2 (val2 x),defers:=[] }:=by
    have J:=(show Knows N [] L { a with defers:=[] } from⟨Q.size,rfl,Q.val⟩).put y (val x);exact J.put R (val2 x)
   have u:(Array.foldl (fun (t:Array Value) (x:Tmp×Value)=>match x with|(p,v)=>t.setIfInBounds p v) a.tmps (#[p,p2].zip #[val x,val2 x]))=(a.tmps.setIfInBounds p (val x)).setIfInBounds p2 (val2 x):=by simp
   rw[u]
   refine wpIn_mono (hassign l pre x W hi _ hk) fun e a' W' H=>?_
   cases e with
   |normal=>obtain⟨ds',L',J,rfl,E,j,h5,h6⟩:=H;exact hK a' W' E j h5 ⟨L',J,h6⟩
   |ret=>obtain⟨_,_,_,h⟩:=H;exact h.elim
   |exit i=>obtain⟨_,_,_,h⟩:=H;exact h.elim
   |panic c=>obtain⟨_,_,_,h⟩:=H;exact h.elim
   |goto l=>exact H.elim
   |outgrown=>exact H.elim
 . intro l pre x a' W T D hi hA hl
   obtain⟨L',J,q⟩:=hA
   refine wpIn_mono (hbody l pre x L' W T D hi q hl a' J) fun e a' W' H=>?_
   cases e with
   |normal=>obtain⟨ds',L',J,E⟩:=H;exact E
   |ret=>obtain⟨ds',L',J,E,j⟩:=H;exact⟨E,rfl,j⟩
   |exit i=>obtain⟨_,_,_,h⟩:=H;exact h.elim
   |panic c=>obtain⟨_,_,_,h⟩:=H;exact h.elim
   |goto l=>exact H.elim
   |outgrown=>exact H.elim
 . intro ys W hy hi
   subst hy
   exact⟨_,L,Q,hdone W hi⟩
 . intro c pre W hy hi
   exact absurd hi.2 (S _ _)
end Go.Sx
namespace Go.Proofs.YtgioiejbphljoaaGreatDoor
open Go Go.Sx Go.Rx Go.RowKit
theorem AQG:prog.cellsOf 116=2:=by kernel_rfl
theorem AT8:prog.keyType 116=true:=by kernel_rfl
theorem AT9:prog.cellsOf 3=1:=by kernel_rfl
def K116:Ky prog 116 (Int×Int):=ASi (show laidOutB prog=true by kernel_rfl) (m:=2) (by omega) (AX6 (by kernel_rfl)) (by kernel_rfl) (by rw[underlying116]) (fun x=>.agg (toArray [.int .i64 x.1,.int .i64 x.2])) (fun x=>InK .i64 x.1/\InK .i64 x.2)
 (fun {x} h=>by
  exact AU3 underlying116 underlying3 AQG AT9 AT8 (AX6 (by kernel_rfl)) h.1 h.2)
 (fun {a b} _ _ h=>by
  cases a;cases b;simp at h;simp[h])
abbrev MP(bd:Nat)(f:A4 (Int×Int) Int):List Res:=[mapO K116 (B1 .i64) false bd f]
theorem V4{M':List Nat}{W W':World}{B:Nat}(h:Adv M' M' W W')(U:∀b∈M',b<B)(V:B<=W.heap.size):KeepsFrom B W W'/\KI M' B W W':=
 ⟨⟨h.kp.size,fun k o hk I _=>(h.kp.block k (K7 I) fun hm=>by have:=U k hm;omega).trans I⟩,h.kp.os,h.kp.tape,h.kp.output,h.kp.size,fun b H J=>h.kp.block b (AYH H V) J⟩
theorem AGq{M:List Nat}{W W':World}{b o:Nat}{cs:List Value}{row:Option Nat}(h:RdC M W b o cs)(J:W.grownBy W' row)(I:∀r,row=some r->∃o:Obj,W.heap[r]?=some o/\o.isCells=false):RdC M W' b o cs:=by
 obtain⟨H,_⟩:=ADL (B:=0) J fun r e=>⟨AYh _,I r e⟩;exact⟨h.out,AYH h.lt H.1,H.cells h.cells⟩
structure D16(M':List Nat)(W:World)(x:Desk_99)(al:List Asked)(l:List Report)(p8 p4 p13:Value)(b14 bd:Nat):Prop where
 g:GlOk (P:=prog) M' W
 h8:Ok (P:=prog) (fun _=>undef) (fun _=>none) M' W (.rp (.str 10 x) 0) p8
 h4:Ok (P:=prog) (fun _=>undef) (fun _=>none) M' W (.rp (.dat (.sl (.st 5)) al) 0) p4
 h13:Ok (P:=prog) (fun _=>undef) (fun _=>none) M' W (.rp (.dat (.sl (.st 1)) l) 0) p13
 h14:RdC M' W b14 0 [.map (some bd)]
theorem D16.adv{M':List Nat}{W W':World}{x:Desk_99}{al:List Asked}{l:List Report}{p8 p4 p13:Value}{b14 bd:Nat}(h:D16 M' W x al l p8 p4 p13 b14 bd)(H:Adv M' M' W W'):D16 M' W' x al l p8 p4 p13 b14 bd:=
 ⟨h.g.adv H,Ok.adv H _ h.h8,Ok.adv H _ h.h4,Ok.adv H _ h.h13,h.h14.adv H⟩
def inB(x:Desk_99)(l:List Report)(y:Dispute)(v:Verdict)(now:Report)(is_:Bool)(f:A4 (Int×Int) Int)(a:Int×Asked):Option (A4 (Int×Int) Int):=(AAJ x l y v now is_ a.2).bind fun b=>some (match b with
 |.inl true=>B5 f (y.id,a.2.who) a.2.id
 |_=>f)
def AHm(a:Asked):List Value:=[.int .i64 a.id,.int .i64 a.who,.int .i64 a.account,.int .i64 a.day]
noncomputable def AUA:Code:=match f16.body with
 |some (.seq _ (.seq _ (.seq _ (.seq _ (.seq _ (.seq _ (.seq _ (.seq _ (.seq _ (.seq (.seq _ (.block _ (.rangeFunc _ _ _ (.block _ c)))) _))))))))))=>c
 |_=>.skip
noncomputable def AUB:Code:=match AUA with
 |.seq _ (.seq _ (.block _ c))=>c
 |_=>.skip
noncomputable def ANY:Code:=match AUB with
 |.rangeFunc _ _ _ (.block _ c)=>c
 |_=>.skip
def AQH(σ:AS):Option (Bool⊕Unit):=match A1 σ.env 153 with
 |some (.bool b)=>some (.inl b)
 |_=>none
def ANZ(x:Desk_99)(l:List Report)(y:Dispute)(v:Verdict)(now:Report)(is_:Bool)(a:Asked):List (Nat×SV):=[(8,.rp (.str 10 x) 0),(13,.rp (.dat (.sl (.st 1)) l) 0),(15,.rp (.str 2 y) 0),(16,.rp (.str 12 v) 0),(17,.rp (.str 1 now) 0),(18,.rp (.bool is_) 0),(20,.rp (.str 5 a) 0)]
def AQI:Gx:={ gxb with fs:=[(46,ctr46)] }
theorem AMK:GxOk prog AQI:=B4 ⟨⟨ok46,call46⟩,trivial⟩
theorem AUC(x:Desk_99)(l:List Report)(y:Dispute)(v:Verdict)(now:Report)(is_:Bool)(a:Asked):exec AQI 181 (fun _=>(none:Option Unit)) (N9 2 ANY) AGp AQH (fun i _=>bif beq i 5 then some (.inr ()) else none) (fun _=>none) ⟨ANZ x l y v now is_ a,[],[],[]⟩=AAJ x l y v now is_ a:=by kernel_rfl
def AXW(M':List Nat)(Lb:Sx.A7)(a:Int×Asked)(L:Sx.A7)(W:World):Prop:=∃b20,L=(20,.pointer (some ⟨b20,0,none⟩))::(98,M8 (.st 5) a.2)::(97,M8 (.int .i64) a.1)::Lb/\RdC M' W b20 0 (AHm a.2)
theorem ASH{l0:Nat}{w wi:World}{M:List Nat}{bd b14:Nat}{x:Desk_99}{al:List Asked}{l:List Report}{y:Dispute}{v:Verdict}{now:Report}{is_:Bool}{p8 p4 p13 p15 p16 p17 p18 pb:Value}{f f':A4 (Int×Int) Int}{Li:Sx.A7}{ds:List Deferred}{A B:A3}{X:Nat->A3}{Z:List PanicEntry->A3}(hbd:bd<wi.heap.size)(hI:Hp w [] M (MP bd f) wi)(N:∃r,wi.heap[l0]?=some (.loop r))(hD:D16 (bd::M) wi x al l p8 p4 p13 b14 bd)(q:Ok (P:=prog) (fun _=>undef) (fun _=>none) (bd::M) wi (.rp (.str 2 y) 0) p15)(h16:Ok (P:=prog) (fun _=>undef) (fun _=>none) (bd::M) wi (.rp (.str 12 v) 0) p16)(h17:Ok (P:=prog) (fun _=>undef) (fun _=>none) (bd::M) wi (.rp (.str 1 now) 0) p17)(h18:Ok (P:=prog) (fun _=>undef) (fun _=>none) (bd::M) wi (.rp (.bool is_) 0) p18)(hpb:Ok (P:=prog) (fun _=>undef) (fun _=>none) (bd::M) wi (.rp (.dat (.sl (.st 5)) al) 0) pb)(hky:InK .i64 y.id)(l8:Sx.A5 Li 8=some p8)(l13:Sx.A5 Li 13=some p13)(l14:Sx.A5 Li 14=some (.pointer (some ⟨b14,0,none⟩)))(l15:Sx.A5 Li 15=some p15)(l16:Sx.A5 Li 16=some p16)(l17:Sx.A5 Li 17=some p17)(l18:Sx.A5 Li 18=some p18)(l96:Sx.A5 Li 96=some (.func (.func 85) #[] #[pb]))(hbs:∀a∈bwN al al.length,ADK [.int .i64,.st 5] a)(G:ABT (inB x l y v now is_) f (bwN al al.length)=some f')(hA:∀W,Hp w [] M (MP bd f') W->Adv (bd::M) (bd::M) wi W->A ds Li W):CI l0 3 prog 181 AUB ds Li wi A B X Z:=by
 obtain⟨ho1,ho2⟩:=AE3 G;have V:MLt (bd::M) wi:=hI.mlt;have hwi:w.heap.size<=wi.heap.size:=hI.kp.size;let I:List {x // x∈bwN al al.length}->World->Prop:=fun pre W=>∃g,List.foldlM (inB x l y v now is_) f (pre.map Subtype.val)=some g/\Hp w [] M (MP bd g) W/\Adv (bd::M) (bd::M) wi W;refine ANX 1 (val:=fun a:{x // x∈bwN al al.length}=>M8 (.int .i64) a.1.1) (val2:=fun a=>M8 (.st 5) a.1.2) (K:=KI (bd::M) wi.heap.size) (xs:=(bwN al al.length).attach) N l96 call85 rfl rfl (AIN 2 V hD.g hpb Subtype.val _ (AYd _)) (fun h k=>h.trans k) (fun W k o o' hk _ _ _=>KI.putObj hk) I (fun _ _=>False) ?_ (fun _ _ _ _ h _ _=>h.elim) ⟨f,rfl,hI,Adv.refl _ _⟩ (fun a L' W=>AXW (bd::M) Li a.1 L' W) ?_ ?_ ?_ ?_ (fun _ _ h=>h)
 . rintro pre W W' row ⟨g,e1,e2,e3⟩ D G;exact⟨g,e1,Hp.turn (fun h=>h) e3.kp.size hwi (AQY hbd tn0) e2 D G,Adv.turn (fun h=>h) e3 D G⟩
 . rintro a L' _ W W' row ⟨b20,e1,e2⟩ D G;exact⟨b20,e1,AGq e2 D fun r e=>(G r e).2⟩
 . rintro k pre a W ⟨g,e1,e2,e3⟩;refine AAw rfl ?_;refine ACQ e2 zeroValue47 rfl rfl ?_;intro b20 w5 hI5 x5;refine ABF 0 (vs:=AHm a.1.2) hI5 rfl rfl rfl rfl sizeOf47 rfl rfl (D3 rfl (D3 rfl (D3 rfl (D3 rfl ACL)))) ?_;intro w6 F x6;have F:Hp w [] M (rowR 47 b20 (AHm a.1.2)::MP bd g) w6:=F;have hA:Adv (bd::M) (bd::M) W w6:=x5.trans (x6.trans (G5 (σ:=rowR 47 b20 (AHm a.1.2)::MP bd g) 0));obtain⟨k1,k2⟩:=V4 hA V e3.kp.size;exact Reg.nil ⟨rfl,k1,k2,⟨g,e1,F.erase 0,e3.trans hA⟩,b20,rfl,F.freezeRow 0 rfl⟩
 . rintro k pre a L' W hwl hrk ⟨g,e1,e2,e3⟩ ⟨b20,rfl,e5⟩ hlt;obtain⟨g',U,hfold⟩:=ho2 (pre.map Subtype.val) a.1 g (by simpa using hlt) (fun y hy=>by obtain⟨z,_,rfl⟩:=mem_map.1 hy;exact z.2) a.2 e1;unfold inB at U;obtain⟨z,hz,U⟩:=R0 U;have U:=AXz U;have Q:=hD.adv e3;have hMW:MLt (bd::M) W:=e2.mlt;have S:okI (.st 5) a.1.2:=(hbs a.1 a.2).2;have hst:Holds (P:=prog) W [] (bd::M) ⟨ANZ x l y v now is_ a.1.2,[],[],[]⟩ ((20,.pointer (some ⟨b20,0,none⟩))::(98,M8 (.st 5) a.1.2)::(97,M8 (.int .i64) a.1.1)::Li) W:=by
    refine Holds.start hMW (fun t s H=>?_) ⟨trivial,Q.g⟩;unfold ANZ at H;rw[fnd_cons]at H;split at H
    . rename_i e;subst e;cases H;exact⟨_,l8,Q.h8⟩
    rw[fnd_cons]at H;split at H
    . rename_i e;subst e;cases H;exact⟨_,l13,Q.h13⟩
    rw[fnd_cons]at H;split at H
    . rename_i e;subst e;cases H;exact⟨_,l15,Ok.adv e3 _ q⟩
    rw[fnd_cons]at H;split at H
    . rename_i e;subst e;cases H;exact⟨_,l16,Ok.adv e3 _ h16⟩
    rw[fnd_cons]at H;split at H
    . rename_i e;subst e;cases H;exact⟨_,l17,Ok.adv e3 _ h17⟩
    rw[fnd_cons]at H;split at H
    . rename_i e;subst e;cases H;exact⟨_,l18,Ok.adv e3 _ h18⟩
    rw[fnd_cons]at H;split at H
    . rename_i e;subst e;cases H;exact⟨_,rfl,b20,0,_,AHm a.1.2,rfl,e5,ADs (.st 5) S,rfl⟩
    cases H
   refine AD6 ?_;refine AGh (l:=k) ?_;refine ALF AMK 2 ANY AGp (KN:=AQH) (KX:=fun i _=>bif beq i 5 then some (.inr ()) else none) ?_ rfl ((AUC x l y v now is_ a.1.2).trans hz) hst (fun σ' L2 W2 hK m O=>?_) (fun i σ' L2 W2 hK m O=>?_)
   . exact fun L w v T t L2 ds H hl hx=>((PZ.no (Z:=fun _ _ _ _=>False) (ds:=ds)).block (i:=5) rfl).z T t L L2 w v H hl hx
   . have C:Ext W W2:=O.ends;have j:Hp w [] M (MP bd g) W2:=e2.ext C;have J:Adv (bd::M) (bd::M) W W2:=Adv.of_ext C;have lk:∀t,t∈[14,15,20]->Sx.A5 L2 t=Sx.A5 ((20,.pointer (some ⟨b20,0,none⟩))::(98,M8 (.st 5) a.1.2)::(97,M8 (.int .i64) a.1.1)::Li) t:=fun t H=>m t fun hm=>(by decide:∀t∈[14,15,20],t∉D4 (N9 2 ANY)++C9 AGp) t H hm;obtain⟨b,hb,u⟩:∃b,A1 σ'.env 153=some (.bool b)/\z=.inl b:=by
      unfold AQH at hK;split at hK
      . rename_i b hb;exact⟨b,hb,(AXz hK).symm⟩
      . cases hK
     subst u;have l153:=O.slotB hb;show CI k 1 prog 181 (AJQ 2 ANY) [] L2 W2 _ _ _ _;refine ARH l153 (fun hbt=>?_) (fun hbf=>?_)
     . subst hbt;subst U;have n:=Q.adv J;obtain⟨b15,o15,u15,vs15,rfl,c15,R,c⟩:=Ok.adv (e3.trans J) _ q;obtain⟨cs15,d,hcs15⟩:=R;obtain rfl:vs15=[.int .i64 y.id,.int .i64 y.report,.int .i64 y.day]:=by
        obtain⟨rfl,_⟩:=(DisputeE_R (x:=y)).1 d;rcases hcs15 with⟨_,rfl⟩|⟨h,_⟩
        . simpa[Value.cells] using c.symm
        . cases h
       refine AAw rfl ?_;refine V9 ((lk 14 (by decide)).trans l14) ((n.h14).cells.at 0 rfl) isAgg106 rfl ?_;refine ABD ((lk 15 (by decide)).trans l15) underlying53 rfl sizeOf3 rfl ?_;refine V9 rfl (c15.cells.at 0 rfl) isAgg3 rfl ?_;refine ABD (lk 20 (by decide)) underlying47 rfl sizeOf3 rfl ?_;refine V9 rfl ((e5.adv J).cells.at 1 rfl) isAgg3 rfl ?_;refine ASj zeroValue116 rfl underlying116 sizeOf3 rfl rfl rfl rfl rfl ?_;refine ABD (lk 20 (by decide)) underlying47 rfl sizeOf3 rfl ?_;refine V9 rfl ((e5.adv J).cells.at 0 rfl) isAgg3 rfl ?_;obtain⟨ka,kb,_,_⟩:InK .i64 a.1.2.id/\InK .i64 a.1.2.who/\InK .i64 a.1.2.account/\InK .i64 a.1.2.day:=S;refine AMY (K:=K116) (E:=B1 .i64) (ag:=false) 0 j rfl rfl (a:=(y.id,a.1.2.who)) rfl ⟨hky,kb⟩ rfl (z:=a.1.2.id) ⟨[_],⟨rfl,ka⟩,.inr ⟨rfl,rfl⟩⟩ underlying106 ?_;intro w9 Y x9;have Y:Hp w [] M (MP bd (B5 g (y.id,a.1.2.who) a.1.2.id)) w9:=Y;have p:Adv (bd::M) (bd::M) W w9:=J.trans x9;obtain⟨k1,k2⟩:=V4 p V e3.kp.size;exact Reg.nil ⟨k1,k2,_,by rw[AYI];exact hfold,Y,e3.trans p⟩
     . subst hbf;subst U;obtain⟨k1,k2⟩:=V4 J V e3.kp.size;exact ARG ⟨k1,k2,g,by rw[AYI];exact hfold,j,e3.trans J⟩
   . have C:Ext W W2:=O.ends;have J:Adv (bd::M) (bd::M) W W2:=Adv.of_ext C;cases hi:beq i 5 with
     |false=>
      have hK:(bif beq i 5 then some (Sum.inr ()) else none)=some z:=hK
      rw[hi]at hK;cases hK
     |true=>
      have hK:(bif beq i 5 then some (Sum.inr ()) else none)=some z:=hK
      rw[hi]at hK
      have hK:Sum.inr ()=z:=AXz hK
      subst hK
      subst U
      obtain rfl:=AX5 hi
      obtain⟨k1,k2⟩:=V4 J V e3.kp.size
      exact T7 ⟨k1,k2,g,by rw[AYI];exact hfold,e2.ext C,e3.trans J⟩
 . rintro W ⟨g,e1,e2,e3⟩;rw[AYd,ho1]at e1;cases e1
   exact hA W e2 e3
def AGr(x:Desk_99)(al:List Asked)(l:List Report)(f:A4 (Int×Int) Int)(y:Dispute×Verdict):Option (A4 (Int×Int) Int):=(AAa l y.1 y.2).bind fun n=>(U2 al).bind fun bs=>ABT (inB x l y.1 y.2 n.1 n.2) f bs
noncomputable def AQJ:Code:=match AUA with
 |.seq c _=>c
 |_=>.skip
noncomputable def AXX:Code:=match f16.body with
 |some (.seq _ (.seq _ (.seq _ (.seq _ (.seq _ (.seq _ (.seq _ (.seq _ (.seq _ (.seq (.seq _ (.block _ c)) _))))))))))=>c
 |_=>.skip
def AUD(σ:AS):Option (Report×Bool):=match A1 σ.env 17,A1 σ.env 18,A1 σ.res 17,A1 σ.res 18 with
 |some (.ptr 17 0),some (.ptr 18 0),some (.row 45 c),some (.row 4 [.bool b])=>match A9 (.agg c) with
  |[]=>match B9 (A1 σ.res) (.st 1) (.agg c) with
   |some r=>some (r,b)
   |none=>none
  |_=>none
 |_,_,_,_=>none
def ANa(l:List Report)(y:Dispute)(v:Verdict):List (Nat×SV):=[(13,.rp (.dat (.sl (.st 1)) l) 0),(15,.rp (.str 2 y) 0),(16,.rp (.str 12 v) 0)]
theorem AWG(l:List Report)(y:Dispute)(v:Verdict):exec AQI 181 (fun _=>(none:Option Unit)) AQJ AIQ AUD (fun _ _=>none) (fun _=>none) ⟨ANa l y v,[],[],[]⟩=AAa l y v:=by kernel_rfl
def ALo(M':List Nat)(Lb:Sx.A7)(y:Dispute×Verdict)(L:Sx.A7)(W:World):Prop:=∃b15 b16,L=(16,.pointer (some ⟨b16,0,none⟩))::(15,.pointer (some ⟨b15,0,none⟩))::(84,M8 (.st 12) y.2)::(83,M8 (.st 2) y.1)::Lb/\RdC M' W b15 0 (ABQ y.1)/\RdC M' W b16 0 (ADS y.2)
theorem ASI{w wl:World}{M:List Nat}{bd b14:Nat}{x:Desk_99}{day:Int}{al:List Asked}{l:List Report}{p8 p4 p13 p1 p2:Value}{f f':A4 (Int×Int) Int}{ys:List (Dispute×Verdict)}{Lb:Sx.A7}{ds:List Deferred}{A B:A3}{X:Nat->A3}{Z:List PanicEntry->A3}(hbd:bd<wl.heap.size)(hI:Hp w [] M (MP bd f) wl)(hD:D16 (bd::M) wl x al l p8 p4 p13 b14 bd)(h1:Ok (P:=prog) (fun _=>undef) (fun _=>none) (bd::M) wl (.rp (.str 10 x) 0) p1)(h2:Ok (P:=prog) (fun _=>undef) (fun _=>none) (bd::M) wl (.rp (.int .i64 day) 0) p2)(l4:Sx.A5 Lb 4=some p4)(l8:Sx.A5 Lb 8=some p8)(l13:Sx.A5 Lb 13=some p13)(l14:Sx.A5 Lb 14=some (.pointer (some ⟨b14,0,none⟩)))(l82:Sx.A5 Lb 82=some (.func (.func 84) #[] #[p1,p2]))(hys:AFL x day x.desk.disputes=some ys)(hok:∀y∈ys,ADK [.st 2,.st 12] y)(p:ABT (AGr x al l) f ys=some f')(hA:∀D W,wl.heap.size<=D->Hp w [] M (MP bd f') W->Adv (bd::M) (bd::M) wl W->W.heap[D]?=some (.deferred (some []))->A ({ target:=.collected D,args:=#[] }::ds) Lb W):CW prog 181 AXX ds Lb wl A B X Z:=by
 obtain⟨ho1,ho2⟩:=AE3 p;have E:MLt (bd::M) wl:=hI.mlt;have hwl:w.heap.size<=wl.heap.size:=hI.kp.size;let I:List {x // x∈ys}->World->Prop:=fun pre W=>∃g,List.foldlM (AGr x al l) f (pre.map Subtype.val)=some g/\Hp w [] M (MP bd g) W/\Adv (bd::M) (bd::M) wl W;refine ANW 3 (val:=fun a:{x // x∈ys}=>M8 (.st 2) a.1.1) (val2:=fun a=>M8 (.st 12) a.1.2) (K:=KI (bd::M) wl.heap.size) (xs:=ys.attach) l82 call84 rfl rfl (AEj 4 E hD.g h1 h2 hys Subtype.val _ (AYd _)) (fun h k=>h.trans k) (fun W k o o' hk _ _ _=>KI.putObj hk) I (fun _ _=>False) ?_ (fun _ _ _ _ h _ _=>h.elim) ⟨f,rfl,hI,Adv.refl _ _⟩ (fun a L' W=>ALo (bd::M) Lb a.1 L' W) ?_ ?_ ?_ ?_ (fun _ _ _ _ _ h _=>h.elim)
 . rintro pre W W' row ⟨g,e1,e2,e3⟩ C p;exact⟨g,e1,Hp.turn (fun h=>h) e3.kp.size hwl (AQY hbd tn0) e2 C p,Adv.turn (fun h=>h) e3 C p⟩
 . rintro a L' _ W W' row ⟨b15,b16,e1,e2,e3⟩ C p;exact⟨b15,b16,e1,AGq e2 C fun r e=>(p r e).2,AGq e3 C fun r e=>(p r e).2⟩
 . rintro k pre a W ⟨g,e1,e2,e3⟩;refine AG3 ?_;refine AAw rfl ?_;refine ACQ e2 zeroValue53 rfl rfl ?_;intro b15 w5 hI5 x5;refine ABF 0 (vs:=ABQ a.1.1) hI5 rfl rfl rfl rfl sizeOf53 rfl rfl (D3 rfl (D3 rfl (D3 rfl ACL))) ?_;intro w6 Y x6;have Y:Hp w [] M (rowR 53 b15 (ABQ a.1.1)::MP bd g) w6:=Y;have hA6:Adv (bd::M) (bd::M) W w6:=x5.trans (x6.trans (G5 (σ:=rowR 53 b15 (ABQ a.1.1)::MP bd g) 0));have hC6:RdC (bd::M) w6 b15 0 (ABQ a.1.1):=Y.freezeRow 0 rfl;have hI6':Hp w [] M (MP bd g) w6:=Y.erase 0;refine Reg.nil ?_;refine AAw rfl ?_;refine ACQ hI6' zeroValue111 rfl rfl ?_;intro b16 w7 hI7 x7;refine ABF 0 (vs:=ADS a.1.2) hI7 rfl rfl rfl rfl sizeOf111 rfl rfl (D3 rfl (D3 rfl (D3 rfl (D3 rfl (D3 rfl (D3 rfl (D3 rfl (D3 rfl ACL)))))))) ?_;intro w8 T x8;have T:Hp w [] M (rowR 111 b16 (ADS a.1.2)::MP bd g) w8:=T;have hA8:Adv (bd::M) (bd::M) w6 w8:=x7.trans (x8.trans (G5 (σ:=rowR 111 b16 (ADS a.1.2)::MP bd g) 0));have hA:=hA6.trans hA8;obtain⟨k1,k2⟩:=V4 hA E e3.kp.size;exact Reg.nil ⟨rfl,k1,k2,⟨g,e1,T.erase 0,e3.trans hA⟩,b15,b16,rfl,hC6.adv hA8,T.freezeRow 0 rfl⟩
 . rintro k pre a L' W hwlk O ⟨g,e1,e2,e3⟩ ⟨b15,b16,rfl,e5,e6⟩ hlt;obtain⟨g',U,hfold⟩:=ho2 (pre.map Subtype.val) a.1 g (by simpa using hlt) (fun y hy=>by obtain⟨z,_,rfl⟩:=mem_map.1 hy;exact z.2) a.2 e1;unfold AGr at U;obtain⟨n,hn,U⟩:=R0 U;obtain⟨bs,Q,U⟩:=R0 U;obtain⟨hbok,rfl⟩:(∀y∈bwN al al.length,ADK [.int .i64,.st 5] y)/\bwN al al.length=bs:=by
    unfold U2 at Q;split at Q
    . rename_i h;exact⟨h,AXz Q⟩
    . cases Q
   have hDW:=hD.adv e3;have hMW:MLt (bd::M) W:=e2.mlt;have V:=hok a.1 a.2;have o15:Ok (P:=prog) (fun _=>undef) (fun _=>none) (bd::M) W (.rp (.str 2 a.1.1) 0) (.pointer (some ⟨b15,0,none⟩)):=⟨b15,0,_,ABQ a.1.1,rfl,e5,ADs (.st 2) V.1,rfl⟩;have o16:Ok (P:=prog) (fun _=>undef) (fun _=>none) (bd::M) W (.rp (.str 12 a.1.2) 0) (.pointer (some ⟨b16,0,none⟩)):=⟨b16,0,_,ADS a.1.2,rfl,e6,ADs (.st 12) V.2,rfl⟩;have hst:Holds (P:=prog) W [] (bd::M) ⟨ANa l a.1.1 a.1.2,[],[],[]⟩ ((16,.pointer (some ⟨b16,0,none⟩))::(15,.pointer (some ⟨b15,0,none⟩))::(84,M8 (.st 12) a.1.2)::(83,M8 (.st 2) a.1.1)::Lb) W:=by
    refine Holds.start hMW (fun t s J=>?_) ⟨trivial,hDW.g⟩;unfold ANa at J;rw[fnd_cons]at J;split at J
    . rename_i e;subst e;cases J;exact⟨_,l13,hDW.h13⟩
    rw[fnd_cons]at J;split at J
    . rename_i e;subst e;cases J;exact⟨_,rfl,o15⟩
    rw[fnd_cons]at J;split at J
    . rename_i e;subst e;cases J;exact⟨_,rfl,o16⟩
    cases J
   refine AD6 ?_;refine AG3 ?_;refine AGh (l:=k) (I0 AMK AQJ AIQ _ _ _ _ _ _ _ _ _ _ _ _ _ ((AWG l a.1.1 a.1.2).trans hn) hst (fun σ' L2 W2 hK _ hE2 hH2=>?_) (fun i σ2 L2 w2 h2=>by cases h2) (fun r σ2 L2 w2 h2 h3 _ hH2=>by cases h2) ((PZ.no (Z:=fun _ _ _ _=>False)).block (i:=3) rfl));obtain⟨S,ρ,γ,μ,ι,d⟩:=hH2;have F:Ext W W2:=d.hp.kp;obtain⟨c,b,r,h17,h18,q17,q18,R,htd,rfl⟩:∃c b r,A1 σ'.env 17=some (.ptr 17 0)/\A1 σ'.env 18=some (.ptr 18 0)/\A1 σ'.res 17=some (.row 45 c)/\A1 σ'.res 18=some (.row 4 [.bool b])/\A9 (.agg c)=[]/\B9 (A1 σ'.res) (.st 1) (.agg c)=some r/\n=(r,b):=by
    unfold AUD at hK;split at hK
    . rename_i c b g1 g2 g3 g4;split at hK
      . rename_i g5;split at hK
        . rename_i r g6;exact⟨c,b,r,g1,g2,g3,g4,g5,g6,(AXz hK).symm⟩
        . cases hK
      . cases hK
    . cases hK
   obtain⟨v17,l17,b17,L,rfl⟩:=d.env 17 (.ptr 17 0) h17;obtain⟨v18,l18,b18,N,rfl⟩:=d.env 18 (.ptr 18 0) h18;obtain⟨b17',hb17',r17,o17,i17⟩:=d.rowAt q17;obtain⟨b18',hb18',r18,o18,i18⟩:=d.rowAt q18;rw[L]at hb17';cases hb17';rw[N]at hb18';cases hb18';have ok17:Ok (P:=prog) (fun _=>undef) (fun _=>none) (bd::M) W2 (.rp (.str 1 r) 0) (.pointer (some ⟨b17,0,none⟩)):=⟨b17,0,.agg (toArray (γ 17)),γ 17,rfl,H9 (d.hp.sepM _ (AX1 i17) b17 (mem_singleton.2 rfl)) r17,I5 (M:=mm S (bd::M)) (fun b hb=>mem_mm.2 (.inr hb)) (.st 1) (.agg c) (fun i hi=>by rw[R]at hi;cases hi) htd ⟨γ 17,rfl,o17⟩,rfl⟩;have ok18:Ok (P:=prog) (fun _=>undef) (fun _=>none) (bd::M) W2 (.rp (.bool b) 0) (.pointer (some ⟨b18,0,none⟩)):=by
    obtain⟨u,cu,q,e9,hu,v,hq⟩:=o18;have hu:u=.bool b:=hu;have hq:q=[]:=hq;subst hu hq;have v:#[Value.bool b]=toArray cu:=v;have:cu=[Value.bool b]:=by simpa using v.symm
    subst this;have e9:γ 18=[.bool b]:=e9;exact⟨b18,0,.bool b,[.bool b],rfl,e9▸H9 (d.hp.sepM _ (AX1 i18) b18 (mem_singleton.2 rfl)) r18,rfl,rfl⟩
   have lk:∀t,t∈[4,8,13,14,15,16]->Sx.A5 L2 t=Sx.A5 ((16,.pointer (some ⟨b16,0,none⟩))::(15,.pointer (some ⟨b15,0,none⟩))::(84,M8 (.st 12) a.1.2)::(83,M8 (.st 2) a.1.1)::Lb) t:=fun t J=>hE2 t fun hm=>(by decide:∀t∈[4,8,13,14,15,16],t∉D4 AQJ++C9 AIQ) t J hm;clear hE2 hK h17 h18 q17 q18 R htd L N r17 r18 o17 o18 i17 i18 d;have hA2:Adv (bd::M) (bd::M) W W2:=Adv.of_ext F;have j:=hDW.adv hA2;obtain⟨b4,o4,u4,vs4,hp4,c4,hu4,hc4⟩:=j.h4;obtain⟨sa4,n4,hsl4,_⟩:=(OkD.rds hu4.2).shape;obtain rfl:vs4=[u4]:=by
    subst hsl4;exact(AX9 Array.toList hc4).symm
   have l4':=(lk 4 (by decide)).trans (show _=some p4 from l4);rw[hp4]at l4';show CI k 3 prog 181 _ [] L2 W2 _ _ _ _;refine AG3 ?_;refine AAw rfl ?_;refine V9 l4' (c4.cells.at 0 rfl) isAgg29 rfl ?_;refine X6 rfl call47 rfl ?_;refine(C47 (hMW.ext F) hu4.2).mono ?_;rintro _ W3 ⟨pb,rfl,hpb,x3⟩;refine⟨_,rfl,?_⟩;refine Reg.nil ?_;refine AD6 ?_;have G:Adv (bd::M) (bd::M) W2 W3:=Adv.of_ext x3;have H:=hA2.trans G;refine ASH (w:=w) (wi:=W3) (f:=g) (f':=g') (AYH (hMW bd (AX4 ..)) H.kp.size) (e2.ext (F.trans x3)) ?_ (j.adv G) (Ok.adv H _ o15) (Ok.adv H _ o16) (Ok.adv G _ ok17) (Ok.adv G _ ok18) hpb V.1.1 ((lk 8 (by decide)).trans l8) ((lk 13 (by decide)).trans l13) ((lk 14 (by decide)).trans l14) (lk 15 (by decide)) (lk 16 (by decide)) l17 l18 rfl hbok U fun W4 hI4 hA4=>?_
   . obtain⟨rk,O⟩:=O;exact⟨rk,((F.trans x3).block k (K7 O) (by simp)).trans O⟩
   . have m:=H.trans hA4;obtain⟨k1,k2⟩:=V4 m E e3.kp.size;exact⟨k1,k2,g',by rw[AYI];exact hfold,hI4,e3.trans m⟩
 . rintro D W hDw ⟨g,e1,e2,e3⟩ hdef;rw[AYd,ho1]at e1;cases e1
   exact hA D W hDw e2 e3 hdef
def AEb(ls:List Letter)(y:(Int×Int)×Int):Option (List Letter):=appo 24 ls [Letter.mk y.1.1 y.1.2 y.2]
noncomputable def AUE:Code:=match f16.body with
 |some (.seq _ (.seq _ (.seq _ (.seq _ (.seq _ (.seq _ (.seq _ (.seq _ (.seq _ (.seq _ c))))))))))=>c
 |_=>.skip
noncomputable def AXY:Code:=match AUE with
 |.seq _ (.seq c _)=>c
 |_=>.skip
noncomputable def AUF:Code:=match AUE with
 |.seq _ (.seq _ c)=>c
 |_=>.skip
def Dok(D:Nat)(M:List Nat)(W:World):Prop:=D∉M/\W.heap[D]?=some (.deferred (some []))
theorem Dok.adv{D:Nat}{M M':List Nat}{W W':World}(h:Dok D M W)(k:Adv M M' W W'):Dok D M' W':=by
 have H:D<W.heap.size:=K7 h.2;exact⟨fun hm=>(k.new D hm).elim h.1 fun I=>by omega,(k.kp.block D H h.1).trans h.2⟩
theorem AUG{w wt:World}{M:List Nat}{D bd b14:Nat}{f:A4 (Int×Int) Int}{Lb:Sx.A7}{ds:List Deferred}{A B:A3}{X:Nat->A3}{Z:List PanicEntry->A3}{z:List Letter×Int}(hI:Hp w [] M [ownR [] LetterE 70 (.slice none 0 0) []] wt)(hm:RdF K116 (B1 .i64) false M wt (.map (some bd)) f)(h14:RdC M wt b14 0 [.map (some bd)])(hDk:Dok D M wt)(hz:AAP f (fun xs=>(List.foldlM AEb [] xs).bind M5)=some z)(l14:Sx.A5 Lb 14=some (.pointer (some ⟨b14,0,none⟩)))(l23:Sx.A5 Lb 23=some (.slice none 0 0))(hA:∀L' W v ls,M5 ls=some z->Hp w [] M [ownR [] LetterE 70 v ls] W->Sx.A5 L' 23=some v->Adv M (mm [ownR [] LetterE 70 v ls] M) wt W->Dok D (mm [ownR [] LetterE 70 v ls] M) W->A ds L' W):CW prog 181 AXY ds Lb wt A B X Z:=by
 have j:RdF K116 (B1 .i64) false (mm [ownR [] LetterE 70 (.slice none 0 0) ([]:List Letter)] M) wt (.map (some bd)) f:=hm;refine A6 ?_;refine A8 ?_;refine V9 l14 (h14.cells.at 0 rfl) isAgg106 rfl ?_;refine ASf hI j rfl underlying106 rfl ?_;intro r b c es xs w1 hX hL hI1 P;refine Reg.nil ?_;obtain⟨Bd,hBd,V⟩:=AJp hz hL;subst hBd;have N:Adv M (mm (U0 r b c es xs none xs::[ownR [] LetterE 70 (.slice none 0 0) ([]:List Letter)]) M) wt w1:=P;refine H4 ?_;refine ABB (ι:=A7×Value×List Letter×List ((Int×Int)×Int)×List ((Int×Int)×Int)) (fun q=>q.1) (fun q W=>(Sx.A5 q.1 163=some (.pointer (some ⟨r,0,none⟩))/\Sx.A5 q.1 23=some q.2.1)/\(q.2.2.2.1++q.2.2.2.2).Perm xs/\List.foldlM AEb [] q.2.2.2.1=some q.2.2.1/\Hp w [] M [U0 r b c es xs none q.2.2.2.2,ownR [] LetterE 70 q.2.1 q.2.2.1] W/\RdX K116 (B1 .i64) false (mm [U0 r b c es xs none q.2.2.2.2,ownR [] LetterE 70 q.2.1 q.2.2.1] M) W b es c xs/\Adv M (mm [U0 r b c es xs none q.2.2.2.2,ownR [] LetterE 70 q.2.1 q.2.2.1] M) wt W) (fun q=>q.2.2.2.2.length) ((163,.pointer (some ⟨r,0,none⟩))::(162,.map (some bd))::Lb,.slice none 0 0,[],[],xs) ⟨⟨rfl,l23⟩,AZG _,rfl,hI1,hX.adv P,N⟩ (Sub.refl _) ?_;rintro⟨L1,v,ls,d,l⟩ W1 ⟨⟨k1,k2⟩,k3,k4,k5,k6,k7⟩;dsimp only at k1 k2 k3 k4 k5 k6 k7 ⊢;refine A6 ?_;refine A8 ?_;refine ASg 0 k5 k6 rfl k1 rfl (fun hl=>?_) (fun y l' k v' W2 e Q R=>?_)
 . refine AF9 (vs:=[.bool false]) rfl rfl rfl ?_;refine Reg.nil ?_;refine A6 ?_;refine ABA rfl ?_;refine AA9 (T7 ?_);subst hl;obtain⟨s,F,a⟩:=V d (by simpa using k3);rw[k4]at F;cases F
   have G:Adv M (mm [ownR [] LetterE 70 v ls] M) wt W1:=k7.trans (G5 (σ:=[U0 r b c es xs none ([]:List ((Int×Int)×Int)),ownR [] LetterE 70 v ls]) 0);exact hA _ W1 v ls a (k5.erase 0) k2 G (hDk.adv G)
 . refine AF9 (vs:=[.bool true,k,v']) rfl rfl rfl ?_;refine Reg.nil ?_;refine A6 ?_;refine ACM rfl ?_;refine P5 ?_;refine H4 ?_;refine A6 ?_;refine A8 ?_;have hX2:=k6.adv R;refine ASh 0 Q hX2 rfl k1 rfl fun v2 g L=>?_;obtain⟨o,n⟩:InK .i64 y.1.1/\InK .i64 y.1.2:=g;obtain⟨rfl,m⟩:v2=.int .i64 y.2/\InK .i64 y.2:=by
    obtain⟨cs,⟨h1,h2⟩,⟨S,_⟩|⟨_,S⟩⟩:=L
    . cases S
    . rw[h1]at S;exact⟨(List.singleton_inj.1 S).symm,h2⟩
   refine AF9 (vs:=[K116.val y.1,.int .i64 y.2]) rfl rfl rfl ?_;refine AF9 (vs:=[K116.val y.1,.int .i64 y.2]) rfl rfl rfl ?_;refine ACQ Q zeroValue116 rfl rfl ?_;intro b24 w5 hI5 x5;refine ABF 0 (vs:=[.int .i64 y.1.1,.int .i64 y.1.2]) hI5 rfl rfl rfl rfl sizeOf116 rfl rfl (D3 rfl (D3 rfl ACL)) ?_;intro w6 I x6;have I:Hp w [] M (rowR 116 b24 [.int .i64 y.1.1,.int .i64 y.1.2]::[U0 r b c es xs (some y) l',ownR [] LetterE 70 v ls]) w6:=I;refine G7 rfl rfl ?_;refine Reg.nil ?_;refine A8 ?_;have C:RdC [] w6 b24 0 ([y.1.1,y.1.2].map (Value.int .i64)):=H9 (fun h=>by cases h) (I.row 0 rfl);obtain⟨s0,H,_⟩:=V (d++(y::l')) (((AZG d).append e.symm).trans k3);rw[AY2,k4]at H;simp only[Option.bind_eq_bind,Option.bind_some,List.foldlM_cons]at H;obtain⟨ls',U,H⟩:=R0 H;obtain⟨x,J⟩:=ACP U;refine J3 k2 rfl ?_;refine AQV (i:=0) (z:=y.1.1) C rfl rfl rfl underlying116 rfl sizeOf3 rfl fun u=>?_;refine V9 rfl (u.cells.at 0 rfl) isAgg3 rfl ?_;refine AQV (i:=1) (z:=y.1.2) C rfl rfl rfl underlying116 rfl sizeOf3 rfl fun t=>?_;refine V9 rfl (t.cells.at 0 rfl) isAgg3 rfl ?_;refine J3 rfl rfl ?_;refine ASb [(0,1),(1,1),(2,1)] zeroValue70 rfl underlying70 (fun _=>by simp[sizeOf3]) rfl (Cls.cons rfl (Cls.cons rfl (Cls.cons rfl Cls.nil))) rfl rfl ?_;refine AJe (E:=LetterE) (xs:=[Letter.mk y.1.1 y.1.2 y.2]) rsl37 I rfl rfl (Cls.cons rfl Cls.nil) (Chs.cons (LetterE_R.2 ⟨rfl,o,n,m⟩) Chs.nil) rfl rfl ?_;intro v8 w8 O x8;have p:=O.freeze 0 rfl;have hI9:=O.erase 0;refine AFQ 2 rsl37 hI9 rfl rfl rfl p x rfl ?_;intro v10 w10 T x10;refine G7 rfl rfl ?_;have K:Hp w [] M [U0 r b c es xs (some y) l',ownR [] LetterE 70 v10 ls'] w10:=by rw[J];exact T.erase 0
   have hIb:Hp w [] M [U0 r b c es xs none l',ownR [] LetterE 70 v10 ls'] w10:=K.upd 0 rfl (Kp.refl _ _) (fun b hb=>.inl hb) rfl fun M' hM'=>by
    obtain⟨seen,q1,q2,_⟩:=K.get 0 rfl;exact⟨seen,q1,q2,fun _ h=>by cases h⟩
   have Y:Adv (mm [U0 r b c es xs none l,ownR [] LetterE 70 v ls] M) (mm [U0 r b c es xs none l',ownR [] LetterE 70 v10 ls'] M) W1 w10:=by
    have h1:=R.trans (x5.trans (x6.trans (x8.trans ((G5 (σ:=ownR [] LetterE 70 v8 [Letter.mk y.1.1 y.1.2 y.2]::rowR 116 b24 [.int .i64 y.1.1,.int .i64 y.1.2]::[U0 r b c es xs (some y) l',ownR [] LetterE 70 v ls]) 0).trans (x10.trans (G5 (σ:=rowR 116 b24 [.int .i64 y.1.1,.int .i64 y.1.2]::[U0 r b c es xs (some y) l',ownR [] LetterE 70 v10 (ls++[Letter.mk y.1.1 y.1.2 y.2])]) 0))))));rw[J];exact h1
   refine Reg.nil ⟨rfl,(_,v10,ls',d++[y],l'),?_,Sub.refl _,?_⟩
   . refine⟨⟨k1,rfl⟩,?_,?_,hIb,k6.adv Y,k7.trans Y⟩
     . rw[AYU];exact((AZG d).append e.symm).trans k3
     . rw[AY2,k4];simp only[Option.bind_eq_bind,Option.bind_some,List.foldlM_cons,U,List.foldlM_nil];rfl
   . have:=e.length_eq;simp at this;dsimp only;omega
end Go.Proofs.YtgioiejbphljoaaGreatDoor
end
