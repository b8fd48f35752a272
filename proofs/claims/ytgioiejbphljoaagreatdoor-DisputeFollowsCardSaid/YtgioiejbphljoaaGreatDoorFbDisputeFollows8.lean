/-
  Part DisputeFollows 8 of the texts that the statement's proof stands on: what memory holds, how code is walked, what the functions reckon. In the order in which they build.
-/
import Derived.Test.YtgioiejbphljoaaGreatDoorRows
import Derived.WalkKit
import Derived.ProofKit
import Derived.OpenShut
import Derived.ChangeOld
import Derived.Below
import Derived.LaidMore
import Derived.LaidSub
import Derived.WideKeyMaps
import Derived.Stop.Joined
import Derived.Test.YtgioiejbphljoaaGreatDoorFbDisputeFollows7
open List (mem_append mem_cons mem_map toArray)
open Nat (beq blt)
open Go.Proofs.Tryz
set_option linter.unusedVariables false
set_option linter.unusedSectionVars false
set_option maxRecDepth 100000
set_option maxHeartbeats 4000000
noncomputable section
namespace Go.Proofs.YtgioiejbphljoaaGreatDoor
open Go Go.Sx Go.Rx Go.RowKit
def ACI(d:Desk):Option Bool:=Option.bind (α:=Bool) (cond (decide (80<(d.reports.length:Int))) (some true) (cond (decide (30<(d.disputes.length:Int))) (some true) (some (decide (60<(d.answers.length:Int)))))) ((fun x1=>some x1))
def AW4:An:=.nd .x (.nd (.jn [.norm ⟨[(.slot 2,.d .bool)],[]⟩] .x) .x)
def ctr12:Ctr:=⟨[.d (.st 4)],[.d .bool],fun a=>ACI a.1⟩
theorem ok12:Ctr.ok prog 12 ctr12:=A7 (G:={ gxb with fs:=[] }) (an:=AW4) (A8 trivial) func12 rfl rfl rfl rfl (fun a=>by kernel_rfl)
def ABT(d:Desk):Option Desk:=(appo 64 ([]:List Report) d.reports).bind fun l1=>(appo 24 ([]:List Dispute) d.disputes).bind fun l2=>(appo 48 ([]:List Answer) d.answers).bind fun l3=>some (Desk.mk (Terms.mk d.terms.answer d.terms.mark d.terms.lately) l1 l2 l3)
def AW5:An:=.x
def ctr13:Ctr:=⟨[.d (.st 4)],[.d (.st 4)],fun a=>ABT a.1⟩
theorem ok13:Ctr.ok prog 13 ctr13:=A7 (G:={ gxb with fs:=[] }) (an:=AW5) (A8 trivial) func13 rfl rfl rfl rfl (fun a=>by kernel_rfl)
def AAm(s:List Int)(f:Int->Option Bool):Option Int:=(B5 (S:=Int) (R:=(Unit⊕Int)) (fun x5=>cond (decide (x5<(s.length:Int))) ((ixo s x5).bind fun y6=>(f y6).bind fun y7=>cond (y7) (some (Sum.inr (Sum.inr x5))) ((chk .i64 (x5+1)).bind fun n8=>some (Sum.inl n8))) (some (Sum.inr (Sum.inl ())))) (0:Int)).bind ((Sum.elim (fun _=>some ((-1):Int)) (fun r9=>some r9)))
def AVs:An:=.nd .x (.nd (.nd .x (.lp ⟨[(.slot 8,.d (.int .i64))],[]⟩ [.exit 0 ⟨[],[]⟩,.ret] .x)) .x)
def ctr121:Ctr:=⟨[.d (.sl (.int .i64)),.fn [(.int .i64)] .bool],[.d (.int .i64)],fun a=>AAm a.1 a.2.1⟩
theorem ok121:Ctr.ok prog 121 ctr121:=A7 (G:={ gxb with fs:=[] }) (an:=AVs) (A8 trivial) func121 rfl rfl rfl rfl (fun a=>by kernel_rfl)
def H0(s:List Int)(f:Int->Option Bool):Option Bool:=(AAm s f).bind fun r1=>some (decide (0<=r1))
def AW6:An:=.x
def ctr82:Ctr:=⟨[.d (.sl (.int .i64)),.fn [(.int .i64)] .bool],[.d .bool],fun a=>H0 a.1 a.2.1⟩
theorem ok82:Ctr.ok prog 82 ctr82:=A7 (G:={ gxb with fs:=[(121,ctr121)] }) (an:=AW6) (A8 ⟨⟨ok121,call121⟩,trivial⟩) func82 rfl rfl rfl rfl (fun a=>by kernel_rfl)
def Q6(n:Int)(a1_:Int)(a2_:Int):Option Bool:=Option.bind (α:=Bool) (cond (decide (n<a1_)) (some true) (some (decide (a2_<n)))) ((fun x1=>some x1))
def AW7:An:=.nd .x (.nd (.jn [.norm ⟨[(.slot 4,.d .bool)],[]⟩] .x) .x)
def ctr83:Ctr:=⟨[.d (.int .i64),.pt (.int .i64),.pt (.int .i64)],[.d .bool],fun a=>Q6 a.1 a.2.1 a.2.2.1⟩
theorem ok83:Ctr.ok prog 83 ctr83:=A7 (G:={ gxb with fs:=[] }) (an:=AW7) (A8 trivial) func83 rfl rfl rfl rfl (fun a=>by kernel_rfl)
def E2(lo:Int)(hi:Int)(all:List Int):Option Bool:=(H0 all (fun a1=>Q6 a1 lo hi)).bind fun r2=>some (!r2)
def AW8:An:=.x
def ctr44:Ctr:=⟨[.d (.int .i64),.d (.int .i64),.d (.sl (.int .i64))],[.d .bool],fun a=>E2 a.1 a.2.1 a.2.2.1⟩
theorem ok44:Ctr.ok prog 44 ctr44:=A7 (G:={ gxb with fs:=[(82,ctr82),(83,ctr83)] }) (an:=AW8) (A8 ⟨⟨ok82,call82⟩,⟨ok83,call83⟩,trivial⟩) func44 rfl rfl rfl rfl (fun a=>by kernel_rfl)
def AAL(vals:List Int):Option Int:=(B5 (S:=Int) (R:=(Unit⊕Int)) (fun x4=>cond (decide (x4<(vals.length:Int))) ((ixo vals x4).bind fun y5=>cond ((!decide (y5=0))) (some (Sum.inr (Sum.inr y5))) ((chk .i64 (x4+1)).bind fun n6=>some (Sum.inl n6))) (some (Sum.inr (Sum.inl ())))) (0:Int)).bind ((Sum.elim (fun _=>some (0:Int)) (fun r7=>some r7)))
def AVt:An:=.nd .x (.nd .x (.nd (.nd .x (.lp ⟨[(.slot 8,.d (.int .i64))],[]⟩ [.exit 0 ⟨[],[]⟩,.ret] .x)) .x))
def ctr104:Ctr:=⟨[.d (.sl (.int .i64))],[.d (.int .i64)],fun a=>AAL a.1⟩
theorem ok104:Ctr.ok prog 104 ctr104:=A7 (G:={ gxb with fs:=[] }) (an:=AVt) (A8 trivial) func104 rfl rfl rfl rfl (fun a=>by kernel_rfl)
def K2(a:Answer)(b:Answer):Option Bool:=(E0 a.day b.day).bind fun r1=>(E0 a.id b.id).bind fun r2=>(AAL ([r1,r2])).bind fun r3=>some (decide (r3<0))
def AVu:An:=.x
def ctr126:Ctr:=⟨[.d (.st 3),.d (.st 3)],[.d .bool],fun a=>K2 a.1 a.2.1⟩
theorem ok126:Ctr.ok prog 126 ctr126:=A7 (G:={ gxb with fs:=[(88,ctr88),(104,ctr104)] }) (an:=AVu) (A8 ⟨⟨ok88,call88⟩,⟨ok104,call104⟩,trivial⟩) func126 rfl rfl rfl rfl (fun a=>by kernel_rfl)
def O0(d:Desk_99)(x:Dispute):Option Verdict:=(chk .i64 (x.day+d.desk.terms.answer)).bind fun n1=>(chk .i64 (n1+1)).bind fun n2=>(B5 (S:=(Int×Int×Int×Int×Int×Int×Int×Int×Int)) (R:=(Int×Int×Int×Int×Int×Int×Int×Int)) (fun (x39,x40,x41,x42,x43,x44,x45,x46,x47)=>cond (decide (x39<(((d.answers x.id).getD ([]:List Answer)).length:Int))) ((ixo ((d.answers x.id).getD ([]:List Answer)) x39).bind fun y48=>Option.bind (α:=Bool) ((E2 x.day n1 ([y48.day])).bind fun r49=>cond (r49) (cond (decide (x41=5)) (some true) ((K2 y48 (Answer.mk x42 x43 x44 x45 x46 x47)).bind fun r50=>some r50)) (some false)) ((fun x51=>Option.bind (α:=(Int×Int×Int×Int×Int×Int×Int×Int)) (cond (x51) (some (y48.day,((AF4 y48.says).getD 0),y48.id,y48.dispute,y48.day,y48.says,y48.about,y48.cents)) (some (x40,x41,x42,x43,x44,x45,x46,x47))) ((fun (x52,x53,x54,x55,x56,x57,x58,x59)=>(chk .i64 (x39+1)).bind fun n60=>some (Sum.inl (n60,x52,x53,x54,x55,x56,x57,x58,x59))))))) (some (Sum.inr (x40,x41,x42,x43,x44,x45,x46,x47)))) ((0:Int),n2,(5:Int),(0:Int),(0:Int),(0:Int),(0:Int),(0:Int),(0:Int))).bind ((fun (x61,x62,x63,x64,x65,x66,x67,x68)=>some (Verdict.mk x61 x62 (Answer.mk x63 x64 x65 x66 x67 x68))))
def AW9:An:=.nd .x (.nd .x (.nd .x (.nd .x (.nd (.nd .x (.lp ⟨[(.slot 26,.d (.int .i64)),(.cell 6 0,.d (.int .i64)),(.cell 6 1,.d (.int .u8)),(.cell 6 2,.d (.int .i64)),(.cell 6 3,.d (.int .i64)),(.cell 6 4,.d (.int .i64)),(.cell 6 5,.d (.int .u8)),(.cell 6 6,.d (.int .i64)),(.cell 6 7,.d (.int .i64))],[6,4,3]⟩ [.exit 0 ⟨[(.cell 6 0,.d (.int .i64)),(.cell 6 1,.d (.int .u8)),(.cell 6 2,.d (.int .i64)),(.cell 6 3,.d (.int .i64)),(.cell 6 4,.d (.int .i64)),(.cell 6 5,.d (.int .u8)),(.cell 6 6,.d (.int .i64)),(.cell 6 7,.d (.int .i64))],[6,4]⟩] (.nd .x (.nd .x (.nd (.nd .x (.nd (.jn [.norm ⟨[(.slot 48,.d .bool)],[9,6,4,3]⟩] .x) (.jn [.norm ⟨[(.cell 6 0,.d (.int .i64)),(.cell 6 1,.d (.int .u8)),(.cell 6 2,.d (.int .i64)),(.cell 6 3,.d (.int .i64)),(.cell 6 4,.d (.int .i64)),(.cell 6 5,.d (.int .u8)),(.cell 6 6,.d (.int .i64)),(.cell 6 7,.d (.int .i64))],[6,4,3]⟩] .x))) .x))))) .x))))
def ctr92:Ctr:=⟨[.d (.st 10),.d (.st 2)],[.d (.st 12)],fun a=>O0 a.1 a.2.1⟩
theorem ok92:Ctr.ok prog 92 ctr92:=A7 (G:={ gxb with fs:=[(44,ctr44),(126,ctr126)] }) (an:=AW9) (A8 ⟨⟨ok44,call44⟩,⟨ok126,call126⟩,trivial⟩) func92 rfl rfl rfl rfl (fun a=>by kernel_rfl)
def P2(d:Desk_99)(x:Dispute)(day:Int):Option (Int×Verdict):=(O0 d x).bind fun r1=>cond (decide (r1.day<=day)) (some (r1.is_,r1)) (cond (decide (x.day<=day)) (some ((1:Int),r1)) (some ((0:Int),r1)))
def AXA:An:=.x
def ctr57:Ctr:=⟨[.d (.st 10),.d (.st 2),.d (.int .i64)],[.d (.int .u8),.d (.st 12)],fun a=>P2 a.1 a.2.1 a.2.2.1⟩
theorem ok57:Ctr.ok prog 57 ctr57:=A7 (G:={ gxb with fs:=[(92,ctr92)] }) (an:=AXA) (A8 ⟨⟨ok92,call92⟩,trivial⟩) func57 rfl rfl rfl rfl (fun a=>by kernel_rfl)
def B7(n:Int)(lo:Int)(hi:Int):Option Bool:=Option.bind (α:=Bool) (cond (decide (lo<=n)) (some (decide (n<=hi))) (some false)) ((fun x1=>some x1))
def AXB:An:=.nd .x (.nd (.jn [.norm ⟨[(.slot 6,.d .bool)],[]⟩] .x) .x)
def ctr42:Ctr:=⟨[.d (.int .i64),.d (.int .i64),.d (.int .i64)],[.d .bool],fun a=>B7 a.1 a.2.1 a.2.2.1⟩
theorem ok42:Ctr.ok prog 42 ctr42:=A7 (G:={ gxb with fs:=[] }) (an:=AXB) (A8 trivial) func42 rfl rfl rfl rfl (fun a=>by kernel_rfl)
def D7(n:Int)(lo:Int)(hi:Int):Option Bool:=Option.bind (α:=Bool) (cond (decide (lo<=n)) (some (decide (n<=hi))) (some false)) ((fun x1=>some x1))
def AVv:An:=.nd .x (.nd (.jn [.norm ⟨[(.slot 6,.d .bool)],[]⟩] .x) .x)
def ctr128:Ctr:=⟨[.d (.int .i64),.d (.int .i64),.d (.int .i64)],[.d .bool],fun a=>D7 a.1 a.2.1 a.2.2.1⟩
theorem ok128:Ctr.ok prog 128 ctr128:=A7 (G:={ gxb with fs:=[] }) (an:=AVv) (A8 trivial) func128 rfl rfl rfl rfl (fun a=>by kernel_rfl)
def Y2(kind:Int)(n:Int):Option Bool:=Option.bind (α:=Bool) (cond (decide (kind=1)) (some (decide (kind=1))) (some (decide (kind=7)))) ((fun x1=>cond (x1) (some (decide (n=0))) (cond (decide (kind=5)) ((D7 n (0:Int) (10000:Int)).bind fun r2=>some r2) ((D7 n (0:Int) (1000000000000:Int)).bind fun r3=>some r3))))
def AVw:An:=.nd .x (.nd (.nd .x (.nd (.nd .x (.jn [.norm ⟨[(.slot 6,.d .bool)],[]⟩] .x)) .x)) .x)
def ctr129:Ctr:=⟨[.d (.int .u8),.d (.int .i64)],[.d .bool],fun a=>Y2 a.1 a.2.1⟩
theorem ok129:Ctr.ok prog 129 ctr129:=A7 (G:={ gxb with fs:=[(128,ctr128)] }) (an:=AVw) (A8 ⟨⟨ok128,call128⟩,trivial⟩) func129 rfl rfl rfl rfl (fun a=>by kernel_rfl)
def O4(r:Report):Option Bool:=Option.bind (α:=Bool) ((D7 r.id (0:Int) (999999:Int)).bind fun r8=>cond ((!r8)) (some true) ((D7 r.source (0:Int) (999999:Int)).bind fun r9=>cond ((!r9)) (some true) ((D7 r.account (0:Int) (999999:Int)).bind fun r10=>cond ((!r10)) (some true) ((D7 r.made (0:Int) (100000:Int)).bind fun r11=>cond ((!r11)) (some true) ((D7 r.about (0:Int) (100000:Int)).bind fun r12=>cond ((!r12)) (some true) ((chk .i64 r.kind).bind fun n13=>(D7 n13 (1:Int) (9:Int)).bind fun r14=>some (!r14))))))) ((fun x15=>cond (x15) (some false) (cond (decide (r.kind<=7)) (Option.bind (α:=Bool) ((Y2 r.kind r.cents).bind fun r16=>cond (r16) (some (decide (r.of_=0))) (some false)) ((fun x17=>some x17))) (Option.bind (α:=Bool) ((D7 r.of_ (0:Int) (999999:Int)).bind fun r19=>cond ((!r19)) (some true) (some (decide (r.of_=r.id)))) ((fun x20=>cond (x20) (some false) (cond (decide (r.kind=8)) ((D7 r.cents (0:Int) (1000000000000:Int)).bind fun r21=>some r21) (Option.bind (α:=Bool) (cond (decide (r.cents=0)) (some (decide (r.about=0))) (some false)) ((fun x22=>some x22))))))))))
def AXC:An:=.nd .x (.nd (.nd (.jn [.norm ⟨[(.slot 37,.d .bool)],[1]⟩] .x) .x) (.nd (.nd .x (.nd (.nd (.jn [.norm ⟨[(.slot 2,.d .bool)],[]⟩] .x) .x) .x)) (.nd (.nd (.jn [.norm ⟨[(.slot 61,.d .bool)],[1]⟩] .x) .x) (.nd .x (.nd (.jn [.norm ⟨[(.slot 2,.d .bool)],[]⟩] .x) .x)))))
def ctr95:Ctr:=⟨[.d (.st 1)],[.d .bool],fun a=>O4 a.1⟩
theorem ok95:Ctr.ok prog 95 ctr95:=A7 (G:={ gxb with fs:=[(128,ctr128),(129,ctr129)] }) (an:=AXC) (A8 ⟨⟨ok128,call128⟩,⟨ok129,call129⟩,trivial⟩) func95 rfl rfl rfl rfl (fun a=>by kernel_rfl)
def O5(l:List Report):Option Int:=cond (decide (60<(l.length:Int))) (some (4:Int)) ((B5 (S:=Int) (R:=(Unit⊕Int)) (fun x5=>cond (decide (x5<(l.length:Int))) ((ixo l x5).bind fun y6=>(O4 y6).bind fun r7=>cond ((!r7)) (some (Sum.inr (Sum.inr (30:Int)))) ((chk .i64 (x5+1)).bind fun n8=>some (Sum.inl n8))) (some (Sum.inr (Sum.inl ())))) (0:Int)).bind ((Sum.elim (fun _=>(B5 (S:=Int) (R:=(Unit⊕Int)) (fun x19=>cond (decide (x19<(l.length:Int))) ((B5 (S:=Int) (R:=(Unit⊕Int)) (fun x20=>cond (decide (x20<x19)) (Option.bind (α:=Bool) ((ixo l x19).bind fun y21=>(ixo l x20).bind fun y22=>cond (decide (y21.id=y22.id)) ((ixo l x19).bind fun y23=>(ixo l x20).bind fun y24=>some (!decide (y23=y24))) (some false)) ((fun x25=>cond (x25) (some (Sum.inr (Sum.inr (31:Int)))) ((chk .i64 (x20+1)).bind fun n26=>some (Sum.inl n26))))) (some (Sum.inr (Sum.inl ())))) (0:Int)).bind ((Sum.elim (fun _=>(chk .i64 (x19+1)).bind fun n27=>some (Sum.inl n27)) (fun r28=>some (Sum.inr (Sum.inr r28)))))) (some (Sum.inr (Sum.inl ())))) (0:Int)).bind ((Sum.elim (fun _=>some (0:Int)) (fun r29=>some r29)))) (fun r30=>some r30))))
def AXD:An:=.nd .x (.nd .x (.nd (.nd .x (.lp ⟨[(.slot 3,.d (.int .i64))],[]⟩ [.exit 0 ⟨[],[]⟩,.ret] .x)) (.nd (.nd .x (.lp ⟨[(.slot 4,.d (.int .i64))],[]⟩ [.exit 2 ⟨[],[]⟩,.ret] (.nd .x (.nd (.nd .x (.lp ⟨[(.slot 5,.d (.int .i64))],[]⟩ [.exit 4 ⟨[],[]⟩,.ret] (.nd .x (.nd (.nd (.jn [.norm ⟨[(.slot 53,.d .bool)],[]⟩] .x) .x) .x)))) .x)))) .x)))
def ctr62:Ctr:=⟨[.d (.sl (.st 1))],[.d (.int .i64)],fun a=>O5 a.1⟩
theorem ok62:Ctr.ok prog 62 ctr62:=A7 (G:={ gxb with fs:=[(95,ctr95)] }) (an:=AXD) (A8 ⟨⟨ok95,call95⟩,trivial⟩) func62 rfl rfl rfl rfl (fun a=>by kernel_rfl)
def ACa(d:Desk)(id:Int):Option Int:=(B5 (S:=Int) (R:=(Unit⊕Int)) (fun x4=>cond (decide (x4<(d.disputes.length:Int))) ((ixo d.disputes x4).bind fun y5=>cond (decide (y5.id=id)) (some (Sum.inr (Sum.inr x4))) ((chk .i64 (x4+1)).bind fun n6=>some (Sum.inl n6))) (some (Sum.inr (Sum.inl ())))) (0:Int)).bind ((Sum.elim (fun _=>some ((-1):Int)) (fun r7=>some r7)))
def AXE:An:=.nd .x (.nd (.nd .x (.lp ⟨[(.slot 5,.d (.int .i64))],[2]⟩ [.exit 0 ⟨[],[]⟩,.ret] .x)) .x)
def ctr26:Ctr:=⟨[.d (.st 4),.d (.int .i64)],[.d (.int .i64)],fun a=>ACa a.1 a.2.1⟩
theorem ok26:Ctr.ok prog 26 ctr26:=A7 (G:={ gxb with fs:=[] }) (an:=AXE) (A8 trivial) func26 rfl rfl rfl rfl (fun a=>by kernel_rfl)
def G4(l:List Report)(id:Int):Option Int:=(B5 (S:=Int) (R:=(Unit⊕Int)) (fun x4=>cond (decide (x4<(l.length:Int))) ((ixo l x4).bind fun y5=>cond (decide (y5.id=id)) (some (Sum.inr (Sum.inr x4))) ((chk .i64 (x4+1)).bind fun n6=>some (Sum.inl n6))) (some (Sum.inr (Sum.inl ())))) (0:Int)).bind ((Sum.elim (fun _=>some ((-1):Int)) (fun r7=>some r7)))
def AXF:An:=.nd .x (.nd (.nd .x (.lp ⟨[(.slot 5,.d (.int .i64))],[]⟩ [.exit 0 ⟨[],[]⟩,.ret] .x)) .x)
def ctr96:Ctr:=⟨[.d (.sl (.st 1)),.d (.int .i64)],[.d (.int .i64)],fun a=>G4 a.1 a.2.1⟩
theorem ok96:Ctr.ok prog 96 ctr96:=A7 (G:={ gxb with fs:=[] }) (an:=AXF) (A8 trivial) func96 rfl rfl rfl rfl (fun a=>by kernel_rfl)
def Q7(l:List Report)(id:Int):Option Int:=(G4 l id).bind fun r1=>Option.bind (α:=Bool) (cond (decide (0<=r1)) ((ixo l r1).bind fun y3=>some (decide (7<y3.kind))) (some false)) ((fun x4=>cond (x4) (some ((-1):Int)) (some r1)))
def AXG:An:=.nd .x (.nd .x (.nd (.nd (.jn [.norm ⟨[(.slot 18,.d .bool)],[]⟩] .x) .x) .x))
def ctr90:Ctr:=⟨[.d (.sl (.st 1)),.d (.int .i64)],[.d (.int .i64)],fun a=>Q7 a.1 a.2.1⟩
theorem ok90:Ctr.ok prog 90 ctr90:=A7 (G:={ gxb with fs:=[(96,ctr96)] }) (an:=AXG) (A8 ⟨⟨ok96,call96⟩,trivial⟩) func90 rfl rfl rfl rfl (fun a=>by kernel_rfl)
def N2(d:Desk):Option Bool:=cond (decide (20<(d.disputes.length:Int))) (some false) ((B5 (S:=Int) (R:=(Unit⊕Bool)) (fun x14=>cond (decide (x14<(d.disputes.length:Int))) ((ixo d.disputes x14).bind fun y15=>Option.bind (α:=Bool) ((B7 y15.id (0:Int) (999999:Int)).bind fun r16=>cond ((!r16)) (some true) ((ACa d y15.id).bind fun r17=>cond ((!decide (r17=x14))) (some true) ((G4 d.reports y15.id).bind fun r18=>some (decide (0<=r18))))) ((fun x19=>cond (x19) (some (Sum.inr (Sum.inr false))) ((Q7 d.reports y15.report).bind fun r20=>Option.bind (α:=Bool) (cond (decide (r20<0)) (some true) ((ixo d.reports r20).bind fun y21=>(chk .i64 (100000-d.terms.answer)).bind fun n22=>(chk .i64 (n22-1)).bind fun n23=>(B7 y15.day y21.made n23).bind fun r24=>some (!r24))) ((fun x25=>cond (x25) (some (Sum.inr (Sum.inr false))) ((chk .i64 (x14+1)).bind fun n26=>some (Sum.inl n26)))))))) (some (Sum.inr (Sum.inl ())))) (0:Int)).bind ((Sum.elim (fun _=>some true) (fun r27=>some r27))))
def AXH:An:=.nd .x (.nd .x (.nd (.nd .x (.lp ⟨[(.slot 3,.d (.int .i64))],[1]⟩ [.exit 0 ⟨[],[]⟩,.ret] (.nd .x (.nd (.nd .x (.nd (.nd (.jn [.norm ⟨[(.slot 41,.d .bool)],[4,1]⟩] .x) .x) (.nd .x (.nd (.jn [.norm ⟨[(.slot 65,.d .bool)],[1]⟩] .x) .x)))) .x)))) .x))
def ctr63:Ctr:=⟨[.d (.st 4)],[.d .bool],fun a=>N2 a.1⟩
theorem ok63:Ctr.ok prog 63 ctr63:=A7 (G:={ gxb with fs:=[(26,ctr26),(42,ctr42),(90,ctr90),(96,ctr96)] }) (an:=AXH) (A8 ⟨⟨ok26,call26⟩,⟨ok42,call42⟩,⟨ok90,call90⟩,⟨ok96,call96⟩,trivial⟩) func63 rfl rfl rfl rfl (fun a=>by kernel_rfl)
def AAr(kind:Int)(n:Int):Option Bool:=Option.bind (α:=Bool) (cond (decide (kind=1)) (some (decide (kind=1))) (some (decide (kind=7)))) ((fun x1=>cond (x1) (some (decide (n=0))) (cond (decide (kind=5)) ((B7 n (0:Int) (10000:Int)).bind fun r2=>some r2) ((B7 n (0:Int) (1000000000000:Int)).bind fun r3=>some r3))))
def AXI:An:=.nd .x (.nd (.nd .x (.nd (.nd .x (.jn [.norm ⟨[(.slot 6,.d .bool)],[]⟩] .x)) .x)) .x)
def ctr97:Ctr:=⟨[.d (.int .u8),.d (.int .i64)],[.d .bool],fun a=>AAr a.1 a.2.1⟩
theorem ok97:Ctr.ok prog 97 ctr97:=A7 (G:={ gxb with fs:=[(42,ctr42)] }) (an:=AXI) (A8 ⟨⟨ok42,call42⟩,trivial⟩) func97 rfl rfl rfl rfl (fun a=>by kernel_rfl)
def O1(d:Desk):Option Bool:=cond (decide (40<(d.answers.length:Int))) (some false) ((B5 (S:=Int) (R:=(Unit⊕Bool)) (fun x49=>cond (decide (x49<(d.answers.length:Int))) (Option.bind (α:=(Unit⊕Bool)) ((ixo d.answers x49).bind fun y50=>(B5 (S:=Int) (R:=(Unit⊕Bool)) (fun x51=>cond (decide (x51<x49)) ((ixo d.answers x51).bind fun y52=>cond (decide (y52.id=y50.id)) (some (Sum.inr (Sum.inr false))) ((chk .i64 (x51+1)).bind fun n53=>some (Sum.inl n53))) (some (Sum.inr (Sum.inl ())))) (0:Int)).bind ((Sum.elim (fun _=>Option.bind (α:=Bool) ((B7 y50.id (0:Int) (999999:Int)).bind fun r54=>cond ((!r54)) (some true) ((B7 y50.day (0:Int) (100000:Int)).bind fun r55=>cond ((!r55)) (some true) ((chk .i64 y50.says).bind fun n56=>(B7 n56 (1:Int) (3:Int)).bind fun r57=>some (!r57)))) ((fun x58=>cond (x58) (some (Sum.inr false)) ((ACa d y50.dispute).bind fun r59=>cond (decide (r59<0)) (some (Sum.inr false)) (cond ((!decide (y50.says=2))) (Option.bind (α:=Bool) (cond ((!decide (y50.about=0))) (some true) (some (!decide (y50.cents=0)))) ((fun x60=>cond (x60) (some (Sum.inr false)) (some (Sum.inl ()))))) ((ixo d.disputes r59).bind fun y61=>(Q7 d.reports y61.report).bind fun r62=>(ixo d.reports r62).bind fun y63=>Option.bind (α:=Bool) ((B7 y50.about (0:Int) (100000:Int)).bind fun r64=>cond ((!r64)) (some true) ((AAr y63.kind y50.cents).bind fun r65=>some (!r65))) ((fun x66=>cond (x66) (some (Sum.inr false)) (some (Sum.inl ())))))))))) (fun r67=>some (Sum.inr r67))))) ((Sum.elim (fun _=>(chk .i64 (x49+1)).bind fun n68=>some (Sum.inl n68)) (fun r69=>some (Sum.inr (Sum.inr r69)))))) (some (Sum.inr (Sum.inl ())))) (0:Int)).bind ((Sum.elim (fun _=>some true) (fun r70=>some r70))))
def AXJ:An:=.nd .x (.nd .x (.nd (.nd .x (.lp ⟨[(.slot 3,.d (.int .i64))],[1]⟩ [.exit 0 ⟨[],[]⟩,.ret] (.nd .x (.nd (.jn [.norm ⟨[],[1]⟩,.ret] (.nd .x (.nd (.nd .x (.lp ⟨[(.slot 5,.d (.int .i64))],[4,1]⟩ [.exit 2 ⟨[],[4,1]⟩,.ret] .x)) (.nd (.nd (.jn [.norm ⟨[(.slot 54,.d .bool)],[4,1]⟩] .x) .x) (.nd .x (.nd .x (.nd (.nd .x (.nd (.nd (.nd (.jn [.norm ⟨[(.slot 71,.d .bool)],[1]⟩] .x) .x) .x) .x)) (.nd .x (.nd (.jn [.norm ⟨[(.slot 96,.d .bool)],[1]⟩] .x) .x))))))))) .x)))) .x))
def ctr64:Ctr:=⟨[.d (.st 4)],[.d .bool],fun a=>O1 a.1⟩
theorem ok64:Ctr.ok prog 64 ctr64:=A7 (G:={ gxb with fs:=[(26,ctr26),(42,ctr42),(90,ctr90),(97,ctr97)] }) (an:=AXJ) (A8 ⟨⟨ok26,call26⟩,⟨ok42,call42⟩,⟨ok90,call90⟩,⟨ok97,call97⟩,trivial⟩) func64 rfl rfl rfl rfl (fun a=>by kernel_rfl)
def Y3(d:Desk):Option Int:=Option.bind (α:=Bool) ((B7 d.terms.answer (0:Int) (1000:Int)).bind fun r4=>cond ((!r4)) (some true) ((B7 d.terms.mark (0:Int) (100000:Int)).bind fun r5=>cond ((!r5)) (some true) ((B7 d.terms.lately (0:Int) (100000:Int)).bind fun r6=>some (!r6)))) ((fun x7=>cond (x7) (some (50:Int)) ((O5 d.reports).bind fun r8=>cond ((!decide (r8=0))) (some r8) ((N2 d).bind fun r9=>cond ((!r9)) (some (51:Int)) ((O1 d).bind fun r10=>cond ((!r10)) (some (52:Int)) (some (0:Int)))))))
def AXK:An:=.nd .x (.nd (.nd (.jn [.norm ⟨[(.slot 22,.d .bool)],[1]⟩] .x) .x) .x)
def ctr27:Ctr:=⟨[.d (.st 4)],[.d (.int .i64)],fun a=>Y3 a.1⟩
theorem ok27:Ctr.ok prog 27 ctr27:=A7 (G:={ gxb with fs:=[(42,ctr42),(62,ctr62),(63,ctr63),(64,ctr64)] }) (an:=AXK) (A8 ⟨⟨ok42,call42⟩,⟨ok62,call62⟩,⟨ok63,call63⟩,⟨ok64,call64⟩,trivial⟩) func27 rfl rfl rfl rfl (fun a=>by kernel_rfl)
def V3(d:Desk)(x:Dispute):Option Int:=(B5 (S:=(Int×Int)) (R:=Int) (fun (x28,x29)=>cond (decide (x29<(d.answers.length:Int))) (Option.bind (α:=Int) ((ixo d.answers x29).bind fun y30=>Option.bind (α:=Bool) (cond ((!decide (y30.dispute=x.id))) (some true) ((chk .i64 (x.day+d.terms.answer)).bind fun n31=>(B7 y30.day x.day n31).bind fun r32=>some (!r32))) ((fun x33=>cond (x33) (some x28) (Option.bind (α:=Bool) (cond (decide (x28<0)) (some true) ((ixo d.answers x28).bind fun y34=>cond (decide (y30.day<y34.day)) (some true) ((ixo d.answers x28).bind fun y35=>cond (decide (y30.day=y35.day)) ((ixo d.answers x28).bind fun y36=>some (decide (y30.id<y36.id))) (some false)))) ((fun x37=>Option.bind (α:=Int) (cond (x37) (some x29) (some x28)) ((fun x38=>some x38)))))))) ((fun x39=>(chk .i64 (x29+1)).bind fun n40=>some (Sum.inl (x39,n40))))) (some (Sum.inr x28))) (((-1):Int),(0:Int))).bind ((fun x41=>some x41))
def AXL:An:=.nd .x (.nd .x (.nd (.nd .x (.lp ⟨[(.slot 5,.d (.int .i64)),(.slot 6,.d (.int .i64))],[3,2]⟩ [.exit 0 ⟨[(.slot 5,.d (.int .i64))],[]⟩] (.nd .x (.nd (.jn [.norm ⟨[(.slot 5,.d (.int .i64))],[3,2]⟩] (.nd .x (.nd (.nd (.jn [.norm ⟨[(.slot 38,.d .bool)],[7,3,2]⟩] .x) .x) (.nd (.jn [.norm ⟨[(.slot 73,.d .bool)],[3,2]⟩] .x) (.jn [.norm ⟨[(.slot 5,.d (.int .i64))],[3,2]⟩] .x))))) .x)))) .x))
def ctr89:Ctr:=⟨[.d (.st 4),.d (.st 2)],[.d (.int .i64)],fun a=>V3 a.1 a.2.1⟩
theorem ok89:Ctr.ok prog 89 ctr89:=A7 (G:={ gxb with fs:=[(42,ctr42)] }) (an:=AXL) (A8 ⟨⟨ok42,call42⟩,trivial⟩) func89 rfl rfl rfl rfl (fun a=>by kernel_rfl)
def K9(d:Desk)(x:Dispute):Option (Int×Int):=(V3 d x).bind fun r1=>cond (decide (r1<0)) ((chk .i64 (x.day+d.terms.answer)).bind fun n2=>(chk .i64 (n2+1)).bind fun n3=>some (n3,(5:Int))) ((ixo d.answers r1).bind fun y4=>(ixo d.answers r1).bind fun y5=>(chk .u8 (y5.says+1)).bind fun n6=>some (y4.day,n6))
def AXM:An:=.x
def ctr51:Ctr:=⟨[.d (.st 4),.d (.st 2)],[.d (.int .i64),.d (.int .u8)],fun a=>K9 a.1 a.2.1⟩
theorem ok51:Ctr.ok prog 51 ctr51:=A7 (G:={ gxb with fs:=[(89,ctr89)] }) (an:=AXM) (A8 ⟨⟨ok89,call89⟩,trivial⟩) func51 rfl rfl rfl rfl (fun a=>by kernel_rfl)
def Z9(d:Desk)(x:Dispute):Option (Report×Bool):=(K9 d x).bind fun (r1,r2)=>cond (decide (r2=2)) (some ((Report.mk 0 0 0 0 0 0 0 0),false)) ((Q7 d.reports x.report).bind fun r3=>(ixo d.reports r3).bind fun y4=>Option.bind (α:=(Int×Int×Int)) (cond (decide (r2=3)) ((V3 d x).bind fun r7=>(ixo d.answers r7).bind fun y8=>some (y8.about,(8:Int),y8.cents)) (some ((0:Int),(9:Int),(0:Int)))) ((fun (x9,x10,x11)=>some ((Report.mk x.id y4.source y4.account r1 x9 x10 x11 y4.id),true))))
def AXN:An:=.nd .x (.nd .x (.nd .x (.nd .x (.nd .x (.nd (.nd .x (.jn [.norm ⟨[(.cell 9 4,.d (.int .i64)),(.cell 9 5,.d (.int .u8)),(.cell 9 6,.d (.int .i64))],[9,4]⟩] .x)) .x)))))
def ctr81:Ctr:=⟨[.d (.st 4),.d (.st 2)],[.d (.st 1),.d .bool],fun a=>Z9 a.1 a.2.1⟩
theorem ok81:Ctr.ok prog 81 ctr81:=A7 (G:={ gxb with fs:=[(51,ctr51),(89,ctr89),(90,ctr90)] }) (an:=AXN) (A8 ⟨⟨ok51,call51⟩,⟨ok89,call89⟩,⟨ok90,call90⟩,trivial⟩) func81 rfl rfl rfl rfl (fun a=>by kernel_rfl)
def V4(d:Desk)(day:Int):Option (List Report):=(appo 64 ([]:List Report) d.reports).bind fun l1=>(B5 (S:=((List Report)×Int)) (R:=((List Report))) (fun (x121,x122)=>cond (decide (x122<(d.disputes.length:Int))) (Option.bind (α:=((List Report))) ((ixo d.disputes x122).bind fun y123=>(Z9 d y123).bind fun (r124,r125)=>Option.bind (α:=Bool) (cond ((!r125)) (some true) (some (decide (day<r124.made)))) ((fun x126=>cond (x126) (some x121) ((appo 64 x121 ([r124])).bind fun l127=>(chk .i64 ((l127.length:Int)-1)).bind fun n128=>(B5 (S:=(Int×(List Report))) (R:=((List Report))) (fun (x129,x130)=>Option.bind (α:=Bool) (cond (decide ((l1.length:Int)<x129)) ((ixo x130 x129).bind fun y131=>(chk .i64 (x129-1)).bind fun n132=>(ixo x130 n132).bind fun y133=>cond (decide (y131.made<y133.made)) (some true) ((ixo x130 x129).bind fun y134=>(chk .i64 (x129-1)).bind fun n135=>(ixo x130 n135).bind fun y136=>cond (decide (y134.made=y136.made)) ((ixo x130 x129).bind fun y137=>(chk .i64 (x129-1)).bind fun n138=>(ixo x130 n138).bind fun y139=>some (decide (y137.id<y139.id))) (some false))) (some false)) ((fun x140=>cond (x140) ((chk .i64 (x129-1)).bind fun n141=>(chk .i64 (x129-1)).bind fun n142=>(ixo x130 n142).bind fun y143=>(ixo x130 x129).bind fun y144=>(ixo x130 x129).bind fun y145=>(seto x130 x129 y143).bind fun l146=>(ixo l146 n141).bind fun y147=>(seto l146 n141 y144).bind fun l148=>(chk .i64 (x129-1)).bind fun n149=>some (Sum.inl (n149,l148))) (some (Sum.inr x130))))) (n128,l127)).bind ((fun x150=>some x150)))))) ((fun x151=>(chk .i64 (x122+1)).bind fun n152=>some (Sum.inl (x151,n152))))) (some (Sum.inr x121))) (l1,(0:Int))).bind ((fun x153=>some x153))
def AXO:An:=.nd .x (.nd .x (.nd .x (.nd (.nd .x (.lp ⟨[(.slot 5,.own (.sl 45 (.st 1))),(.slot 7,.d (.int .i64))],[2]⟩ [.exit 0 ⟨[(.slot 5,.own (.sl 45 (.st 1)))],[]⟩] (.nd .x (.nd (.jn [.norm ⟨[(.slot 5,.own (.sl 45 (.st 1)))],[2]⟩] (.nd .x (.nd (.nd (.jn [.norm ⟨[(.slot 41,.d .bool)],[8,5,2]⟩] .x) .x) (.nd .x (.nd .x (.lp ⟨[(.slot 10,.d (.int .i64)),(.cont 5,.own (.sl 45 (.st 1)))],[5,2]⟩ [.exit 2 ⟨[(.cont 5,.own (.sl 45 (.st 1)))],[5,2]⟩] (.nd (.nd (.jn [.norm ⟨[(.slot 93,.d .bool)],[5,2]⟩] .x) .x) .x))))))) .x)))) .x)))
def ctr43:Ctr:=⟨[.d (.st 4),.d (.int .i64)],[.own (.sl 45 (.st 1))],fun a=>V4 a.1 a.2.1⟩
theorem ok43:Ctr.ok prog 43 ctr43:=A7 (G:={ gxb with fs:=[(81,ctr81)] }) (an:=AXO) (A8 ⟨⟨ok81,call81⟩,trivial⟩) func43 rfl rfl rfl rfl (fun a=>by kernel_rfl)
def AAY(d:Desk)(day:Int):Option ((List Report)×Int):=(Y3 d).bind fun r1=>cond ((!decide (r1=0))) (some (([]:List Report),r1)) ((B7 day (0:Int) (100000:Int)).bind fun r2=>cond ((!r2)) (some (([]:List Report),(2:Int))) ((V4 d day).bind fun r3=>cond (decide (60<(r3.length:Int))) (some (([]:List Report),(9:Int))) (some (r3,(0:Int)))))
def AXP:An:=.x
def ctr15:Ctr:=⟨[.d (.st 4),.d (.int .i64)],[.own (.sl 45 (.st 1)),.d (.int .i64)],fun a=>AAY a.1 a.2.1⟩
theorem ok15:Ctr.ok prog 15 ctr15:=A7 (G:={ gxb with fs:=[(27,ctr27),(42,ctr42),(43,ctr43)] }) (an:=AXP) (A8 ⟨⟨ok27,call27⟩,⟨ok42,call42⟩,⟨ok43,call43⟩,trivial⟩) func15 rfl rfl rfl rfl (fun a=>by kernel_rfl)
def AAn(s:List Report)(f:Report->Option Bool):Option Int:=(B5 (S:=Int) (R:=(Unit⊕Int)) (fun x5=>cond (decide (x5<(s.length:Int))) ((ixo s x5).bind fun y6=>(f y6).bind fun y7=>cond (y7) (some (Sum.inr (Sum.inr x5))) ((chk .i64 (x5+1)).bind fun n8=>some (Sum.inl n8))) (some (Sum.inr (Sum.inl ())))) (0:Int)).bind ((Sum.elim (fun _=>some ((-1):Int)) (fun r9=>some r9)))
def AVx:An:=.nd .x (.nd (.nd .x (.lp ⟨[(.slot 8,.d (.int .i64))],[]⟩ [.exit 0 ⟨[],[]⟩,.ret] .x)) .x)
def ctr130:Ctr:=⟨[.d (.sl (.st 1)),.fn [(.st 1)] .bool],[.d (.int .i64)],fun a=>AAn a.1 a.2.1⟩
theorem ok130:Ctr.ok prog 130 ctr130:=A7 (G:={ gxb with fs:=[] }) (an:=AVx) (A8 trivial) func130 rfl rfl rfl rfl (fun a=>by kernel_rfl)
def L6(s:List Report)(f:Report->Option Bool):Option Bool:=(AAn s f).bind fun r1=>some (decide (0<=r1))
def AXQ:An:=.x
def ctr98:Ctr:=⟨[.d (.sl (.st 1)),.fn [(.st 1)] .bool],[.d .bool],fun a=>L6 a.1 a.2.1⟩
theorem ok98:Ctr.ok prog 98 ctr98:=A7 (G:={ gxb with fs:=[(130,ctr130)] }) (an:=AXQ) (A8 ⟨⟨ok130,call130⟩,trivial⟩) func98 rfl rfl rfl rfl (fun a=>by kernel_rfl)
def Q8(n:Int)(a1_:Int)(a2_:Int):Option Bool:=Option.bind (α:=Bool) (cond (decide (n<a1_)) (some true) (some (decide (a2_<n)))) ((fun x1=>some x1))
def AVy:An:=.nd .x (.nd (.jn [.norm ⟨[(.slot 4,.d .bool)],[]⟩] .x) .x)
def ctr101:Ctr:=⟨[.d (.int .i64),.pt (.int .i64),.pt (.int .i64)],[.d .bool],fun a=>Q8 a.1 a.2.1 a.2.2.1⟩
theorem ok101:Ctr.ok prog 101 ctr101:=A7 (G:={ gxb with fs:=[] }) (an:=AVy) (A8 trivial) func101 rfl rfl rfl rfl (fun a=>by kernel_rfl)
def L7(lo:Int)(hi:Int)(all:List Int):Option Bool:=(H0 all (fun a1=>Q8 a1 lo hi)).bind fun r2=>some (!r2)
def AXR:An:=.x
def ctr66:Ctr:=⟨[.d (.int .i64),.d (.int .i64),.d (.sl (.int .i64))],[.d .bool],fun a=>L7 a.1 a.2.1 a.2.2.1⟩
theorem ok66:Ctr.ok prog 66 ctr66:=A7 (G:={ gxb with fs:=[(82,ctr82),(101,ctr101)] }) (an:=AXR) (A8 ⟨⟨ok82,call82⟩,⟨ok101,call101⟩,trivial⟩) func66 rfl rfl rfl rfl (fun a=>by kernel_rfl)
def H6(r:Report):Option Bool:=some (decide (r.kind<=7))
def AXS:An:=.x
def ctr72:Ctr:=⟨[.d (.st 1)],[.d .bool],fun a=>H6 a.1⟩
theorem ok72:Ctr.ok prog 72 ctr72:=A7 (G:={ gxb with fs:=[] }) (an:=AXS) (A8 trivial) func72 rfl rfl rfl rfl (fun a=>by kernel_rfl)
def G5(r:Report):Option Bool:=Option.bind (α:=Bool) ((chk .i64 r.kind).bind fun n8=>(L7 (1:Int) (9:Int) ([n8])).bind fun r9=>cond ((!r9)) (some true) ((L7 (0:Int) (999999:Int) ([r.id,r.source,r.account,r.of_])).bind fun r10=>cond ((!r10)) (some true) ((L7 (0:Int) (100000:Int) ([r.made,r.about])).bind fun r11=>cond ((!r11)) (some true) ((ixA 10 r.kind).bind fun i12=>(ixo glob0 (i12*1)).bind fun y13=>(L7 (0:Int) y13 ([r.cents])).bind fun r14=>some (!r14))))) ((fun x15=>cond (x15) (some false) ((H6 r).bind fun r16=>cond (r16) (some (decide (r.of_=0))) (Option.bind (α:=Bool) (cond (decide (r.kind=9)) (some (!decide (r.about=0))) (some false)) ((fun x17=>cond (x17) (some false) (some (!decide (r.of_=r.id)))))))))
def AVz:An:=.nd .x (.nd (.nd (.jn [.norm ⟨[(.slot 41,.d .bool)],[1]⟩] .x) .x) (.nd (.nd .x (.nd .x (.nd (.jn [.norm ⟨[(.slot 48,.d .bool)],[1]⟩] .x) .x))) .x))
def ctr100:Ctr:=⟨[.d (.st 1)],[.d .bool],fun a=>G5 a.1⟩
theorem ok100:Ctr.ok prog 100 ctr100:=A7 (G:={ gxb with fs:=[(66,ctr66),(72,ctr72)] }) (an:=AVz) (A8 ⟨⟨ok66,call66⟩,⟨ok72,call72⟩,trivial⟩) func100 rfl rfl rfl rfl (fun a=>by kernel_rfl)
def R0(r:Report):Option Bool:=(G5 r).bind fun r1=>some (!r1)
def AXT:An:=.x
def ctr99:Ctr:=⟨[.d (.st 1)],[.d .bool],fun a=>R0 a.1⟩
theorem ok99:Ctr.ok prog 99 ctr99:=A7 (G:={ gxb with fs:=[(100,ctr100)] }) (an:=AXT) (A8 ⟨⟨ok100,call100⟩,trivial⟩) func99 rfl rfl rfl rfl (fun a=>by kernel_rfl)
def I5(l:List Report):Option Int:=cond (decide (60<(l.length:Int))) (some (4:Int)) ((L6 l (fun a1=>R0 a1)).bind fun r2=>cond (r2) (some (30:Int)) ((B5 (S:=(Int×(A2 Int Report))) (R:=(Unit⊕Int)) (fun (x12,x13)=>cond (decide (x12<(l.length:Int))) ((ixo l x12).bind fun y14=>Option.bind (α:=Bool) (cond ((x13 y14.id).isSome) (some (!decide (((x13 y14.id).getD (Report.mk 0 0 0 0 0 0 0 0))=y14))) (some false)) ((fun x15=>cond (x15) (some (Sum.inr (Sum.inr (31:Int)))) ((chk .i64 (x12+1)).bind fun n16=>some (Sum.inl (n16,(B9 x13 y14.id y14))))))) (some (Sum.inr (Sum.inl ())))) ((0:Int),(fnone:(A2 Int Report)))).bind ((Sum.elim (fun _=>some (0:Int)) (fun r17=>some r17)))))
def AXU:An:=.nd .x (.nd .x (.nd .x (.nd .x (.nd (.nd .x (.lp ⟨[(.slot 16,.d (.int .i64)),(.cont 13,.own (.mp 3 (.int .i64) (.st 1)))],[13]⟩ [.exit 0 ⟨[],[]⟩,.ret] (.nd .x (.nd .x (.nd (.nd .x (.nd (.nd .x (.nd (.jn [.norm ⟨[(.slot 32,.d .bool)],[5,13]⟩] .x) .x)) .x)) .x))))) .x))))
def ctr65:Ctr:=⟨[.d (.sl (.st 1))],[.d (.int .i64)],fun a=>I5 a.1⟩
theorem ok65:Ctr.ok prog 65 ctr65:=A7 (G:={ gxb with fs:=[(98,ctr98),(99,ctr99)] }) (an:=AXU) (A8 ⟨⟨ok98,call98⟩,⟨ok99,call99⟩,trivial⟩) func65 rfl rfl rfl rfl (fun a=>by kernel_rfl)
def E9(s:Store)(r:Report):Option (Report×Bool):=Option.bind (α:=(Bool×Int×Int×Int×Int×Int×Int×Int×Int)) (cond ((s.reports r.of_).isSome) (cond (decide ((((s.reports r.of_).getD (Report.mk 0 0 0 0 0 0 0 0)).source)=r.source)) (some (decide ((((s.reports r.of_).getD (Report.mk 0 0 0 0 0 0 0 0)).account)=r.account),((s.reports r.of_).getD (Report.mk 0 0 0 0 0 0 0 0)).id,((s.reports r.of_).getD (Report.mk 0 0 0 0 0 0 0 0)).source,((s.reports r.of_).getD (Report.mk 0 0 0 0 0 0 0 0)).account,((s.reports r.of_).getD (Report.mk 0 0 0 0 0 0 0 0)).made,((s.reports r.of_).getD (Report.mk 0 0 0 0 0 0 0 0)).about,((s.reports r.of_).getD (Report.mk 0 0 0 0 0 0 0 0)).kind,((s.reports r.of_).getD (Report.mk 0 0 0 0 0 0 0 0)).cents,((s.reports r.of_).getD (Report.mk 0 0 0 0 0 0 0 0)).of_)) (some (false,((s.reports r.of_).getD (Report.mk 0 0 0 0 0 0 0 0)).id,((s.reports r.of_).getD (Report.mk 0 0 0 0 0 0 0 0)).source,((s.reports r.of_).getD (Report.mk 0 0 0 0 0 0 0 0)).account,((s.reports r.of_).getD (Report.mk 0 0 0 0 0 0 0 0)).made,((s.reports r.of_).getD (Report.mk 0 0 0 0 0 0 0 0)).about,((s.reports r.of_).getD (Report.mk 0 0 0 0 0 0 0 0)).kind,((s.reports r.of_).getD (Report.mk 0 0 0 0 0 0 0 0)).cents,((s.reports r.of_).getD (Report.mk 0 0 0 0 0 0 0 0)).of_))) (some (false,((s.reports r.of_).getD (Report.mk 0 0 0 0 0 0 0 0)).id,((s.reports r.of_).getD (Report.mk 0 0 0 0 0 0 0 0)).source,((s.reports r.of_).getD (Report.mk 0 0 0 0 0 0 0 0)).account,((s.reports r.of_).getD (Report.mk 0 0 0 0 0 0 0 0)).made,((s.reports r.of_).getD (Report.mk 0 0 0 0 0 0 0 0)).about,((s.reports r.of_).getD (Report.mk 0 0 0 0 0 0 0 0)).kind,((s.reports r.of_).getD (Report.mk 0 0 0 0 0 0 0 0)).cents,((s.reports r.of_).getD (Report.mk 0 0 0 0 0 0 0 0)).of_))) ((fun (x1,x2,x3,x4,x5,x6,x7,x8,x9)=>some ((Report.mk x2 x3 x4 x5 x6 x7 x8 x9),x1)))
def AXV:An:=.nd .x (.nd .x (.nd (.jn [.norm ⟨[(.slot 5,.d .bool),(.cell 4 0,.d (.int .i64)),(.cell 4 1,.d (.int .i64)),(.cell 4 2,.d (.int .i64)),(.cell 4 3,.d (.int .i64)),(.cell 4 4,.d (.int .i64)),(.cell 4 5,.d (.int .u8)),(.cell 4 6,.d (.int .i64)),(.cell 4 7,.d (.int .i64))],[4]⟩] .x) .x))
def ctr71:Ctr:=⟨[.d (.st 13),.d (.st 1)],[.d (.st 1),.d .bool],fun a=>E9 a.1 a.2.1⟩
theorem ok71:Ctr.ok prog 71 ctr71:=A7 (G:={ gxb with fs:=[] }) (an:=AXV) (A8 trivial) func71 rfl rfl rfl rfl (fun a=>by kernel_rfl)
def R1(d:Desk_139)(id:Int):Option Bool:=some ((d.gone id).isSome)
def AV0:An:=.x
def ctr103:Ctr:=⟨[.d (.st 14),.d (.int .i64)],[.d .bool],fun a=>R1 a.1 a.2.1⟩
theorem ok103:Ctr.ok prog 103 ctr103:=A7 (G:={ gxb with fs:=[] }) (an:=AV0) (A8 trivial) func103 rfl rfl rfl rfl (fun a=>by kernel_rfl)
def V5(l:List Report)(known:Int):Option Desk_139:=(B5 (S:=(Int×(A2 Int Report))) (R:=((A2 Int Report))) (fun (x10,x11)=>cond (decide (x10<(l.length:Int))) ((ixo l x10).bind fun y12=>Option.bind (α:=((A2 Int Report))) (cond (decide (y12.made<=known)) (some (B9 x11 y12.id y12)) (some x11)) ((fun x13=>(chk .i64 (x10+1)).bind fun n14=>some (Sum.inl (n14,x13))))) (some (Sum.inr x11))) ((0:Int),(fnone:(A2 Int Report)))).bind ((fun x15=>AAg x15 fun l46=>(List.foldlM (m:=Option) (s:=((A2 Int Int))) (α:=Int×Report) (fun x37 (k38,v39)=>(E9 (Store.mk x15) v39).bind fun (r40,r41)=>Option.bind (α:=Bool) (cond (decide (v39.kind=9)) (cond (r41) (some (!decide (r40.kind=9))) (some false)) (some false)) ((fun x42=>Option.bind (α:=((A2 Int Int))) (cond (x42) (Option.bind (α:=Bool) (cond ((!((x37 r40.id).isSome))) (some true) (some (decide (v39.id<((x37 r40.id).getD 0))))) ((fun x43=>Option.bind (α:=((A2 Int Int))) (cond (x43) (some (B9 x37 r40.id v39.id)) (some x37)) ((fun x44=>some x44))))) (some x37)) ((fun x45=>some x45))))) (fnone:(A2 Int Int)) l46).bind fun x47=>AAg x15 fun l116=>(List.foldlM (m:=Option) (s:=((A2 Int Int))) (α:=Int×Report) (fun x99 (k100,v101)=>(E9 (Store.mk x15) v101).bind fun (r102,r103)=>Option.bind (α:=Bool) (cond ((!decide (v101.kind=8))) (some true) (cond ((!r103)) (some true) ((H6 r102).bind fun r104=>cond ((!r104)) (some true) ((ixA 10 r102.kind).bind fun i105=>(ixo glob0 (i105*1)).bind fun y106=>(L7 (0:Int) y106 ([v101.cents])).bind fun r107=>cond ((!r107)) (some true) ((R1 (Desk_139.mk (Store.mk x15) x47 x99) v101.id).bind fun r108=>cond (r108) (some true) ((R1 (Desk_139.mk (Store.mk x15) x47 x99) r102.id).bind fun r109=>some r109)))))) ((fun x110=>cond (x110) (some x99) (Option.bind (α:=Bool) (cond ((!((x99 r102.id).isSome))) (some true) ((E0 (((x15 ((x99 r102.id).getD 0)).getD (Report.mk 0 0 0 0 0 0 0 0)).made) v101.made).bind fun r111=>(E0 ((x99 r102.id).getD 0) v101.id).bind fun r112=>(AAL ([r111,r112])).bind fun r113=>some (decide (r113<0)))) ((fun x114=>Option.bind (α:=((A2 Int Int))) (cond (x114) (some (B9 x99 r102.id v101.id)) (some x99)) ((fun x115=>some x115)))))))) (fnone:(A2 Int Int)) l116).bind fun x117=>some (Desk_139.mk (Store.mk x15) x47 x117)))
def AXW:An:=.nd .x (.nd .x (.nd (.nd .x (.lp ⟨[(.slot 28,.d (.int .i64)),(.cont 21,.own (.mp 3 (.int .i64) (.st 1)))],[5,24,23,21,4]⟩ [.exit 0 ⟨[(.cont 21,.own (.mp 3 (.int .i64) (.st 1)))],[5,24,23,21,4]⟩] (.nd .x (.nd .x (.nd (.nd .x (.nd .x (.jn [.norm ⟨[(.cont 21,.own (.mp 3 (.int .i64) (.st 1)))],[5,24,23,21,4]⟩] .x))) .x))))) (.nd (.lp ⟨[(.cont 23,.own (.mp 3 (.int .i64) (.int .i64)))],[5,24,23,4]⟩ [] (.nd .x (.nd (.jn [.norm ⟨[(.slot 68,.d .bool)],[10,9,5,24,23,4]⟩] .x) (.jn [.norm ⟨[(.cont 23,.own (.mp 3 (.int .i64) (.int .i64)))],[5,24,23,4]⟩] (.nd (.nd .x (.nd (.jn [.norm ⟨[(.slot 84,.d .bool)],[10,9,5,24,23,4]⟩] .x) (.jn [.norm ⟨[(.cont 23,.own (.mp 3 (.int .i64) (.int .i64)))],[5,24,23,4]⟩] .x))) .x))))) (.nd (.lp ⟨[(.cont 24,.own (.mp 3 (.int .i64) (.int .i64)))],[5,24,23,4]⟩ [] (.nd .x (.nd (.nd (.jn [.norm ⟨[(.slot 140,.d .bool)],[16,15,5,24,23,4]⟩] .x) .x) (.nd .x (.nd .x (.nd (.jn [.norm ⟨[(.slot 169,.d .bool)],[16,15,5,24,23,4]⟩] .x) (.jn [.norm ⟨[(.cont 24,.own (.mp 3 (.int .i64) (.int .i64)))],[5,24,23,4]⟩] .x))))))) .x))))
def AV1:Ctr:=⟨[.d (.sl (.st 1)),.d (.int .i64)],[.d (.st 14)],fun a=>V5 a.1 a.2.1⟩
theorem ok68:Ctr.ok prog 68 AV1:=ASD (G:={ gxb with fs:=[(66,ctr66),(71,ctr71),(72,ctr72),(88,ctr88),(103,ctr103),(104,ctr104)] }) (an:=AXW) (A8 ⟨⟨ok66,call66⟩,⟨ok71,call71⟩,⟨ok72,call72⟩,⟨ok88,call88⟩,⟨ok103,call103⟩,⟨ok104,call104⟩,trivial⟩) func68 rfl rfl rfl rfl (fun a=>by kernel_rfl)
def J8(l:List Asked):Option Bool:=cond (decide (40<(l.length:Int))) (some false) ((B5 (S:=Int) (R:=(Unit⊕Bool)) (fun x11=>cond (decide (x11<(l.length:Int))) ((ixo l x11).bind fun y12=>Option.bind (α:=Bool) ((B7 y12.id (0:Int) (999999:Int)).bind fun r13=>cond ((!r13)) (some true) ((B7 y12.who (0:Int) (999999:Int)).bind fun r14=>cond ((!r14)) (some true) ((B7 y12.account (0:Int) (999999:Int)).bind fun r15=>cond ((!r15)) (some true) ((B7 y12.day (0:Int) (100000:Int)).bind fun r16=>cond ((!r16)) (some true) (cond (decide (0<x11)) ((chk .i64 (x11-1)).bind fun n17=>(ixo l n17).bind fun y18=>some (decide (y12.id<=y18.id))) (some false)))))) ((fun x19=>cond (x19) (some (Sum.inr (Sum.inr false))) ((chk .i64 (x11+1)).bind fun n20=>some (Sum.inl n20))))) (some (Sum.inr (Sum.inl ())))) (0:Int)).bind ((Sum.elim (fun _=>some true) (fun r21=>some r21))))
def AXX:An:=.nd .x (.nd .x (.nd (.nd .x (.lp ⟨[(.slot 3,.d (.int .i64))],[]⟩ [.exit 0 ⟨[],[]⟩,.ret] (.nd .x (.nd (.nd .x (.nd (.jn [.norm ⟨[(.slot 54,.d .bool)],[]⟩] .x) .x)) .x)))) .x))
def ctr25:Ctr:=⟨[.d (.sl (.st 5))],[.d .bool],fun a=>J8 a.1⟩
theorem ok25:Ctr.ok prog 25 ctr25:=A7 (G:={ gxb with fs:=[(42,ctr42)] }) (an:=AXX) (A8 ⟨⟨ok42,call42⟩,trivial⟩) func25 rfl rfl rfl rfl (fun a=>by kernel_rfl)
def AAM(l:List Report)(r:Report):Option Bool:=(G4 l r.of_).bind fun r1=>Option.bind (α:=Bool) (cond (decide (0<=r1)) ((ixo l r1).bind fun y4=>cond (decide (y4.source=r.source)) ((ixo l r1).bind fun y5=>some (decide (y5.account=r.account))) (some false)) (some false)) ((fun x6=>some x6))
def AV2:An:=.nd .x (.nd .x (.nd (.jn [.norm ⟨[(.slot 4,.d .bool)],[]⟩] .x) .x))
def ctr182:Ctr:=⟨[.d (.sl (.st 1)),.d (.st 1)],[.d .bool],fun a=>AAM a.1 a.2.1⟩
theorem ok182:Ctr.ok prog 182 ctr182:=A7 (G:={ gxb with fs:=[(96,ctr96)] }) (an:=AV2) (A8 ⟨⟨ok96,call96⟩,trivial⟩) func182 rfl rfl rfl rfl (fun a=>by kernel_rfl)
def O7(l:List Report)(id:Int):Option Int:=(G4 l id).bind fun r1=>(B5 (S:=(Int×Int)) (R:=Int) (fun (x14,x15)=>cond (decide (x15<(l.length:Int))) (Option.bind (α:=Bool) ((ixo l x15).bind fun y16=>cond (decide (y16.kind=9)) ((ixo l x15).bind fun y17=>cond (decide (y17.of_=id)) ((ixo l r1).bind fun y18=>cond ((!decide (y18.kind=9))) ((ixo l x15).bind fun y19=>(AAM l y19).bind fun r20=>cond (r20) (cond (decide (x14<0)) (some true) ((ixo l x15).bind fun y21=>some (decide (y21.id<x14)))) (some false)) (some false)) (some false)) (some false)) ((fun x22=>Option.bind (α:=Int) (cond (x22) ((ixo l x15).bind fun y23=>some y23.id) (some x14)) ((fun x24=>(chk .i64 (x15+1)).bind fun n25=>some (Sum.inl (x24,n25))))))) (some (Sum.inr x14))) (((-1):Int),(0:Int))).bind ((fun x26=>some x26))
def AV3:An:=.nd .x (.nd .x (.nd .x (.nd (.nd .x (.lp ⟨[(.slot 5,.d (.int .i64)),(.slot 7,.d (.int .i64))],[]⟩ [.exit 0 ⟨[(.slot 5,.d (.int .i64))],[]⟩] (.nd .x (.nd (.nd (.jn [.norm ⟨[(.slot 60,.d .bool)],[]⟩] .x) (.jn [.norm ⟨[(.slot 5,.d (.int .i64))],[]⟩] .x)) .x)))) .x)))
def ctr171:Ctr:=⟨[.d (.sl (.st 1)),.d (.int .i64)],[.d (.int .i64)],fun a=>O7 a.1 a.2.1⟩
theorem ok171:Ctr.ok prog 171 ctr171:=A7 (G:={ gxb with fs:=[(96,ctr96),(182,ctr182)] }) (an:=AV3) (A8 ⟨⟨ok96,call96⟩,⟨ok182,call182⟩,trivial⟩) func171 rfl rfl rfl rfl (fun a=>by kernel_rfl)
def U5(l:List Report)(id:Int):Option Int:=(G4 l id).bind fun r1=>(B5 (S:=(Int×Int)) (R:=Int) (fun (x63,x64)=>cond (decide (x64<(l.length:Int))) (Option.bind (α:=Int) (Option.bind (α:=Bool) ((ixo l x64).bind fun y65=>cond ((!decide (y65.kind=8))) (some true) ((ixo l x64).bind fun y66=>cond ((!decide (y66.of_=id))) (some true) ((ixo l x64).bind fun y67=>(AAM l y67).bind fun r68=>cond ((!r68)) (some true) ((ixo l x64).bind fun y69=>(O7 l y69.id).bind fun r70=>cond (decide (0<=r70)) (some true) ((ixo l r1).bind fun y71=>(ixo l x64).bind fun y72=>(Y2 y71.kind y72.cents).bind fun r73=>some (!r73)))))) ((fun x74=>cond (x74) (some x63) (Option.bind (α:=Bool) (cond (decide (x63<0)) (some true) ((ixo l x64).bind fun y75=>(G4 l x63).bind fun r76=>(ixo l r76).bind fun y77=>cond (decide (y77.made<y75.made)) (some true) ((ixo l x64).bind fun y78=>(G4 l x63).bind fun r79=>(ixo l r79).bind fun y80=>cond (decide (y78.made=y80.made)) ((ixo l x64).bind fun y81=>some (decide (x63<y81.id))) (some false)))) ((fun x82=>Option.bind (α:=Int) (cond (x82) ((ixo l x64).bind fun y83=>some y83.id) (some x63)) ((fun x84=>some x84)))))))) ((fun x85=>(chk .i64 (x64+1)).bind fun n86=>some (Sum.inl (x85,n86))))) (some (Sum.inr x63))) (((-1):Int),(0:Int))).bind ((fun x87=>some x87))
def AV4:An:=.nd .x (.nd .x (.nd .x (.nd (.nd .x (.lp ⟨[(.slot 5,.d (.int .i64)),(.slot 7,.d (.int .i64))],[]⟩ [.exit 0 ⟨[(.slot 5,.d (.int .i64))],[]⟩] (.nd .x (.nd (.jn [.norm ⟨[(.slot 5,.d (.int .i64))],[]⟩] (.nd (.nd (.jn [.norm ⟨[(.slot 64,.d .bool)],[]⟩] .x) .x) (.nd (.jn [.norm ⟨[(.slot 105,.d .bool)],[]⟩] .x) (.jn [.norm ⟨[(.slot 5,.d (.int .i64))],[]⟩] .x)))) .x)))) .x)))
def ctr172:Ctr:=⟨[.d (.sl (.st 1)),.d (.int .i64)],[.d (.int .i64)],fun a=>U5 a.1 a.2.1⟩
theorem ok172:Ctr.ok prog 172 ctr172:=A7 (G:={ gxb with fs:=[(96,ctr96),(129,ctr129),(171,ctr171),(182,ctr182)] }) (an:=AV4) (A8 ⟨⟨ok96,call96⟩,⟨ok129,call129⟩,⟨ok171,call171⟩,⟨ok182,call182⟩,trivial⟩) func172 rfl rfl rfl rfl (fun a=>by kernel_rfl)
def AAZ(a:Report)(b:Report):Option Bool:=Option.bind (α:=Bool) (cond (decide (a.about<b.about)) (some true) (cond (decide (a.about=b.about)) (some (decide (a.id<b.id))) (some false))) ((fun x1=>some x1))
def AV5:An:=.nd .x (.nd (.jn [.norm ⟨[(.slot 4,.d .bool)],[]⟩] .x) .x)
def ctr173:Ctr:=⟨[.d (.st 1),.d (.st 1)],[.d .bool],fun a=>AAZ a.1 a.2.1⟩
theorem ok173:Ctr.ok prog 173 ctr173:=A7 (G:={ gxb with fs:=[] }) (an:=AV5) (A8 trivial) func173 rfl rfl rfl rfl (fun a=>by kernel_rfl)
def X5(l:List Report):Option (List Report):=(B5 (S:=((List Report)×Int)) (R:=((List Report))) (fun (x107,x108)=>cond (decide (x108<(l.length:Int))) (Option.bind (α:=((List Report))) ((ixo l x108).bind fun y109=>Option.bind (α:=Bool) (cond (decide (7<y109.kind)) (some true) ((O7 l y109.id).bind fun r110=>some (decide (0<=r110)))) ((fun x111=>cond (x111) (some x107) ((U5 l y109.id).bind fun r112=>Option.bind (α:=(Int×Int)) (cond (decide (0<=r112)) ((G4 l r112).bind fun r113=>(ixo l r113).bind fun y114=>(G4 l r112).bind fun r115=>(ixo l r115).bind fun y116=>some (y114.about,y116.cents)) (some (y109.about,y109.cents))) ((fun (x117,x118)=>(appo 64 x107 ([(Report.mk y109.id y109.source y109.account y109.made x117 y109.kind x118 y109.of_)])).bind fun l119=>(chk .i64 ((l119.length:Int)-1)).bind fun n120=>(B5 (S:=(Int×(List Report))) (R:=((List Report))) (fun (x121,x122)=>Option.bind (α:=Bool) (cond (decide (0<x121)) ((ixo x122 x121).bind fun y123=>(chk .i64 (x121-1)).bind fun n124=>(ixo x122 n124).bind fun y125=>(AAZ y123 y125).bind fun r126=>some r126) (some false)) ((fun x127=>cond (x127) ((chk .i64 (x121-1)).bind fun n128=>(chk .i64 (x121-1)).bind fun n129=>(ixo x122 n129).bind fun y130=>(ixo x122 x121).bind fun y131=>(ixo x122 x121).bind fun y132=>(seto x122 x121 y130).bind fun l133=>(ixo l133 n128).bind fun y134=>(seto l133 n128 y131).bind fun l135=>(chk .i64 (x121-1)).bind fun n136=>some (Sum.inl (n136,l135))) (some (Sum.inr x122))))) (n120,l119)).bind ((fun x137=>some x137)))))))) ((fun x138=>(chk .i64 (x108+1)).bind fun n139=>some (Sum.inl (x138,n139))))) (some (Sum.inr x107))) (([]:List Report),(0:Int))).bind ((fun x140=>some x140))
def AV6:An:=.nd .x (.nd .x (.nd (.nd .x (.lp ⟨[(.slot 3,.own (.sl 45 (.st 1))),(.slot 4,.d (.int .i64))],[]⟩ [.exit 0 ⟨[(.slot 3,.own (.sl 45 (.st 1)))],[]⟩] (.nd .x (.nd (.jn [.norm ⟨[(.slot 3,.own (.sl 45 (.st 1)))],[]⟩] (.nd .x (.nd (.nd (.jn [.norm ⟨[(.slot 27,.d .bool)],[5,3]⟩] .x) .x) (.nd (.nd .x (.nd .x (.jn [.norm ⟨[(.cell 5 4,.d (.int .i64)),(.cell 5 6,.d (.int .i64))],[5,3]⟩] .x))) (.nd .x (.nd .x (.lp ⟨[(.slot 7,.d (.int .i64)),(.cont 3,.own (.sl 45 (.st 1)))],[3]⟩ [.exit 2 ⟨[(.cont 3,.own (.sl 45 (.st 1)))],[3]⟩] (.nd (.nd (.jn [.norm ⟨[(.slot 70,.d .bool)],[3]⟩] .x) .x) .x)))))))) .x)))) .x))
def ctr146:Ctr:=⟨[.d (.sl (.st 1))],[.own (.sl 45 (.st 1))],fun a=>X5 a.1⟩
theorem ok146:Ctr.ok prog 146 ctr146:=A7 (G:={ gxb with fs:=[(96,ctr96),(171,ctr171),(172,ctr172),(173,ctr173)] }) (an:=AV6) (A8 ⟨⟨ok96,call96⟩,⟨ok171,call171⟩,⟨ok172,call172⟩,⟨ok173,call173⟩,trivial⟩) func146 rfl rfl rfl rfl (fun a=>by kernel_rfl)
def AAs(l:List Report)(known:Int):Option (List Report):=(B5 (S:=((List Report)×Int)) (R:=((List Report))) (fun (x11,x12)=>cond (decide (x12<(l.length:Int))) (Option.bind (α:=Bool) ((ixo l x12).bind fun y13=>cond (decide (y13.made<=known)) ((ixo l x12).bind fun y14=>(G4 x11 y14.id).bind fun r15=>some (decide (r15<0))) (some false)) ((fun x16=>Option.bind (α:=((List Report))) (cond (x16) ((ixo l x12).bind fun y17=>(appo 64 x11 ([y17])).bind fun l18=>some l18) (some x11)) ((fun x19=>(chk .i64 (x12+1)).bind fun n20=>some (Sum.inl (x19,n20))))))) (some (Sum.inr x11))) (([]:List Report),(0:Int))).bind ((fun x21=>some x21))
def AV7:An:=.nd .x (.nd .x (.nd (.nd .x (.lp ⟨[(.slot 5,.own (.sl 45 (.st 1))),(.slot 6,.d (.int .i64))],[]⟩ [.exit 0 ⟨[(.slot 5,.own (.sl 45 (.st 1)))],[]⟩] (.nd .x (.nd (.nd (.jn [.norm ⟨[(.slot 29,.d .bool)],[5]⟩] .x) (.jn [.norm ⟨[(.slot 5,.own (.sl 45 (.st 1)))],[]⟩] .x)) .x)))) .x))
def ctr147:Ctr:=⟨[.d (.sl (.st 1)),.d (.int .i64)],[.own (.sl 45 (.st 1))],fun a=>AAs a.1 a.2.1⟩
theorem ok147:Ctr.ok prog 147 ctr147:=A7 (G:={ gxb with fs:=[(96,ctr96)] }) (an:=AV7) (A8 ⟨⟨ok96,call96⟩,trivial⟩) func147 rfl rfl rfl rfl (fun a=>by kernel_rfl)
def X6(l:List Report)(known:Int):Option ((List Report)×Int):=(O5 l).bind fun r1=>cond ((!decide (r1=0))) (some (([]:List Report),r1)) ((D7 known (0:Int) (100000:Int)).bind fun r2=>cond ((!r2)) (some (([]:List Report),(2:Int))) ((AAs l known).bind fun r3=>(X5 r3).bind fun r4=>some (r4,(0:Int))))
def AV8:An:=.x
def ctr125:Ctr:=⟨[.d (.sl (.st 1)),.d (.int .i64)],[.own (.sl 45 (.st 1)),.d (.int .i64)],fun a=>X6 a.1 a.2.1⟩
theorem ok125:Ctr.ok prog 125 ctr125:=A7 (G:={ gxb with fs:=[(62,ctr62),(128,ctr128),(146,ctr146),(147,ctr147)] }) (an:=AV8) (A8 ⟨⟨ok62,call62⟩,⟨ok128,call128⟩,⟨ok146,call146⟩,⟨ok147,call147⟩,trivial⟩) func125 rfl rfl rfl rfl (fun a=>by kernel_rfl)
def Y4(l:List Report)(id:Int)(day:Int):Option (Report×Bool):=(X6 l day).bind fun (r1,r2)=>(G4 r1 id).bind fun r3=>cond (decide (r3<0)) (some ((Report.mk 0 0 0 0 0 0 0 0),false)) ((ixo r1 r3).bind fun y4=>some (y4,true))
def AXY:An:=.x
def ctr91:Ctr:=⟨[.d (.sl (.st 1)),.d (.int .i64),.d (.int .i64)],[.d (.st 1),.d .bool],fun a=>Y4 a.1 a.2.1 a.2.2.1⟩
theorem ok91:Ctr.ok prog 91 ctr91:=A7 (G:={ gxb with fs:=[(96,ctr96),(125,ctr125)] }) (an:=AXY) (A8 ⟨⟨ok96,call96⟩,⟨ok125,call125⟩,trivial⟩) func91 rfl rfl rfl rfl (fun a=>by kernel_rfl)
def Y5(d:Desk)(l:List Report)(x:Dispute)(a:Asked):Option Bool:=(Q7 d.reports x.report).bind fun r1=>(ixo d.reports r1).bind fun y2=>(K9 d x).bind fun (r3,r4)=>Option.bind (α:=Bool) (cond ((!decide (a.account=y2.account))) (some true) (cond (decide (r3<=a.day)) (some true) ((chk .i64 (r3-d.terms.lately)).bind fun n6=>some (decide (a.day<n6))))) ((fun x7=>cond (x7) (some false) ((Y4 l y2.id a.day).bind fun (r8,r9)=>Option.bind (α:=Bool) (cond ((!r9)) (some true) (some (decide (a.day<r8.about)))) ((fun x10=>cond (x10) (some false) ((Y4 l y2.id r3).bind fun (r11,r12)=>Option.bind (α:=Bool) (cond ((!r12)) (some true) (cond ((!decide (r11.about=r8.about))) (some true) (some (!decide (r11.cents=r8.cents))))) ((fun x13=>some x13))))))))
def AXZ:An:=.nd .x (.nd .x (.nd .x (.nd (.nd (.jn [.norm ⟨[(.slot 51,.d .bool)],[9,7]⟩] .x) .x) (.nd .x (.nd (.nd (.jn [.norm ⟨[(.slot 69,.d .bool)],[12,9]⟩] .x) .x) (.nd .x (.nd (.jn [.norm ⟨[(.slot 8,.d .bool)],[]⟩] .x) .x)))))))
def ctr52:Ctr:=⟨[.d (.st 4),.d (.sl (.st 1)),.d (.st 2),.d (.st 5)],[.d .bool],fun a=>Y5 a.1 a.2.1 a.2.2.1 a.2.2.2.1⟩
theorem ok52:Ctr.ok prog 52 ctr52:=A7 (G:={ gxb with fs:=[(51,ctr51),(90,ctr90),(91,ctr91)] }) (an:=AXZ) (A8 ⟨⟨ok51,call51⟩,⟨ok90,call90⟩,⟨ok91,call91⟩,trivial⟩) func52 rfl rfl rfl rfl (fun a=>by kernel_rfl)
def AAo(l:List Letter)(dispute:Int)(who:Int):Option Bool:=(B5 (S:=Int) (R:=(Unit⊕Bool)) (fun x6=>cond (decide (x6<(l.length:Int))) (Option.bind (α:=Bool) ((ixo l x6).bind fun y7=>cond (decide (y7.dispute=dispute)) ((ixo l x6).bind fun y8=>some (decide (y8.who=who))) (some false)) ((fun x9=>cond (x9) (some (Sum.inr (Sum.inr true))) ((chk .i64 (x6+1)).bind fun n10=>some (Sum.inl n10))))) (some (Sum.inr (Sum.inl ())))) (0:Int)).bind ((Sum.elim (fun _=>some false) (fun r11=>some r11)))
def AXa:An:=.nd .x (.nd (.nd .x (.lp ⟨[(.slot 7,.d (.int .i64))],[]⟩ [.exit 0 ⟨[],[]⟩,.ret] (.nd .x (.nd (.nd (.jn [.norm ⟨[(.slot 29,.d .bool)],[]⟩] .x) .x) .x)))) .x)
def ctr53:Ctr:=⟨[.d (.sl (.st 6)),.d (.int .i64),.d (.int .i64)],[.d .bool],fun a=>AAo a.1 a.2.1 a.2.2.1⟩
theorem ok53:Ctr.ok prog 53 ctr53:=A7 (G:={ gxb with fs:=[] }) (an:=AXa) (A8 trivial) func53 rfl rfl rfl rfl (fun a=>by kernel_rfl)
def AAA(d:Desk)(asked:List Asked)(day:Int):Option ((List Letter)×Int):=(Y3 d).bind fun r1=>cond ((!decide (r1=0))) (some (([]:List Letter),r1)) ((B7 day (0:Int) (100000:Int)).bind fun r2=>cond ((!r2)) (some (([]:List Letter),(2:Int))) ((J8 asked).bind fun r3=>cond ((!r3)) (some (([]:List Letter),(53:Int))) ((V4 d day).bind fun r4=>cond (decide (60<(r4.length:Int))) (some (([]:List Letter),(9:Int))) ((B5 (S:=((List Letter)×Int)) (R:=((List Letter))) (fun (x218,x219)=>cond (decide (x219<(d.disputes.length:Int))) (Option.bind (α:=((List Letter))) ((ixo d.disputes x219).bind fun y220=>(K9 d y220).bind fun (r221,r222)=>Option.bind (α:=Bool) (cond (decide (day<r221)) (some true) (some (decide (r222=2)))) ((fun x223=>cond (x223) (some x218) ((B5 (S:=((List Letter)×Int)) (R:=((List Letter))) (fun (x224,x225)=>cond (decide (x225<(asked.length:Int))) (Option.bind (α:=((List Letter))) (Option.bind (α:=Bool) ((ixo asked x225).bind fun y226=>(Y5 d r4 y220 y226).bind fun r227=>cond ((!r227)) (some true) ((ixo asked x225).bind fun y228=>(AAo x224 y220.id y228.who).bind fun r229=>some r229)) ((fun x230=>cond (x230) (some x224) ((ixo asked x225).bind fun y231=>(ixo asked x225).bind fun y232=>(appo 24 x224 ([(Letter.mk y220.id y231.who y232.id)])).bind fun l233=>(chk .i64 ((l233.length:Int)-1)).bind fun n234=>(B5 (S:=(Int×(List Letter))) (R:=((List Letter))) (fun (x235,x236)=>Option.bind (α:=Bool) (cond (decide (0<x235)) ((ixo x236 x235).bind fun y237=>(chk .i64 (x235-1)).bind fun n238=>(ixo x236 n238).bind fun y239=>cond (decide (y237.dispute<y239.dispute)) (some true) ((ixo x236 x235).bind fun y240=>(chk .i64 (x235-1)).bind fun n241=>(ixo x236 n241).bind fun y242=>cond (decide (y240.dispute=y242.dispute)) ((ixo x236 x235).bind fun y243=>(chk .i64 (x235-1)).bind fun n244=>(ixo x236 n244).bind fun y245=>some (decide (y243.who<y245.who))) (some false))) (some false)) ((fun x246=>cond (x246) ((chk .i64 (x235-1)).bind fun n247=>(chk .i64 (x235-1)).bind fun n248=>(ixo x236 n248).bind fun y249=>(ixo x236 x235).bind fun y250=>(ixo x236 x235).bind fun y251=>(seto x236 x235 y249).bind fun l252=>(ixo l252 n247).bind fun y253=>(seto l252 n247 y250).bind fun l254=>(chk .i64 (x235-1)).bind fun n255=>some (Sum.inl (n255,l254))) (some (Sum.inr x236))))) (n234,l233)).bind ((fun x256=>some x256)))))) ((fun x257=>(chk .i64 (x225+1)).bind fun n258=>some (Sum.inl (x257,n258))))) (some (Sum.inr x224))) (x218,(0:Int))).bind ((fun x259=>some x259)))))) ((fun x260=>(chk .i64 (x219+1)).bind fun n261=>some (Sum.inl (x260,n261))))) (some (Sum.inr x218))) (([]:List Letter),(0:Int))).bind ((fun x262=>some (x262,(0:Int))))))))
def AXb:An:=.nd .x (.nd .x (.nd .x (.nd .x (.nd .x (.nd .x (.nd .x (.nd (.nd .x (.lp ⟨[(.slot 10,.own (.sl 70 (.st 6))),(.slot 11,.d (.int .i64))],[30,3]⟩ [.exit 0 ⟨[(.slot 10,.own (.sl 70 (.st 6)))],[]⟩] (.nd .x (.nd (.jn [.norm ⟨[(.slot 10,.own (.sl 70 (.st 6)))],[30,3]⟩] (.nd .x (.nd (.nd .x (.nd (.jn [.norm ⟨[(.slot 58,.d .bool)],[12,10,30,3]⟩] .x) .x)) (.nd .x (.lp ⟨[(.slot 10,.own (.sl 70 (.st 6))),(.slot 15,.d (.int .i64))],[12,30,3]⟩ [.exit 2 ⟨[(.slot 10,.own (.sl 70 (.st 6)))],[30,3]⟩] (.nd .x (.nd (.jn [.norm ⟨[(.slot 10,.own (.sl 70 (.st 6)))],[12,30,3]⟩] (.nd (.nd (.jn [.norm ⟨[(.slot 84,.d .bool)],[10,12,30,3]⟩] .x) .x) (.nd .x (.nd .x (.lp ⟨[(.slot 16,.d (.int .i64)),(.cont 10,.own (.sl 70 (.st 6)))],[10,12,30,3]⟩ [.exit 4 ⟨[(.cont 10,.own (.sl 70 (.st 6)))],[10,12,30,3]⟩] (.nd (.nd (.jn [.norm ⟨[(.slot 147,.d .bool)],[10,12,30,3]⟩] .x) .x) .x)))))) .x))))))) .x)))) .x)))))))
def ctr17:Ctr:=⟨[.d (.st 4),.d (.sl (.st 5)),.d (.int .i64)],[.own (.sl 70 (.st 6)),.d (.int .i64)],fun a=>AAA a.1 a.2.1 a.2.2.1⟩
theorem ok17:Ctr.ok prog 17 ctr17:=A7 (G:={ gxb with fs:=[(25,ctr25),(27,ctr27),(42,ctr42),(43,ctr43),(51,ctr51),(52,ctr52),(53,ctr53)] }) (an:=AXb) (A8 ⟨⟨ok25,call25⟩,⟨ok27,call27⟩,⟨ok42,call42⟩,⟨ok43,call43⟩,⟨ok51,call51⟩,⟨ok52,call52⟩,⟨ok53,call53⟩,trivial⟩) func17 rfl rfl rfl rfl (fun a=>by kernel_rfl)
def N1(a:List Report)(b:List Report):Option Bool:=cond ((!decide ((a.length:Int)=(b.length:Int)))) (some false) ((B5 (S:=Int) (R:=(Unit⊕Bool)) (fun x5=>cond (decide (x5<(a.length:Int))) ((ixo a x5).bind fun y6=>(ixo b x5).bind fun y7=>cond ((!decide (y6=y7))) (some (Sum.inr (Sum.inr false))) ((chk .i64 (x5+1)).bind fun n8=>some (Sum.inl n8))) (some (Sum.inr (Sum.inl ())))) (0:Int)).bind ((Sum.elim (fun _=>some true) (fun r9=>some r9))))
def AXc:An:=.nd .x (.nd .x (.nd (.nd .x (.lp ⟨[(.slot 5,.d (.int .i64))],[]⟩ [.exit 0 ⟨[],[]⟩,.ret] .x)) .x))
def ctr18:Ctr:=⟨[.d (.sl (.st 1)),.d (.sl (.st 1))],[.d .bool],fun a=>N1 a.1 a.2.1⟩
theorem ok18:Ctr.ok prog 18 ctr18:=A7 (G:={ gxb with fs:=[] }) (an:=AXc) (A8 trivial) func18 rfl rfl rfl rfl (fun a=>by kernel_rfl)
def R3(a:List Letter)(b:List Letter):Option Bool:=cond ((!decide ((a.length:Int)=(b.length:Int)))) (some false) ((B5 (S:=Int) (R:=(Unit⊕Bool)) (fun x5=>cond (decide (x5<(a.length:Int))) ((ixo a x5).bind fun y6=>(ixo b x5).bind fun y7=>cond ((!decide (y6=y7))) (some (Sum.inr (Sum.inr false))) ((chk .i64 (x5+1)).bind fun n8=>some (Sum.inl n8))) (some (Sum.inr (Sum.inl ())))) (0:Int)).bind ((Sum.elim (fun _=>some true) (fun r9=>some r9))))
def AXd:An:=.nd .x (.nd .x (.nd (.nd .x (.lp ⟨[(.slot 5,.d (.int .i64))],[]⟩ [.exit 0 ⟨[],[]⟩,.ret] .x)) .x))
def ctr19:Ctr:=⟨[.d (.sl (.st 6)),.d (.sl (.st 6))],[.d .bool],fun a=>R3 a.1 a.2.1⟩
theorem ok19:Ctr.ok prog 19 ctr19:=A7 (G:={ gxb with fs:=[] }) (an:=AXd) (A8 trivial) func19 rfl rfl rfl rfl (fun a=>by kernel_rfl)
def ABU(a:Desk)(b:Desk):Option Bool:=Option.bind (α:=Bool) (cond ((!decide (a.terms=b.terms))) (some true) ((N1 a.reports b.reports).bind fun r2=>cond ((!r2)) (some true) (cond ((!decide ((a.disputes.length:Int)=(b.disputes.length:Int)))) (some true) (some (!decide ((a.answers.length:Int)=(b.answers.length:Int))))))) ((fun x3=>cond (x3) (some false) ((B5 (S:=Int) (R:=(Unit⊕Bool)) (fun x8=>cond (decide (x8<(a.disputes.length:Int))) ((ixo a.disputes x8).bind fun y9=>(ixo b.disputes x8).bind fun y10=>cond ((!decide (y9=y10))) (some (Sum.inr (Sum.inr false))) ((chk .i64 (x8+1)).bind fun n11=>some (Sum.inl n11))) (some (Sum.inr (Sum.inl ())))) (0:Int)).bind ((Sum.elim (fun _=>(B5 (S:=Int) (R:=(Unit⊕Bool)) (fun x16=>cond (decide (x16<(a.answers.length:Int))) ((ixo a.answers x16).bind fun y17=>(ixo b.answers x16).bind fun y18=>cond ((!decide (y17=y18))) (some (Sum.inr (Sum.inr false))) ((chk .i64 (x16+1)).bind fun n19=>some (Sum.inl n19))) (some (Sum.inr (Sum.inl ())))) (0:Int)).bind ((Sum.elim (fun _=>some true) (fun r20=>some r20)))) (fun r21=>some r21))))))
def AXe:An:=.nd .x (.nd (.nd (.jn [.norm ⟨[(.slot 37,.d .bool)],[3,2]⟩] .x) .x) (.nd (.nd .x (.lp ⟨[(.slot 5,.d (.int .i64))],[3,2]⟩ [.exit 0 ⟨[],[3,2]⟩,.ret] .x)) (.nd (.nd .x (.lp ⟨[(.slot 6,.d (.int .i64))],[3,2]⟩ [.exit 2 ⟨[],[]⟩,.ret] .x)) .x)))
def ctr20:Ctr:=⟨[.d (.st 4),.d (.st 4)],[.d .bool],fun a=>ABU a.1 a.2.1⟩
theorem ok20:Ctr.ok prog 20 ctr20:=A7 (G:={ gxb with fs:=[(18,ctr18)] }) (an:=AXe) (A8 ⟨⟨ok18,call18⟩,trivial⟩) func20 rfl rfl rfl rfl (fun a=>by kernel_rfl)
def ABB(s:List Dispute)(f:Dispute->Option Bool):Option Int:=(B5 (S:=Int) (R:=(Unit⊕Int)) (fun x5=>cond (decide (x5<(s.length:Int))) ((ixo s x5).bind fun y6=>(f y6).bind fun y7=>cond (y7) (some (Sum.inr (Sum.inr x5))) ((chk .i64 (x5+1)).bind fun n8=>some (Sum.inl n8))) (some (Sum.inr (Sum.inl ())))) (0:Int)).bind ((Sum.elim (fun _=>some ((-1):Int)) (fun r9=>some r9)))
def AXf:An:=.nd .x (.nd (.nd .x (.lp ⟨[(.slot 8,.d (.int .i64))],[]⟩ [.exit 0 ⟨[],[]⟩,.ret] .x)) .x)
def ctr55:Ctr:=⟨[.d (.sl (.st 2)),.fn [(.st 2)] .bool],[.d (.int .i64)],fun a=>ABB a.1 a.2.1⟩
theorem ok55:Ctr.ok prog 55 ctr55:=A7 (G:={ gxb with fs:=[] }) (an:=AXf) (A8 trivial) func55 rfl rfl rfl rfl (fun a=>by kernel_rfl)
theorem ATx:SlT prog 24 45 (ReportE).n 64:=rsl24
def C8(d:Desk_99):Option Int:=Option.bind (α:=Bool) ((E2 (0:Int) (1000:Int) ([d.desk.terms.answer])).bind fun r3=>cond ((!r3)) (some true) ((E2 (0:Int) (100000:Int) ([d.desk.terms.mark,d.desk.terms.lately])).bind fun r4=>some (!r4))) ((fun x5=>cond (x5) (some (50:Int)) (some (0:Int))))
def AV9:An:=.nd .x (.nd (.nd (.jn [.norm ⟨[(.slot 22,.d .bool)],[]⟩] .x) .x) .x)
def ATy:Ctr:=⟨[.d (.st 10)],[.d (.int .i64)],fun a=>C8 a.1⟩
theorem ok202:Ctr.ok prog 202 ATy:=A7 (G:={ gxb with fs:=[(44,ctr44)] }) (an:=AV9) (A8 ⟨⟨ok44,call44⟩,trivial⟩) func202 rfl rfl rfl rfl (fun a=>by kernel_rfl)
def D8(d:Desk_99):Option Int:=(I5 d.desk.reports).bind fun r1=>some r1
def AWA:An:=.x
def ATz:Ctr:=⟨[.d (.st 10)],[.d (.int .i64)],fun a=>D8 a.1⟩
theorem ok203:Ctr.ok prog 203 ATz:=A7 (G:={ gxb with fs:=[(65,ctr65)] }) (an:=AWA) (A8 ⟨⟨ok65,call65⟩,trivial⟩) func203 rfl rfl rfl rfl (fun a=>by kernel_rfl)
def E1(x:Dispute)(a1_:Desk_99)(a2_:(A2 Int Bool)):Option Bool:=Option.bind (α:=Bool) (cond ((a1_.facts x.report).isSome) ((E2 (0:Int) (999999:Int) ([x.id])).bind fun r5=>cond (r5) (cond ((!((a2_ x.id).getD false))) ((chk .i64 (100000-a1_.desk.terms.answer)).bind fun n6=>(chk .i64 (n6-1)).bind fun n7=>(E2 (((a1_.facts x.report).getD (Report.mk 0 0 0 0 0 0 0 0)).made) n7 ([x.day])).bind fun r8=>some r8) (some false)) (some false)) (some false)) ((fun x9=>some x9))
def AWB:An:=.nd .x (.nd .x (.nd (.jn [.norm ⟨[(.slot 4,.d .bool)],[]⟩] .x) .x))
def ctr205:Ctr:=⟨[.d (.st 2),.pt (.st 10),.pt (.mp 3 (.int .i64) .bool)],[.d .bool],fun a=>E1 a.1 a.2.1 a.2.2.1⟩
theorem ok205:Ctr.ok prog 205 ctr205:=A7 (G:={ gxb with fs:=[(44,ctr44)] }) (an:=AWB) (A8 ⟨⟨ok44,call44⟩,trivial⟩) func205 rfl rfl rfl rfl (fun a=>by kernel_rfl)
def L8(l:List Dispute)(id:Dispute->Option Int)(right:Dispute->Option Bool):Option Bool:=(B5 (S:=(Int×(A2 Int Bool))) (R:=(Unit⊕Bool)) (fun (x16,x17)=>cond (decide (x16<(l.length:Int))) ((ixo l x16).bind fun y18=>Option.bind (α:=Bool) ((right y18).bind fun y19=>cond ((!y19)) (some true) ((id y18).bind fun y20=>some ((x17 y20).getD false))) ((fun x21=>cond (x21) (some (Sum.inr (Sum.inr false))) ((id y18).bind fun y22=>(chk .i64 (x16+1)).bind fun n23=>some (Sum.inl (n23,(B9 x17 y22 true))))))) (some (Sum.inr (Sum.inl ())))) ((0:Int),(fnone:(A2 Int Bool)))).bind ((Sum.elim (fun _=>some true) (fun r24=>some r24)))
def AWC:An:=.nd .x (.nd .x (.nd (.nd .x (.lp ⟨[(.slot 13,.d (.int .i64)),(.cont 10,.own (.mp 3 (.int .i64) .bool))],[10]⟩ [.exit 0 ⟨[],[]⟩,.ret] (.nd .x (.nd .x (.nd (.nd .x (.nd (.nd (.jn [.norm ⟨[(.slot 27,.d .bool)],[9,10]⟩] .x) .x) .x)) .x))))) .x))
def ctr206:Ctr:=⟨[.d (.sl (.st 2)),.fn [(.st 2)] (.int .i64),.fn [(.st 2)] .bool],[.d .bool],fun a=>L8 a.1 a.2.1 a.2.2.1⟩
theorem ok206:Ctr.ok prog 206 ctr206:=A7 (G:={ gxb with fs:=[] }) (an:=AWC) (A8 trivial) func206 rfl rfl rfl rfl (fun a=>by kernel_rfl)
def H9(x:Dispute):Option Int:=some x.id
def AWD:An:=.x
def ctr207:Ctr:=⟨[.d (.st 2)],[.d (.int .i64)],fun a=>H9 a.1⟩
theorem ok207:Ctr.ok prog 207 ctr207:=A7 (G:={ gxb with fs:=[] }) (an:=AWD) (A8 trivial) func207 rfl rfl rfl rfl (fun a=>by kernel_rfl)
def D9(d:Desk_99):Option Int:=(B5 (S:=(Int×(A2 Int Bool))) (R:=((A2 Int Bool))) (fun (x8,x9)=>cond (decide (x8<(d.desk.reports.length:Int))) ((ixo d.desk.reports x8).bind fun y10=>(chk .i64 (x8+1)).bind fun n11=>some (Sum.inl (n11,(B9 x9 y10.id true)))) (some (Sum.inr x9))) ((0:Int),(fnone:(A2 Int Bool)))).bind ((fun x12=>Option.bind (α:=Bool) (cond (decide (20<(d.desk.disputes.length:Int))) (some true) ((L8 d.desk.disputes (fun a16=>H9 a16) (fun a17=>E1 a17 d x12)).bind fun r18=>some (!r18))) ((fun x19=>cond (x19) (some (51:Int)) (some (0:Int))))))
def AWE:An:=.nd .x (.nd .x (.nd (.nd .x (.lp ⟨[(.slot 12,.d (.int .i64)),(.cont 7,.own (.mp 3 (.int .i64) .bool))],[3,7,1]⟩ [.exit 0 ⟨[(.cont 7,.own (.mp 3 (.int .i64) .bool))],[3,7,1]⟩] .x)) (.nd .x (.nd (.nd (.jn [.norm ⟨[(.slot 33,.d .bool)],[]⟩] .x) .x) .x))))
def AT0:Ctr:=⟨[.d (.st 10)],[.d (.int .i64)],fun a=>D9 a.1⟩
theorem ok204:Ctr.ok prog 204 AT0:=A7 (G:={ gxb with fs:=[(205,ctr205),(206,ctr206),(207,ctr207)] }) (an:=AWE) (A8 ⟨⟨ok205,call205⟩,⟨ok206,call206⟩,⟨ok207,call207⟩,trivial⟩) func204 rfl rfl rfl rfl (fun a=>by kernel_rfl)
def I6(x:Dispute)(a1_:Answer):Option Bool:=some (decide (x.id=a1_.dispute))
def AWF:An:=.x
def ctr210:Ctr:=⟨[.d (.st 2),.pt (.st 3)],[.d .bool],fun a=>I6 a.1 a.2.1⟩
theorem ok210:Ctr.ok prog 210 ctr210:=A7 (G:={ gxb with fs:=[] }) (an:=AWF) (A8 trivial) func210 rfl rfl rfl rfl (fun a=>by kernel_rfl)
def F7(a:Answer)(a1_:Desk_99):Option Bool:=(ABB a1_.desk.disputes (fun a1=>I6 a1 a)).bind fun r2=>Option.bind (α:=Bool) (cond (decide (r2<0)) (some true) ((E2 (0:Int) (999999:Int) ([a.id])).bind fun r5=>cond ((!r5)) (some true) ((E2 (0:Int) (100000:Int) ([a.day,a.about])).bind fun r6=>some (!r6)))) ((fun x7=>cond (x7) (some false) ((ixo a1_.desk.disputes r2).bind fun y8=>Option.bind (α:=Bool) (cond (decide (a.says=1)) (some (decide (a.says=1))) (some (decide (a.says=3)))) ((fun x9=>cond (x9) (Option.bind (α:=Bool) (cond (decide (a.about=0)) (some (decide (a.cents=0))) (some false)) ((fun x10=>some x10))) (cond (decide (a.says=2)) ((I5 ([(Report.mk (((a1_.facts y8.report).getD (Report.mk 0 0 0 0 0 0 0 0)).id) (((a1_.facts y8.report).getD (Report.mk 0 0 0 0 0 0 0 0)).source) (((a1_.facts y8.report).getD (Report.mk 0 0 0 0 0 0 0 0)).account) (((a1_.facts y8.report).getD (Report.mk 0 0 0 0 0 0 0 0)).made) a.about (((a1_.facts y8.report).getD (Report.mk 0 0 0 0 0 0 0 0)).kind) a.cents (((a1_.facts y8.report).getD (Report.mk 0 0 0 0 0 0 0 0)).of_))])).bind fun r11=>some (decide (r11=0))) (some false)))))))
def AWG:An:=.nd .x (.nd .x (.nd (.nd (.jn [.norm ⟨[(.slot 28,.d .bool)],[2]⟩] .x) .x) (.nd .x (.nd .x (.nd (.nd .x (.nd (.nd .x (.jn [.norm ⟨[(.slot 47,.d .bool)],[5,2]⟩] .x)) (.nd (.nd (.jn [.norm ⟨[(.slot 3,.d .bool)],[]⟩] .x) .x) .x))) .x)))))
def ctr209:Ctr:=⟨[.d (.st 3),.pt (.st 10)],[.d .bool],fun a=>F7 a.1 a.2.1⟩
theorem ok209:Ctr.ok prog 209 ctr209:=A7 (G:={ gxb with fs:=[(44,ctr44),(55,ctr55),(65,ctr65),(210,ctr210)] }) (an:=AWG) (A8 ⟨⟨ok44,call44⟩,⟨ok55,call55⟩,⟨ok65,call65⟩,⟨ok210,call210⟩,trivial⟩) func209 rfl rfl rfl rfl (fun a=>by kernel_rfl)
def P3(l:List Answer)(id:Answer->Option Int)(right:Answer->Option Bool):Option Bool:=(B5 (S:=(Int×(A2 Int Bool))) (R:=(Unit⊕Bool)) (fun (x16,x17)=>cond (decide (x16<(l.length:Int))) ((ixo l x16).bind fun y18=>Option.bind (α:=Bool) ((right y18).bind fun y19=>cond ((!y19)) (some true) ((id y18).bind fun y20=>some ((x17 y20).getD false))) ((fun x21=>cond (x21) (some (Sum.inr (Sum.inr false))) ((id y18).bind fun y22=>(chk .i64 (x16+1)).bind fun n23=>some (Sum.inl (n23,(B9 x17 y22 true))))))) (some (Sum.inr (Sum.inl ())))) ((0:Int),(fnone:(A2 Int Bool)))).bind ((Sum.elim (fun _=>some true) (fun r24=>some r24)))
def AWH:An:=.nd .x (.nd .x (.nd (.nd .x (.lp ⟨[(.slot 13,.d (.int .i64)),(.cont 10,.own (.mp 3 (.int .i64) .bool))],[10]⟩ [.exit 0 ⟨[],[]⟩,.ret] (.nd .x (.nd .x (.nd (.nd .x (.nd (.nd (.jn [.norm ⟨[(.slot 27,.d .bool)],[9,10]⟩] .x) .x) .x)) .x))))) .x))
def ctr211:Ctr:=⟨[.d (.sl (.st 3)),.fn [(.st 3)] (.int .i64),.fn [(.st 3)] .bool],[.d .bool],fun a=>P3 a.1 a.2.1 a.2.2.1⟩
theorem ok211:Ctr.ok prog 211 ctr211:=A7 (G:={ gxb with fs:=[] }) (an:=AWH) (A8 trivial) func211 rfl rfl rfl rfl (fun a=>by kernel_rfl)
def M9(a:Answer):Option Int:=some a.id
def AWI:An:=.x
def ctr212:Ctr:=⟨[.d (.st 3)],[.d (.int .i64)],fun a=>M9 a.1⟩
theorem ok212:Ctr.ok prog 212 ctr212:=A7 (G:={ gxb with fs:=[] }) (an:=AWI) (A8 trivial) func212 rfl rfl rfl rfl (fun a=>by kernel_rfl)
def F0(d:Desk_99):Option Int:=Option.bind (α:=Bool) (cond (decide (40<(d.desk.answers.length:Int))) (some true) ((P3 d.desk.answers (fun a4=>M9 a4) (fun a5=>F7 a5 d)).bind fun r6=>some (!r6))) ((fun x7=>cond (x7) (some (52:Int)) (some (0:Int))))
def AWJ:An:=.nd .x (.nd .x (.nd (.nd (.jn [.norm ⟨[(.slot 17,.d .bool)],[]⟩] .x) .x) .x))
def AT1:Ctr:=⟨[.d (.st 10)],[.d (.int .i64)],fun a=>F0 a.1⟩
theorem ok208:Ctr.ok prog 208 AT1:=A7 (G:={ gxb with fs:=[(209,ctr209),(211,ctr211),(212,ctr212)] }) (an:=AWJ) (A8 ⟨⟨ok209,call209⟩,⟨ok211,call211⟩,⟨ok212,call212⟩,trivial⟩) func208 rfl rfl rfl rfl (fun a=>by kernel_rfl)
end Go.Proofs.YtgioiejbphljoaaGreatDoor
namespace Go.Proofs.YtgioiejbphljoaaGreatDoor
open Go Go.Sx Go.Rx Go.ChangeShapes Go.WideShapes Go.ChangeAt Go.RowKit
namespace frame
variable{W:World}
theorem own:ownKnob prog.godebug=none:=by kernel_rfl
theorem AIb:laidOutB prog=true:=by kernel_rfl
abbrev laid3:List (String×DataW Unit):=[("goodname/account.most",Rows.laid_goodname_account_most),("goodname/dispute.steps",Rows.laid_goodname_dispute_steps),("goodname/dispute.outcomes",Rows.laid_goodname_dispute_outcomes)]
theorem g0:prog.globalNamed "goodname/account.most" = some 0:=by kernel_rfl
theorem t0:(prog.globals[0]?).map (·.type)=some 181:=by kernel_rfl
theorem g1:prog.globalNamed "goodname/dispute.steps" = some 1:=by kernel_rfl
theorem t1:(prog.globals[1]?).map (·.type)=some 184:=by kernel_rfl
theorem g2:prog.globalNamed "goodname/dispute.outcomes" = some 2:=by kernel_rfl
theorem t2:(prog.globals[2]?).map (·.type)=some 202:=by kernel_rfl
theorem AQL(os:Os)(args:Array Value):laidMetH prog laid3 ((World.doorLaid prog 400 os).forCall (fun _ _=>0) ⟨#[],args,[]⟩).memory:=
 laidMetH_of_parts3 (fuel:=8) (laidMet_of_run' 8 (by kernel_rfl) (by kernel_rfl)) (by kernel_rfl) (by kernel_rfl)
theorem ANP{b:Nat}{cs:List Value}(H:0<cs.length)(I:∀j v,cs[j]?=some v->W.cell? ⟨b,0+j,none⟩=some v):RdC [] W b 0 cs:=by
 refine⟨by simp,?_,I⟩;have H:=I 0 cs[0] (AYd H);rcases AYl b W.heap.size with h|h
 . exact h
 . have:W.heap[b]?=none:=AZK (by omega);simp[World.cell?,this]at H
theorem ASF(h:laidMet prog [("goodname/account.most",Rows.laid_goodname_account_most),("goodname/dispute.outcomes",Rows.laid_goodname_dispute_outcomes)] W):RdC [] W 0 0 (glob0.map (Value.int .i64)):=by
 obtain⟨ps,⟨q0,u0,cs0,f0,p0,r0,hg0,ht0,hv0,hd0,_,_⟩,_,_⟩:=h;obtain rfl:=AYS (g0.symm.trans hg0);obtain rfl:=AYS (t0.symm.trans ht0);obtain⟨xs,m,rfl,hx,hlen,hn,hel⟩:=DataW.trod_array underlying181 hd0;have c3:prog.cellsOf 3=1:=by kernel_rfl
 have hxs:xs.map (·.1)=glob0.map fun n=>DataW.lit (.int .i64 n):=by
  have:=AYe Prod.fst hx;simp only[Rows.laid_goodname_account_most,DataW.agg.injEq]at this;exact this.symm
 refine ANP (by decide) fun j v hj=>?_;have hj10:j<10:=by
  have:=(List.getElem?_eq_some_iff.1 hj).1;simpa[glob0] using this
 have h1:=hel j hj10;rw[c3,Nat.mul_one]at h1;obtain⟨x,hxj⟩:∃x,xs[j]?=some x:=⟨_,AYd (by omega)⟩;obtain⟨n,e1,e2,_⟩:=DataW.trod_int underlying3 (h1.trans hxj);have e3:(xs.map (·.1))[j]?=some (DataW.lit (.int .i64 n)):=by rw[AY7,hxj,e2];rfl
 rw[hxs,AY7]at e3;rw[AY7]at hj;cases hg:glob0[j]? with
 |none=>rw[hg]at e3;cases e3
 |some y=>
  rw[hg]at e3 hj
  simp at e3 hj
  subst e3 hj
  have:=World.var?_cell hg0 hv0 j
  rw[AYw,this]
  have h9:=AYe (fun l:List Value=>l[0]?) e1
  simpa[List.getElem?_take,List.getElem?_drop] using h9
def stepN:List (List UInt8):=[[103,111,111,100,110,97,109,101,47,100,105,115,112,117,116,101,46,115,116,101,112,115,36,49],[103,111,111,100,110,97,109,101,47,100,105,115,112,117,116,101,46,115,116,101,112,115,36,50],[103,111,111,100,110,97,109,101,47,100,105,115,112,117,116,101,46,115,116,101,112,115,36,51],[103,111,111,100,110,97,109,101,47,100,105,115,112,117,116,101,46,115,116,101,112,115,36,52]]
theorem AQM(h:laidMetH prog laid3 W):RdC [] W 1 0 [.func (.func 202) #[] #[],.func (.func 203) #[] #[],.func (.func 204) #[] #[],.func (.func 208) #[] #[]]:=by
 obtain⟨q1,u1,cs1,f1,p1,V,E,D,O⟩:=laidMetH.funcs h (AYT _ (AYX ..));obtain rfl:=AYS (g1.symm.trans V);obtain rfl:=AYS (t1.symm.trans E);obtain⟨xs,m,rfl,hx,U,X,K⟩:=DataW.trod_array underlying184 O;have c3:prog.cellsOf 183=1:=by kernel_rfl
 have C:xs.map (·.1)=stepN.map DataW.held:=by
  have:=AYe Prod.fst hx;simp only[DataW.agg.injEq,DataW.funcsOut]at this;exact this.symm
 have cell:∀(j:Nat) (b:UInt8) (r:List UInt8) (f0:FuncId),j<4->stepN[j]?=some (b::r)->((List.range prog.funcs.size).filter fun f=>(prog.funcs[f]?).any (·.name.toUTF8.data.toList==b::r))=[f0]->W.cell? ⟨1,0+j,none⟩=some (.func (.func f0) #[] #[]):=fun j b r f0 H Y J=>by
  have T:=K j H;rw[c3,Nat.mul_one]at T;obtain⟨x,I⟩:∃x,xs[j]?=some x:=⟨_,AYd (by omega)⟩;have e3:(xs.map (·.1))[j]?=some (DataW.held (b::r)):=by rw[C,AY7,Y];rfl
  rw[AY7,I]at e3;have e3:x.1=DataW.held (b::r):=AYS e3;have Q:=T.trans I;have A:cs1.toList.length=4:=U.trans (by kernel_rfl);have B:(cs1.toList.drop j).take 1=[cs1.toList[j]'(by omega)]:=by
   rw[AZ7 (by omega)];rfl
  rw[B]at Q;obtain⟨x1,x2⟩:=x;have e3:x1=DataW.held (b::r):=e3;subst e3;have:=func_of_trod underlying183 J Q;have G:=World.var?_cell V D j;rw[AYw,G];have F:j<cs1.size:=by simpa using (show j<cs1.toList.length by omega)
  rw[AZb F];congr 1
 refine ANP (by decide) fun j v H=>?_;match j,H with
 |0,H=>cases H;exact cell 0 _ _ _ (by decide) rfl (by kernel_rfl)
 |1,H=>cases H;exact cell 1 _ _ _ (by decide) rfl (by kernel_rfl)
 |2,H=>cases H;exact cell 2 _ _ _ (by decide) rfl (by kernel_rfl)
 |3,H=>cases H;exact cell 3 _ _ _ (by decide) rfl (by kernel_rfl)
 |n+4,H=>cases H
theorem AGK{H:Type}(x:Lit×DataW H):∀l:List (Lit×DataW H),(DataW.insert x l).Perm (x::l)
 |[]=>.refl _
 |y::r=>by
  unfold DataW.insert;split
  . exact .refl _
  . exact((AGK x r).cons y).trans (.swap x y r)
theorem AHy{H:Type}:∀l:List (Lit×DataW H),(l.foldr DataW.insert []).Perm l
 |[]=>.refl _
 |x::l=>(AGK x _).trans ((AHy l).cons x)
def X7(x:Int×Int):Lit×DataW Unit:=(.int .u8 x.1,.lit (.int .u8 x.2))
def AQ7:Value->Int
 |.int _ n=>n
 |_=>0
def O8(e:MapEntry):Int×Int:=(AQ7 e.key,AQ7 e.val)
theorem AME{W:World}:∀l:List MapEntry,(∀e∈l,(e.key=.int .u8 (O8 e).1/\InK .u8 (O8 e).1)/\e.val=.int .u8 (O8 e).2/\InK .u8 (O8 e).2)->EntK (X0 (P:=prog) (kt:=5) .u8 underlying5) (B2 .u8) false [] W l (l.map O8)
 |[],_=>trivial
 |e::l,h=>by
  obtain⟨U,J,I⟩:=h e (AYX ..);exact⟨U,⟨[e.val],⟨by rw[<-J],I⟩,.inr ⟨rfl,rfl⟩⟩,AME l fun e H=>h e (AYT _ H)⟩
theorem ASG{v:Value}{l:Lit}(h:keyOf prog 5 v=some l):∃n,v=.int .u8 n/\l=.int .u8 n/\(Lit.int .u8 n).wf=true:=by
 rw[keyOf_int underlying5]at h;cases v<;>simp[mapKey,underlying5]at h
 obtain⟨⟨rfl,H⟩,rfl⟩:=h;exact⟨_,rfl,rfl,H⟩
theorem AT2(h:laidMet prog [("goodname/account.most",Rows.laid_goodname_account_most),("goodname/dispute.outcomes",Rows.laid_goodname_dispute_outcomes)] W):∃bm,RdC [] W 2 0 [.map (some bm)]/\MapH (X0 (P:=prog) (kt:=5) .u8 underlying5) (B2 .u8) false [] W bm AF4:=by
 obtain⟨ps,⟨_,_,_,_,_,_,_,_,_,_,⟨q2,u2,cs2,f2,p2,r2,hg2,ht2,hv2,hd2,_,_⟩,_⟩,_,_⟩:=h;obtain rfl:=AYS (g2.symm.trans hg2);obtain rfl:=AYS (t2.symm.trans ht2);rcases WideMaps.open_map (P:=prog) underlying202 underlying5 hd2 with⟨_,hx⟩|⟨bm,es,clock,hcs,hb,_,F,hx⟩
 . have:=AYe Prod.fst hx;cases this
 refine⟨bm,ANP Nat.one_pos fun j v hj=>?_,es,clock,es.toList.map O8,hb,?_,?_,?_⟩
 . match j,hj with
   |0,hj=>
    cases hj
    have:=World.var?_cell hg2 hv2 0
    rw[AYw,this,Array.eq_one_of_toList hcs]
    rfl
   |n+1,hj=>cases hj
 . obtain⟨s1,s2,_⟩:=(Go.MapKept.stamped_iff es clock).1 F.stamped;exact⟨s2,s1⟩
 all_goals
  have ent:∀e∈es.toList,((e.key=.int .u8 (O8 e).1/\InK .u8 (O8 e).1)/\e.val=.int .u8 (O8 e).2/\InK .u8 (O8 e).2)/\WideMaps.rg Unit prog 5 .u8 e=X7 (O8 e):=fun e he=>by
   obtain⟨y,hy⟩:=F.reads e he;obtain⟨n,v1,v2,v3⟩:=WideMaps.rd_val hy;have hk:=WideMaps.rd_key hy;obtain⟨m,e2,e3,hw⟩:=ASG hk;have p1:O8 e=(m,n):=by unfold O8;rw[e2,v1];rfl
   rw[p1,WideMaps.rg_of hy];exact⟨⟨⟨e2,AJ2 hw⟩,v1,AJ2 v3⟩,Prod.ext e3 v2⟩
 . exact AME _ fun e he=>(ent e he).1
 . have hE:es.toList.map (WideMaps.rg Unit prog 5 .u8)=(es.toList.map O8).map X7:=by
    rw[AY3];exact List.map_congr_left fun e he=>(ent e he).2
   have hx1:Rows.laid_goodname_dispute_outcomes=DataW.map ((es.toList.map (WideMaps.rg Unit prog 5 .u8)).foldr DataW.insert []):=AYe Prod.fst hx;have hx2:[X7 (1,2),X7 (2,3),X7 (3,4)]=(es.toList.map (WideMaps.rg Unit prog 5 .u8)).foldr DataW.insert []:=DataW.map.inj hx1;have hp:((es.toList.map O8).map X7).Perm [X7 (1,2),X7 (2,3),X7 (3,4)]:=by
    rw[<-hE,hx2];exact(AHy _).symm
   generalize es.toList.map O8=xs at hp;have inj:∀a b,X7 a=X7 b->a=b:=fun a b h=>by
    obtain⟨h1,h2⟩:=AZU h;injection h1 with _ h1;injection h2 with h2;injection h2 with _ h2;exact Prod.ext h1 h2
   refine⟨?_,fun a y=>?_⟩
   . have h1:=(hp.map Prod.fst).nodup_iff.2 (by simp[X7]);rw[AY3]at h1;have e:(Prod.fst ∘ X7)=(fun n:Int=>Lit.int .u8 n) ∘ (fun x:Int×Int=>x.1):=rfl;rw[e,<-AY3]at h1;exact(List.pairwise_map.1 h1).imp fun h9 h8=>h9 (by rw[h8])
   . have h1:(a,y)∈xs↔X7 (a,y)∈xs.map X7:=by
      constructor
      . exact fun h=>mem_map.2 ⟨_,h,rfl⟩
      . intro h;obtain⟨x,hx,e⟩:=mem_map.1 h;rw[<-inj _ _ e];exact hx
     rw[h1,hp.mem_iff];have h2:X7 (a,y)∈[X7 (1,2),X7 (2,3),X7 (3,4)]↔(a,y)∈[((1:Int),(2:Int)),(2,3),(3,4)]:=by
      simp only[mem_cons,List.not_mem_nil,or_false];constructor
      . rintro (h|h|h)
        . exact .inl (inj _ _ h)
        . exact .inr (.inl (inj _ _ h))
        . exact .inr (.inr (inj _ _ h))
      . rintro (h|h|h)<;>rw[h]<;>simp
     rw[h2];unfold AF4 B9 fnone;simp only[mem_cons,List.not_mem_nil,or_false,Prod.mk.injEq];by_cases c3:a=3
     . subst c3;simp[eq_comm]
     . by_cases c2:a=2
       . subst c2;simp[eq_comm]
       . by_cases c1:a=1
         . subst c1;simp[eq_comm]
         . simp[c1,c2,c3]
theorem ASH(h:laidMetH prog laid3 W):GlOk (P:=prog) [] W:=by
 have hs:=AQM h;have h1:=(laidMetH_iff.1 h).1;rw[show(laid3.filter fun x=>x.2.handleName?.isNone)=[("goodname/account.most",Rows.laid_goodname_account_most),("goodname/dispute.outcomes",Rows.laid_goodname_dispute_outcomes)] from by kernel_rfl]at h1;have hm:=ASF h1;obtain⟨bm,ho,hmap⟩:=AT2 h1;intro g s hg ρ R;match g,hg with
 |0,hg=>
  cases hg
  exact⟨0,0,.agg (toArray (glob0.map (Value.int .i64))),_,rfl,hm,⟨_,⟨by decide,rfl,rfl,by decide⟩,.inl ⟨rfl,rfl⟩⟩,rfl⟩
 |1,hg=>
  cases hg
  exact⟨1,0,.agg (toArray [.func (.func 202) #[] #[],.func (.func 203) #[] #[],.func (.func 204) #[] #[],.func (.func 208) #[] #[]]),_,rfl,hs,⟨_,rfl,_,[_],_,rfl,⟨[],rfl,rfl⟩,rfl,_,[_],_,rfl,⟨[],rfl,rfl⟩,rfl,_,[_],_,rfl,⟨[],rfl,rfl⟩,rfl,_,[_],_,rfl,⟨[],rfl,rfl⟩,rfl,rfl⟩,rfl⟩
 |2,hg=>
  cases hg
  exact⟨2,0,.map (some bm),_,rfl,ho,⟨rfl,_,⟨_,_,rfl,rfl,bm,rfl,by simp,hmap⟩,.inr ⟨rfl,rfl⟩⟩,rfl⟩
 |n+3,hg=>cases hg
end frame
end Go.Proofs.YtgioiejbphljoaaGreatDoor
namespace Go.Sx
variable{α:Type}{o:Option α}{a:α}{β:Type}{K:α->Option β}{Q:β->Prop}
theorem B3{S R:Type}{body:S->Option (S⊕R)}{s0:S}{Q:R->Prop}(N:Nat)(I:Nat->S->Prop)(W:I 0 s0)(step:∀n<N,∀s,I n s->Ret (body s) (Nxt (I (n+1)) Q))(fin:∀s,I N s->Ret (body s) (Nxt (fun _=>False) Q)):Ret (B5 body s0) Q:=by
 have key:∀(m n:Nat) (s:S),n+m=N->I n s->Ret (B5 body s) Q:=by
  intro m;induction m with
  |zero=>
   intro n s V U
   have:n=N:=by omega
   subst this
   obtain⟨r,J,H⟩:=fin s U
   cases r with
   |inl s'=>exact H.elim
   |inr r=>exact⟨r,AA3 J,H⟩
  |succ m ih=>
   intro n s V U
   obtain⟨r,J,H⟩:=step n (by omega) s U
   cases r with
   |inl s'=>rw[AGP J];exact ih (n+1) s' (by omega) H
   |inr r=>exact⟨r,AA3 J,H⟩
 exact key N 0 s0 (by omega) W
theorem Ret.eq(h:Ret o (·=a)):o=some a:=by
 obtain⟨b,H,rfl⟩:=h;exact H
theorem D0{Q':α->Prop}(h:Ret o Q')(hk:∀a,Q' a->Ret (K a) Q):Ret (Option.bind o K) Q:=Ret.bind (h.mono hk)
theorem W5(h:o=some a)(hk:Ret (K a) Q):Ret (Option.bind o K) Q:=Ret.bind (Ret.val h hk)
end Go.Sx
namespace Go.Proofs.YtgioiejbphljoaaGreatDoor
open Go Go.Sx Go.Rx
namespace S
variable{α:Type}{s:List α}{f:α->Option Bool}{g:α->Bool}{lo:Int}{hi:Int}{n:Int}{all:List Int}{k:Int}{b:Bool}{Q:Bool->Prop}
theorem bindS{α β:Type}(a:α)(f:α->Option β):(some a).bind f=f a:=rfl
theorem T3{l:List α}{n:Nat}(h:n<l.length):l.take (n+1)=l.take n++[l[n]]:=by
 rw[AaR,AYd h];rfl
theorem B6{l:List α}{n:Nat}(h:n<l.length){x:α}:x∈l.take (n+1)↔x∈l.take n\/x=l[n]:=by
 rw[T3 h,AYx,AZs]
theorem C0{l:List α}{n:Nat}{Q:α->Prop}(h:n<l.length)(q:Q l[n]):Ret (ixo l (n:Int)) Q:=Ret.ixo (AYd h) q
theorem K5{n m:Nat}(h:n<m):decide ((n:Int)<(m:Int))=true:=AYc (by omega)
theorem K6{n m:Nat}(h:m<=n):decide ((n:Int)<(m:Int))=false:=AYY (by omega)
def AG2{α:Type}(s:List α)(f:α->Option Bool):Option Int:=(B5 (S:=Int) (R:=(Unit⊕Int)) (fun x5=>cond (decide (x5<(s.length:Int))) ((ixo s x5).bind fun y6=>(f y6).bind fun y7=>cond (y7) (some (Sum.inr (Sum.inr x5))) ((chk .i64 (x5+1)).bind fun n8=>some (Sum.inl n8))) (some (Sum.inr (Sum.inl ())))) (0:Int)).bind ((Sum.elim (fun _=>some ((-1):Int)) (fun r9=>some r9)))
theorem AAB(h:∀x∈s,f x=some (g x))(hl:s.length<=1000000){Q:Int->Prop}(V:(∀x∈s,g x=false)->Q (-1))(U:∀(n:Nat) (W:n<s.length),g s[n]=true->(∀x∈s.take n,g x=false)->Q n):Ret (AG2 s f) Q:=by
 unfold AG2;refine Ret.bind (B3 s.length (fun n (t:Int)=>t=n/\∀x∈s.take n,g x=false) ⟨rfl,fun x hx=>by simp at hx⟩ ?_ ?_)
 . rintro n H _ ⟨rfl,I⟩;refine Ret.condT (K5 H) (Ret.bind (C0 H (W5 (h _ (AYg H)) ?_)));refine Ret.cond (fun J=>Ret.done (C1 (Ret.ok (U n H J I)))) fun J=>?_;refine Ret.bind (Ret.chk (by omega) (Ret.next ⟨by omega,fun x hx=>?_⟩));rw[B6 H]at hx;rcases hx with hx|rfl
   . exact I x hx
   . exact J
 . rintro _ ⟨rfl,I⟩;rw[AYo]at I;exact Ret.condF (K6 (AYh _)) (Ret.done (B8 (Ret.ok (V I))))
theorem AJe(h:∀x∈s,f x=some (g x))(hl:s.length<=1000000):(AG2 s f).bind (fun r1=>some (decide (0<=r1)))=some (s.any g):=by
 refine Ret.eq (Ret.bind (AAB h hl (fun H=>Ret.ok ?_) fun n I H _=>Ret.ok ?_))
 . have:s.any g=false:=by
    rw[List.any_eq_false];intro x hx;rw[H x hx];decide
   rw[this];decide
 . have:s.any g=true:=List.any_eq_true.2 ⟨_,AYg I,H⟩;rw[this];exact AYc (by omega)
def inB(lo hi n:Int):Bool:=decide (lo<=n/\n<=hi)
theorem C6(h:lo<=n/\n<=hi):inB lo hi n=true:=AYc h
theorem C9(h:inB lo hi n=true):lo<=n/\n<=hi:=AYZ h
theorem AOw:(!all.any fun n=>!inB lo hi n)=all.all (inB lo hi):=by
 rw[List.any_eq_not_all_not];simp
theorem ADl(hl:all.length<=1000000):L7 lo hi all=some (all.all (inB lo hi)):=by
 have:=AJe (s:=all) (f:=fun a1=>Q8 a1 lo hi) (g:=fun n=>!inB lo hi n) (fun x _=>?_) hl
 . unfold L7;rw[show H0 all (fun a1=>Q8 a1 lo hi)=_ from this,bindS,AOw]
 . unfold Q8;by_cases h:x<lo
   . simp[h,inB]<;>omega
   . by_cases H:hi<x
     . simp[h,H,inB]<;>omega
     . simp[h,H,inB]<;>omega
theorem AT3(hl:all.length<=1000000):E2 lo hi all=some (all.all (inB lo hi)):=by
 have:=AJe (s:=all) (f:=fun a1=>Q6 a1 lo hi) (g:=fun n=>!inB lo hi n) (fun x _=>?_) hl
 . unfold E2;rw[show H0 all (fun a1=>Q6 a1 lo hi)=_ from this,bindS,AOw]
 . unfold Q6;by_cases h:x<lo
   . simp[h,inB]<;>omega
   . by_cases H:hi<x
     . simp[h,H,inB]<;>omega
     . simp[h,H,inB]<;>omega
theorem d_in1:E2 lo hi [n]=some (inB lo hi n):=by
 rw[AT3 (by simp)];simp
theorem d_in2{lo hi a b:Int}:E2 lo hi [a,b]=some (inB lo hi a&&inB lo hi b):=by
 rw[AT3 (by simp)];simp
theorem AEB:D7 n lo hi=some (inB lo hi n):=by
 unfold D7;by_cases h:lo<=n
 . by_cases H:n<=hi<;>simp[h,H,inB]
 . simp[h,inB]
theorem within5:B7 n lo hi=some (inB lo hi n):=by
 unfold B7;by_cases h:lo<=n
 . by_cases H:n<=hi<;>simp[h,H,inB]
 . simp[h,inB]
def most(k:Int):Int:=if k=1\/k=7\/k=9 then 0 else if k=5 then 10000 else 1000000000000
theorem AK5(h:1<=k/\k<=9){γ:Type}{K:Int->Option γ}:((ixA 10 k).bind fun i=>(ixo glob0 (i*1)).bind K)=K (most k):=by
 have:k=1\/k=2\/k=3\/k=4\/k=5\/k=6\/k=7\/k=8\/k=9:=by omega
 rcases this with rfl|rfl|rfl|rfl|rfl|rfl|rfl|rfl|rfl<;>rfl
def V(r:Report):Prop:=(1<=r.kind/\r.kind<=9)/\(0<=r.id/\r.id<=999999)/\(0<=r.source/\r.source<=999999)/\(0<=r.account/\r.account<=999999)/\(0<=r.of_/\r.of_<=999999)/\(0<=r.made/\r.made<=100000)/\(0<=r.about/\r.about<=100000)/\(0<=r.cents/\r.cents<=most r.kind) /\
 (r.kind<=7->r.of_=0)/\(8<=r.kind->r.of_≠r.id)/\(r.kind=9->r.about=0)
theorem AMF{r:Report}(h:V r):G5 r=some true:=by
 obtain⟨c1,c2,c3,c4,c5,c6,c7,c8,c9,c10,c11⟩:=h;refine Ret.eq ?_;unfold G5;refine Ret.bind (Ret.bind (Ret.chk (by omega) ?_));rw[ADl (by simp),bindS];refine Ret.condF (by simp[inB,c1]) ?_;rw[ADl (by simp),bindS];refine Ret.condF (by simp[inB,c2,c3,c4,c5]) ?_;rw[ADl (by simp),bindS];refine Ret.condF (by simp[inB,c6,c7]) ?_;rw[AK5 c1,ADl (by simp),bindS];refine Ret.ok (Ret.condF (by simp[inB,c8]) ?_);unfold H6;rw[bindS];refine Ret.cond (fun h=>?_) fun h=>?_
 . exact Ret.ok (AYc (c9 (AYZ h)))
 . have h:=AYb h;have hx:(cond (decide (r.kind=9)) (some (!decide (r.about=0))) (some false):Option Bool)=some false:=by
    by_cases c:r.kind=9
    . simp[c,c11 c]
    . simp[c]
   refine W5 hx (Ret.condF rfl (Ret.ok ?_));rw[AYY (c10 (by omega))];rfl
theorem AK6(hk:1<=k/\k<=8):Y2 k n=some (inB 0 (most k) n):=by
 unfold Y2;rw[AEB,AEB];have:k=1\/k=2\/k=3\/k=4\/k=5\/k=6\/k=7\/k=8:=by omega
 rcases this with rfl|rfl|rfl|rfl|rfl|rfl|rfl|rfl<;>simp[most,inB]<;>(rw[Bool.eq_iff_iff];simp;omega)
theorem AOx(hk:1<=k/\k<=8):AAr k n=some (inB 0 (most k) n):=by
 unfold AAr;rw[within5,within5];have:k=1\/k=2\/k=3\/k=4\/k=5\/k=6\/k=7\/k=8:=by omega
 rcases this with rfl|rfl|rfl|rfl|rfl|rfl|rfl|rfl<;>simp[most,inB]<;>(rw[Bool.eq_iff_iff];simp;omega)
theorem Ret.no{o:Option Bool}(I:Q true)(H:b=true->Ret o Q):Ret (cond (!b) (some true) o) Q:=by
 cases b with
 |true=>exact H rfl
 |false=>exact Ret.ok I
theorem Ret.last(I:Q true)(H:b=true->Q false):Ret (some (!b)) Q:=by
 cases b with
 |true=>exact Ret.ok (H rfl)
 |false=>exact Ret.ok I
theorem AMG{r:Report}(hk:0<=r.kind/\r.kind<=255):Ret (O4 r) fun b=>b=true->V r:=by
 unfold O4;simp only[AEB,bindS];have bad:∀{o:Option Bool},Ret (cond true (some false) o) fun b=>b=true->V r:=fun {o}=>Ret.condT rfl (Ret.ok fun h=>by cases h);refine Ret.bind (Ret.no bad fun c2=>Ret.no bad fun c3=>Ret.no bad fun c4=>Ret.no bad fun c6=>Ret.no bad fun c7=>Ret.bind (Ret.chk (by omega) (Ret.last bad fun c1=>Ret.condF rfl ?_)));have c1:=C9 c1;have c2:=C9 c2;have c3:=C9 c3;have c4:=C9 c4;have c6:=C9 c6;have c7:=C9 c7;refine Ret.cond (fun h=>?_) fun h=>?_
 . have h:=AYZ h;rw[AK6 (by omega),bindS];refine Ret.bind (Ret.cond (fun c8=>Ret.ok (Ret.ok fun H=>?_)) fun _=>Ret.ok (Ret.ok fun h=>by cases h));have H:=AYZ H;exact⟨c1,c2,c3,c4,by omega,c6,c7,C9 c8,fun _=>H,fun h=>by omega,fun h=>by omega⟩
 . have h:=AYb h;refine Ret.bind (Ret.no bad fun c5=>Ret.ok ?_);have c5:=C9 c5;refine Ret.cond (fun _=>Ret.ok fun h=>by cases h) fun c10=>?_;have c10:=AYb c10;refine Ret.cond (fun c=>?_) fun c=>?_
   . have c:=AYZ c;refine Ret.ok fun c8=>?_;have c8:=C9 c8;exact⟨c1,c2,c3,c4,c5,c6,c7,by rw[show most r.kind=1000000000000 by simp[most,c]];exact c8,fun h=>by omega,fun _=>c10,fun h=>by omega⟩
   . have c:=AYb c;have c9:r.kind=9:=by omega
     refine Ret.bind (Ret.cond (fun c8=>Ret.ok (Ret.ok fun c11=>?_)) fun _=>Ret.ok (Ret.ok fun h=>by cases h));have c8:=AYZ c8;have c11:=AYZ c11;exact⟨c1,c2,c3,c4,c5,c6,c7,by rw[show most r.kind=0 by simp[most,c9]];omega,fun h=>by omega,fun _=>c10,fun _=>c11⟩
end S
namespace S
def ADm(l:List Report):Prop:=∀a∈l,∀b∈l,a.id=b.id->a=b
structure VL(l:List Report):Prop where
 len:l.length<=60
 v:∀r∈l,V r
 cons:ADm l
variable{α:Type}{g:α->Bool}{i:Int}{f:Report}
theorem AXg{l:List Report}(hk:∀r∈l,0<=r.kind/\r.kind<=255):Ret (O5 l) fun e=>e=0->VL l:=by
 unfold O5;refine Ret.cond (fun _=>Ret.ok fun h=>by cases h) fun c1=>?_;have c1:=AYb c1;refine Ret.bind (B3 l.length (fun n (t:Int)=>t=n/\∀r∈l.take n,V r) ⟨rfl,fun r I=>by simp at I⟩ ?_ ?_)
 . rintro n H _ ⟨rfl,hv⟩;refine Ret.condT (K5 H) (Ret.bind (C0 H (Ret.bind ((AMG (hk _ (AYg H))).mono fun b U=>?_))));cases b with
   |false=>exact Ret.condT rfl (Ret.done (C1 (Ret.ok fun h=>by cases h)))
   |true=>
    refine Ret.condF rfl (Ret.bind (Ret.chk (by omega) (Ret.next ⟨by omega,fun r I=>?_⟩)))
    rw[B6 H]at I
    rcases I with I|rfl
    . exact hv r I
    . exact U rfl
 rintro _ ⟨rfl,hv⟩;rw[AYo]at hv;refine Ret.condF (K6 (AYh _)) (Ret.done (B8 (Ret.bind (B3 l.length (fun n (t:Int)=>t=n/\ADm (l.take n)) ⟨rfl,fun a C=>by simp at C⟩ ?_ ?_))))
 . rintro n H _ ⟨rfl,E⟩;refine Ret.condT (K5 H) (Ret.bind (B3 n (fun m (t:Int)=>t=m/\∀r∈l.take m,l[n].id=r.id->l[n]=r) ⟨rfl,fun r I=>by simp at I⟩ ?_ ?_))
   . rintro m hm _ ⟨rfl,D⟩;have J:m<l.length:=by omega
     refine Ret.condT (AYc (by omega)) (Ret.bind (Ret.bind (C0 H (Ret.bind (C0 J (Ret.cond (fun F=>?_) fun F=>?_))))))
     . refine Ret.bind (C0 H (Ret.bind (C0 J (Ret.ok ?_))));by_cases e:l[n]=l[m]
       . refine Ret.condF (by rw[AYc e];rfl) (Ret.bind (Ret.chk (by omega) (Ret.next ⟨by omega,fun r I hi=>?_⟩)));rw[B6 J]at I;rcases I with I|rfl
         . exact D r I hi
         . exact e
       . exact Ret.condT (by rw[AYY e];rfl) (Ret.done (C1 (Ret.done (C1 (Ret.ok fun h=>by cases h)))))
     . have F:=AYb F;refine Ret.ok (Ret.condF rfl (Ret.bind (Ret.chk (by omega) (Ret.next ⟨by omega,fun r I hi=>?_⟩))));rw[B6 J]at I;rcases I with I|rfl
       . exact D r I hi
       . exact absurd hi F
   . rintro _ ⟨rfl,D⟩;refine Ret.condF (AYY (by omega)) (Ret.done (B8 (Ret.bind (Ret.chk (by omega) (Ret.next ⟨by omega,fun a C b U W=>?_⟩)))));rw[B6 H]at C U;rcases C with C|rfl<;>rcases U with U|rfl
     . exact E a C b U W
     . exact(D a C W.symm).symm
     . exact D b U W
     . rfl
 . rintro _ ⟨rfl,E⟩;rw[AYo]at E;exact Ret.condF (K6 (AYh _)) (Ret.done (B8 (Ret.ok fun _=>⟨by omega,hv,E⟩)))
theorem AIc{l:List Report}(h:VL l):I5 l=some 0:=by
 refine Ret.eq ?_;unfold I5;have hl:=h.len;refine Ret.condF (AYY (by omega)) ?_;have W:L6 l (fun a1=>R0 a1)=some (l.any fun _=>false):=AJe (fun r I=>by
  show (G5 r).bind _=_;rw[AMF (h.v r I),bindS];rfl) (by omega)
 rw[W,bindS];refine Ret.condF (by simp) (Ret.bind (B3 l.length (fun n (t:Int×A2 Int Report)=>t.1=n/\∀i r,t.2 i=some r->r∈l.take n/\r.id=i) ⟨rfl,fun i r I=>by cases I⟩ ?_ ?_))
 . rintro n H ⟨_,m⟩ ⟨rfl,hm⟩;dsimp only at hm;refine Ret.condT (K5 H) (Ret.bind (C0 H (Ret.bind (Ret.val (a:=false) ?_ (Ret.condF rfl (Ret.bind (Ret.chk (by omega) (Ret.next ⟨by dsimp only;omega,fun i r I=>?_⟩))))))))
   . cases V:m l[n].id with
     |none=>rfl
     |some y=>
      obtain⟨U,J⟩:=hm _ _ V
      have:y=l[n]:=h.cons y (AZI U) _ (AYg H) J
      show some (!decide (y=l[n]))=_
      rw[AYc this];rfl
   . dsimp only[B9]at I;rw[B6 H];split at I
     . rename_i e;cases I;exact⟨.inr rfl,e.symm⟩
     . obtain⟨U,J⟩:=hm _ _ I;exact⟨.inl U,J⟩
 . rintro⟨_,m⟩ ⟨rfl,hm⟩;exact Ret.condF (K6 (AYh _)) (Ret.done (B8 (Ret.ok rfl)))
def fct(l:List Report)(i:Int):Option Report:=match l.find? fun r=>decide (r.id=i) with
 |some f=>if f.kind<=7 then some f else none
 |none=>none
theorem AMH{l:List α}{n:Nat}(I:n<l.length)(h:g l[n]=true)(H:∀x∈l.take n,g x=false):l.find? g=some l[n]:=by
 have e:l=l.take n++l[n]::l.drop (n+1):=by rw[List.getElem_cons_drop I,AaE]
 have:∀(p q:List α) (x:α),(∀y∈p,g y=false)->g x=true->(p++x::q).find? g=some x:=by
  intro p q x H hx;rw[List.find?_append,List.find?_eq_none.2 (fun y hy=>by rw[H y hy];decide)];simp[List.find?,hx]
 conv=>lhs;rw[e]
 exact this _ _ _ H h
theorem AMI{l:List α}(H:∀x∈l,g x=false):l.find? g=none:=List.find?_eq_none.2 fun y hy=>by rw[H y hy];decide
theorem At3{l:List Report}:G4 l i=AG2 l fun r=>some (decide (r.id=i)):=rfl
theorem At5{d:Desk}:ACa d i=AG2 d.disputes fun r=>some (decide (r.id=i)):=rfl
theorem AEC{l:List Report}(hl:l.length<=1000000){Q:Int->Prop}(U:fct l i=none->Q (-1))(W:∀(n:Nat) (I:n<l.length),fct l i=some l[n]->Q n):Ret (Q7 l i) Q:=by
 unfold Q7;rw[At3];refine Ret.bind (AAB (fun _ _=>rfl) hl (fun h=>?_) fun n I h V=>?_)
 . exact Ret.bind (Ret.condF (by decide) (Ret.ok (Ret.condF rfl (Ret.ok (U (by unfold fct;rw[AMI h]))))))
 . have J:fct l i=if l[n].kind<=7 then some l[n] else none:=by unfold fct;rw[AMH I h V]
   refine Ret.bind (Ret.condT (AYc (by omega)) (Ret.bind (C0 I (Ret.ok ?_))));refine Ret.cond (fun H=>Ret.ok (U ?_)) fun H=>Ret.ok (W n I ?_)
   . have H:=AYZ H;rw[J,if_neg (by omega)]
   . have H:=AYb H;rw[J,AYf (by omega)]
theorem O2{l:List Report}(h:fct l i=some f):f∈l/\f.id=i/\f.kind<=7:=by
 unfold fct at h;split at h
 . rename_i g H;split at h
   . cases h
     exact⟨AZm H,AYZ (AaG (p:=fun r:Report=>decide (r.id=i)) H),by assumption⟩
   . cases h
 . cases h
theorem AT4{l:List Report}(I:ADm l)(h:f∈l)(hk:f.kind<=7):fct l f.id=some f:=by
 unfold fct;cases H:l.find? fun r=>decide (r.id=f.id) with
 |none=>exact absurd (AYc rfl) (List.find?_eq_none.1 H f h)
 |some g=>
  have:g=f:=I g (AZm H) f h (AYZ (AaG (p:=fun r:Report=>decide (r.id=f.id)) H))
  subst this
  show(if g.kind<=7 then some g else none)=_
  rw[AYf hk]
def TV(t:Terms):Prop:=(0<=t.answer/\t.answer<=1000)/\(0<=t.mark/\t.mark<=100000)/\(0<=t.lately/\t.lately<=100000)
def XV(d:Desk)(x:Dispute):Prop:=(0<=x.id/\x.id<=999999)/\(∀r∈d.reports,r.id≠x.id)/\∃f,fct d.reports x.report=some f/\f.made<=x.day/\x.day<=100000-d.terms.answer-1
structure DV(d:Desk):Prop where
 len:d.disputes.length<=20
 v:∀x∈d.disputes,XV d x
 nd:(d.disputes.map (·.id)).Nodup
theorem ANR{α:Type}{l:List α}{k:α->Int}(h:∀(n:Nat) (J:n<l.length),∀x∈l.take n,k x≠k l[n]):(l.map k).Nodup:=by
 rw[List.Nodup,AZd,AZN];intro i j hi H I;exact h j H _ (List.mem_take_iff_getElem.2 ⟨i,by omega,rfl⟩)
theorem ANS{d:Desk}(hl:d.reports.length<=1000000)(V:d.disputes.length<=1000000)(D:TV d.terms)(J:VL d.reports):Ret (N2 d) fun b=>b=true->DV d:=by
 unfold N2;obtain⟨t1,t2,t3⟩:=D;refine Ret.cond (fun _=>Ret.ok fun h=>by cases h) fun c1=>?_;have c1:=AYb c1;refine Ret.bind (B3 d.disputes.length (fun n (t:Int)=>t=n/\(∀x∈d.disputes.take n,XV d x)/\∀(m:Nat) (hm:m<n) (F:m<d.disputes.length),∀x∈d.disputes.take m,x.id≠d.disputes[m].id) ⟨rfl,fun r J=>by simp at J,fun m hm=>by omega⟩ ?_ ?_)
 . rintro n H _ ⟨rfl,hv,U⟩;have bad:∀{o:Option (Int⊕(Unit⊕Bool))} {N:Int->Prop},Ret (cond true (some (Sum.inr (Sum.inr false))) o) (Nxt N (fun a=>Ret (Sum.elim (fun _=>some true) (fun r27=>some r27) a) fun b=>b=true->DV d)):=fun {o N}=>Ret.condT rfl (Ret.done (C1 (Ret.ok fun h=>by cases h)));refine Ret.condT (K5 H) (Ret.bind (C0 H (Ret.bind ?_)));rw[within5,bindS];refine Ret.no bad fun c2=>?_;have c2:=C9 c2;rw[At5];refine Ret.bind (AAB (fun _ _=>rfl) V (fun h=>Ret.condT (by rw[AYY (by omega)];rfl) (Ret.ok bad)) fun k hk h E=>?_);by_cases e:k=n;rotate_left
   . exact Ret.condT (by rw[AYY (by omega)];rfl) (Ret.ok bad)
   subst e;refine Ret.condF (by rw[AYc rfl];rfl) ?_;rw[At3];refine Ret.bind (AAB (fun _ _=>rfl) hl (fun K=>Ret.ok ?_) fun m hm _ _=>Ret.ok ?_);rotate_left
   . rw[AYc (by omega:(0:Int)<=(m:Int))];exact bad
   refine Ret.condF (by decide) (Ret.bind (AEC hl (fun C=>Ret.bind (Ret.condT (by decide) (Ret.ok bad))) fun m hm C=>Ret.bind (Ret.condF (AYY (by omega)) (Ret.bind (C0 hm (Ret.bind (Ret.chk (by omega) (Ret.bind (Ret.chk (by omega) ?_)))))))));rw[within5,bindS];refine Ret.last bad fun c4=>?_;have c4:=C9 c4;refine Ret.condF rfl (Ret.bind (Ret.chk (by omega) (Ret.next ⟨by omega,fun x hx=>?_,fun j O W=>?_⟩)))
   . rw[B6 H]at hx;rcases hx with hx|rfl
     . exact hv x hx
     . exact⟨c2,fun r J=>AYb (K r J),_,C,c4.1,c4.2⟩
   . by_cases e:j<k
     . exact U j e W
     . have:j=k:=by omega
       subst this;exact fun x hx=>AYb (E x hx)
 . rintro _ ⟨rfl,hv,U⟩;rw[AYo]at hv;exact Ret.condF (K6 (AYh _)) (Ret.done (B8 (Ret.ok fun _=>⟨by omega,hv,ANR fun n I=>U n I I⟩)))
def AV(d:Desk)(a:Answer):Prop:=(0<=a.id/\a.id<=999999)/\(0<=a.day/\a.day<=100000)/\(1<=a.says/\a.says<=3)/\∃x∈d.disputes,x.id=a.dispute/\(a.says≠2->a.about=0/\a.cents=0)/\(a.says=2->∀f,fct d.reports x.report=some f->(0<=a.about/\a.about<=100000)/\0<=a.cents/\a.cents<=most f.kind)
structure WV(d:Desk):Prop where
 len:d.answers.length<=40
 v:∀a∈d.answers,AV d a
 nd:(d.answers.map (·.id)).Nodup
theorem AOy{d:Desk}(Q:∀a∈d.answers,0<=a.says/\a.says<=255)(H:VL d.reports)(hd:DV d):Ret (O1 d) fun b=>b=true->WV d:=by
 unfold O1;have T:=H.len;have G:=hd.len;refine Ret.cond (fun _=>Ret.ok fun h=>by cases h) fun c1=>?_;have c1:=AYb c1;refine Ret.bind (B3 d.answers.length (fun n (t:Int)=>t=n/\(∀x∈d.answers.take n,AV d x)/\∀(m:Nat) (hm:m<n) (V:m<d.answers.length),∀x∈d.answers.take m,x.id≠d.answers[m].id) ⟨rfl,fun r H=>by simp at H,fun m hm=>by omega⟩ ?_ ?_)
 . rintro n W _ ⟨rfl,hv,E⟩;refine Ret.condT (K5 W) (Ret.bind (Ret.bind (C0 W (Ret.bind (B3 n (fun m (t:Int)=>t=m/\∀r∈d.answers.take m,r.id≠d.answers[n].id) ⟨rfl,fun r H=>by simp at H⟩ ?_ ?_)))))
   . rintro m hm _ ⟨rfl,D⟩;have V:m<d.answers.length:=by omega
     refine Ret.condT (AYc (by omega)) (Ret.bind (C0 V (Ret.cond (fun J=>?_) fun J=>?_)))
     . exact Ret.done (C1 (Ret.ok (C1 (Ret.done (C1 (Ret.ok fun h=>by cases h))))))
     . refine Ret.bind (Ret.chk (by omega) (Ret.next ⟨by omega,fun r H=>?_⟩));rw[B6 V]at H;rcases H with H|rfl
       . exact D r H
       . exact AYb J
   rintro _ ⟨rfl,D⟩;refine Ret.condF (AYY (by omega)) (Ret.done (B8 (Ret.bind ?_)));have bad:∀{o:Option (Unit⊕Bool)} {N:Int->Prop},Ret (cond true (some (Sum.inr false)) o) fun a=>Ret (Sum.elim (fun _=>(chk .i64 ((n:Int)+1)).bind fun n68=>some (Sum.inl n68)) (fun r69=>(some (Sum.inr (Sum.inr r69)):Option (Int⊕(Unit⊕Bool)))) a) (Nxt N (fun a=>Ret (Sum.elim (fun (_:Unit)=>some true) (fun r70=>some r70) a) fun b=>b=true->WV d)):=fun {o N}=>Ret.condT rfl (Ret.ok (C1 (Ret.done (C1 (Ret.ok fun h=>by cases h)))));rw[within5,bindS];refine Ret.no bad fun c2=>?_;rw[within5,bindS];refine Ret.no bad fun c3=>Ret.bind (Ret.chk (by have:=Q _ (AYg W);omega) ?_);rw[within5,bindS];refine Ret.last bad fun c4=>Ret.condF rfl ?_;have c2:=C9 c2;have c3:=C9 c3;have c4:=C9 c4;have fin:(∃x∈d.disputes,x.id=d.answers[n].dispute/\(d.answers[n].says≠2->d.answers[n].about=0/\d.answers[n].cents=0)/\(d.answers[n].says=2->∀f,fct d.reports x.report=some f->(0<=d.answers[n].about/\d.answers[n].about<=100000)/\0<=d.answers[n].cents/\d.answers[n].cents<=most f.kind))->Ret (Sum.elim (fun _=>(chk .i64 ((n:Int)+1)).bind fun n68=>some (Sum.inl n68)) (fun r69=>some (Sum.inr (Sum.inr r69))) (Sum.inl ():Unit⊕Bool)) (Nxt (fun (t:Int)=>t=((n+1:Nat):Int)/\(∀x∈d.answers.take (n+1),AV d x)/\∀(m:Nat) (hm:m<n+1) (V:m<d.answers.length),∀x∈d.answers.take m,x.id≠d.answers[m].id) (fun a=>Ret (Sum.elim (fun (_:Unit)=>some true) (fun r70=>some r70) a) fun b=>b=true->WV d)):=fun hx=>by
    refine B8 (Ret.bind (Ret.chk (by omega) (Ret.next ⟨by omega,fun x U=>?_,fun j Z F=>?_⟩)))
    . rw[B6 W]at U;rcases U with U|rfl
      . exact hv x U
      . exact⟨c2,c3,c4,hx⟩
    . by_cases e:j<n
      . exact E j e F
      . have:j=n:=by omega
        subst this;exact D
   rw[At5];refine Ret.bind (AAB (fun _ _=>rfl) (by omega) (fun h=>Ret.condT (by decide) (Ret.ok (C1 (Ret.done (C1 (Ret.ok fun h=>by cases h)))))) fun k hk h X=>Ret.condF (AYY (by omega)) ?_);have h:=AYZ h;refine Ret.cond (fun J=>?_) fun J=>?_
   . have J:¬d.answers[n].says=2:=AYb (by simpa using J);refine Ret.bind (Ret.cond (fun _=>Ret.ok bad) fun K=>Ret.ok ?_);have K:d.answers[n].about=0:=by simpa using K
     by_cases I:d.answers[n].cents=0
     . exact Ret.condF (by rw[AYc I];rfl) (Ret.ok (fin ⟨_,AYg hk,h,fun _=>⟨K,I⟩,fun h=>absurd h J⟩))
     . rw[AYY I];exact bad
   . have J:d.answers[n].says=2:=by simpa using J
     obtain⟨_,_,f,B,_⟩:=hd.v _ (AYg hk);refine Ret.bind (C0 hk (Ret.bind (AEC (by omega) (fun I=>by rw[B]at I;cases I) fun m hm I=>Ret.bind (C0 hm (Ret.bind ?_)))));rw[within5,bindS];refine Ret.no bad fun c5=>?_;have c5:=C9 c5;have A:=(O2 I).2.2;have Y:=(H.v _ (O2 I).1).1;rw[AOx (by omega),bindS];refine Ret.last bad fun c6=>Ret.condF rfl (Ret.ok (fin ⟨_,AYg hk,h,fun h=>absurd J h,fun _ g O=>?_⟩));rw[I]at O;cases O
     exact⟨c5,C9 c6⟩
 . rintro _ ⟨rfl,hv,E⟩;rw[AYo]at hv;exact Ret.condF (K6 (AYh _)) (Ret.done (B8 (Ret.ok fun _=>⟨by omega,hv,ANR fun n C=>E n C C⟩)))
structure Vd(d:Desk):Prop where
 t:TV d.terms
 r:VL d.reports
 x:DV d
 a:WV d
structure InD(d:Desk):Prop where
 k:∀r∈d.reports,0<=r.kind/\r.kind<=255
 s:∀a∈d.answers,0<=a.says/\a.says<=255
end S
namespace frame
variable{M:List Nat}{w:World}{cs:List Value}{d:Desk}
theorem AMJ{α:Type}{E:Enc α}{p:α->Prop}(J:∀{M w cs x},E.R M w cs x->p x){v:Value}{xs:List α}(h:RdS E M w v xs):∀x∈xs,p x:=fun r H=>by
 obtain⟨a,c,_,_,_,V⟩:=h;rcases V with rfl|⟨b,o,_,_,_,U⟩
 . cases H
 . obtain⟨i,hi,rfl⟩:=AZL H;obtain⟨cs,I,_⟩:=U i hi;exact J I
theorem inD(h:DeskE.R M w cs d):S.InD d:=by
 obtain⟨_,_,_,_,h⟩:=h;obtain⟨_,_,_,_,h⟩:=h;obtain⟨_,_,_,_,h⟩:=h;obtain⟨_,_,_,⟨_,_,I⟩,h⟩:=h;obtain⟨_,_,_,_,_,_,H⟩:=h;exact⟨AMJ (fun h=>by have:=(ReportE_R.1 h).2.2.2.2.2.2.1;rw[InK.u8]at this;exact this) I,AMJ (fun h=>by have:=(AnswerE_R.1 h).2.2.2.2.1;rw[InK.u8]at this;exact this) H⟩
def DeskBE:Enc Desk:=R4 (fun x=>(x.terms,(x.reports,(x.disputes,x.answers)))) (B1 TermsE (B1 (E7 ReportE) (B1 (E7 DisputeE) (E7 AnswerE))))
theorem ASI(h:DeskBE.R M w cs d):DeskE.R M w cs d:=by
 obtain⟨c1,c2,rfl,⟨d1,d2,rfl,J,d3,d4,rfl,I,H⟩,h⟩:=h;exact⟨d1,d3++(d4++c2),by simp,J,d3,d4++c2,rfl,I,d4,c2,rfl,H,h⟩
end frame
end Go.Proofs.YtgioiejbphljoaaGreatDoor
namespace Go.Proofs.YtgioiejbphljoaaGreatDoor
open Go Go.Sx Go.Rx Go.RowKit
def Z1(d:Desk_139):Option (List Report×Int×Int):=AAg d.store.reports fun l21=>(List.foldlM (m:=Option) (s:=((A2 Int Report))) (α:=Int×Report) (fun x14 (k15,v16)=>Option.bind (α:=(Int×Int)) (cond ((d.fixed k15).isSome) (some (((d.store.reports ((d.fixed k15).getD 0)).getD (Report.mk 0 0 0 0 0 0 0 0)).about,((d.store.reports ((d.fixed k15).getD 0)).getD (Report.mk 0 0 0 0 0 0 0 0)).cents)) (some (v16.about,v16.cents))) ((fun (x17,x18)=>(H6 (Report.mk v16.id v16.source v16.account v16.made x17 v16.kind x18 v16.of_)).bind fun r19=>Option.bind (α:=((A2 Int Report))) (cond (r19) (some (B9 x14 k15 (Report.mk v16.id v16.source v16.account v16.made x17 v16.kind x18 v16.of_))) (some x14)) ((fun x20=>some x20))))) (fnone:(A2 Int Report)) l21).bind fun x22=>AAg d.gone fun l31=>(List.foldlM (m:=Option) (s:=((A2 Int Report))) (α:=Int×Int) (fun x28 (k29,v30)=>some (AAE x28 k29)) x22 l31).bind fun x32=>AAg x32 fun l41=>(List.foldlM (m:=Option) (s:=((List Report))) (α:=Int×Report) (fun x37 (k38,v39)=>(appo 64 x37 ([v39])).bind fun l40=>some l40) ([]:List Report) l41).bind fun x42=>(F2 ([(107:Nat),(108:Nat)]) x42).bind fun (_,m43)=>some (m43,(m43.length:Int),0)
def AK8:An:=.nd .x (.nd (.lp ⟨[(.cont 14,.own (.mp 3 (.int .i64) (.st 1)))],[14]⟩ [] (.nd (.nd .x (.nd .x (.jn [.norm ⟨[(.cell 5 4,.d (.int .i64)),(.cell 5 6,.d (.int .i64))],[5,14]⟩] .x))) (.nd .x (.jn [.norm ⟨[(.cont 14,.own (.mp 3 (.int .i64) (.st 1)))],[14]⟩] .x)))) (.nd (.lp ⟨[(.cont 14,.own (.mp 3 (.int .i64) (.st 1)))],[14]⟩ [] .x) (.nd .x (.nd (.lp ⟨[(.slot 9,.own (.sl 45 (.st 1)))],[]⟩ [] .x) .x))))
def U0(l:List Report)(known:Int):Option ((List Report×Int)⊕(List Report×Int)):=(I5 l).bind fun r1=>cond ((!decide (r1=0))) (some (Sum.inr (([]:List Report),r1))) ((L7 (0:Int) (100000:Int) ([known])).bind fun r2=>cond ((!r2)) (some (Sum.inr (([]:List Report),(2:Int)))) (some (Sum.inl (l,known))))
def AMK:An:=.x
def H1(d:Desk):Option (A2 Int Report):=(B5 (S:=(Int×(A2 Int Report))) (R:=((A2 Int Report))) (fun (x10,x11)=>cond (decide (x10<(d.reports.length:Int))) ((ixo d.reports x10).bind fun y12=>Option.bind (α:=((A2 Int Report))) (cond (decide (y12.kind<=7)) (some (B9 x11 y12.id y12)) (some x11)) ((fun x13=>(chk .i64 (x10+1)).bind fun n14=>some (Sum.inl (n14,x13))))) (some (Sum.inr x11))) ((0:Int),(fnone:(A2 Int Report)))).bind ((fun x15=>some (x15)))
def anpre70:An:=.nd .x (.nd .x (.nd .x (.lp ⟨[(.slot 19,.d (.int .i64)),(.cont 13,.own (.mp 3 (.int .i64) (.st 1)))],[4,14,13,2,1]⟩ [.exit 0 ⟨[(.cont 13,.own (.mp 3 (.int .i64) (.st 1)))],[4,14,13,2,1]⟩] (.nd .x (.nd .x (.nd (.nd .x (.nd .x (.jn [.norm ⟨[(.cont 13,.own (.mp 3 (.int .i64) (.st 1)))],[4,14,13,2,1]⟩] .x))) .x))))))
end Go.Proofs.YtgioiejbphljoaaGreatDoor
namespace Go.Rx
open Go Go.Sx Go.RowKit
def N3:Nat->Code->Code
 |0,.seq a _=>a
 |n+1,.seq a b=>.seq a (N3 n b)
 |_,c=>c
def AJf:Nat->Code->Code
 |0,.seq _ b=>b
 |n+1,.seq _ b=>AJf n b
 |_,_=>.skip
def AK9:Nat->Code->Bool
 |0,.seq _ _=>true
 |n+1,.seq a b=>(match AA0 a (N3 n b) with
  |some _=>false
  |none=>true)&&AK9 n b
 |_,_=>false
section
variable[Trk][Sg][Sf]{P:Program}[Se P][Anch]{w0 w:World}{M:List Nat}{N:Nat}{Γ:Type}{pr:AS->Option Γ}{ds:List Deferred}
theorem ANT[Sl (P:=P)]{G:Gx}(W:GxOk P G)(c:Code)(an:An){Y:Type}{KN:AS->Option Y}{KR:Γ->Option Y}{σ:AS}{L:A5}{w:World}{z:Y}{A B:A3}{X:Nat->A3}{Z:List PanicEntry->A3}(h:exec G N pr c an KN (fun _ _=>none) KR σ=some z)(V:Holds (P:=P) w0 [] M σ L w)(hA:∀σ' L' w',KN σ'=some z->EnvS (D6 c++D4 an) L L'->Holds (P:=P) w0 [] M σ' L' w'->A ds L' w')(C:∀r σ' L' w',pr σ'=some r->KR r=some z->Holds (P:=P) w0 [] M σ' L' w'->B ds L' w'):CW P N c ds L w A B X Z:=
 AAW (n:=3) (AC8 (I7 W c an _ _ _ _ _ _ _ _ _ _ _ _ _ h V (fun σ1 L1 w1 E _ J I=>hA σ1 L1 w1 E J I) (fun i σ2 L2 w2 U=>by cases U) (fun r σ2 L2 w2 U D _ H=>C r σ2 L2 w2 U D H) PZ.no))
theorem ADD[Sl (P:=P)]{G:Gx}(E:GxOk P G):∀(n:Nat) (c:Code) (an:An) {Y:Type} {KN:AS->Option Y} {KR:Γ->Option Y} {σ:AS} {L:A5} {w:World} {z:Y} {A B:A3} {X:Nat->A3} {Z:List PanicEntry->A3},AK9 n c=true->X4 G N pr (N3 n c) an KN KR σ=some z->Holds (P:=P) w0 [] M σ L w ->
  (∀σ' L' w',KN σ'=some z->EnvS (wrE (N3 n c) an) L L'->Holds (P:=P) w0 [] M σ' L' w'->CW P N (AJf n c) ds L' w' A B X Z)->(∀r σ' L' w',pr σ'=some r->KR r=some z->Holds (P:=P) w0 [] M σ' L' w'->B ds L' w')->CW P N c ds L w A B X Z
 |0,.seq a b,an,Y,KN,KR,σ,L,w,z,A,B,X,Z,_,h,F,hA,D=>A6 (AG0 E a an h F hA D)
 |n+1,.seq a b,an,Y,KN,KR,σ,L,w,z,A,B,X,Z,H,h,F,hA,D=>by
  have H:((match AA0 a (N3 n b) with
   |some _=>false
   |none=>true)&&AK9 n b)=true:=H
  have h:(match AA0 a (N3 n b) with
   |some u=>mapM G N pr u an KN σ
   |none=>match ABt a with
    |true=>X4 G N pr a an.l (fun σ'=>X4 G N pr (N3 n b) an.r KN KR σ') KR σ
    |false=>exec G N pr a an.l (fun σ'=>X4 G N pr (N3 n b) an.r KN KR σ') (fun _ _=>none) KR σ)=some z:=h
  have C:wrE (.seq a (N3 n b)) an=(match (generalizing:=false) AA0 a (N3 n b) with
   |some u=>match (generalizing:=false) an with
    |.lp hd _ l=>C7 u.pre++(u.t::G0 u hd l)
    |_=>[]
   |none=>match (generalizing:=false) ABt a with
    |true=>wrE a an.l++wrE (N3 n b) an.r
    |false=>(D6 a++D4 an.l)++wrE (N3 n b) an.r):=rfl
  cases Q:AA0 a (N3 n b) with
  |some u=>rw[Q]at H;cases H
  |none=>
   rw[Q]at h C H
   simp only[Bool.true_and]at h C H
   cases T:ABt a with
   |true=>
    rw[T]at h C
    exact A6 (AG0 E a an.l h F (fun σ1 L1 w1 O W U=>ADD E n b an.r H O U (fun σ2 L2 w2 K V J=>hA σ2 L2 w2 K (by show EnvS (wrE (.seq a (N3 n b)) an) L L2;rw[C];exact(W.mono fun t I=>AYV _ I).trans (V.mono fun t I=>AYW _ I)) J) D) D)
   |false=>
    rw[T]at h C
    exact A6 (ANT E a an.l h F (fun σ1 L1 w1 O W U=>ADD E n b an.r H O U (fun σ2 L2 w2 K V J=>hA σ2 L2 w2 K (by show EnvS (wrE (.seq a (N3 n b)) an) L L2;rw[C];exact(W.mono fun t I=>AYV _ I).trans (V.mono fun t I=>AYW _ I)) J) D) D)
 |0,.skip,_,_,_,_,_,_,_,_,_,_,_,_,h,_,_,_,_|0,.region _ _ _,_,_,_,_,_,_,_,_,_,_,_,_,h,_,_,_,_|0,.cond _ _ _,_,_,_,_,_,_,_,_,_,_,_,_,h,_,_,_,_|0,.loop _,_,_,_,_,_,_,_,_,_,_,_,_,h,_,_,_,_|0,.exit _,_,_,_,_,_,_,_,_,_,_,_,_,h,_,_,_,_|0,.ret,_,_,_,_,_,_,_,_,_,_,_,_,h,_,_,_,_
 |0,.scope _,_,_,_,_,_,_,_,_,_,_,_,_,h,_,_,_,_|0,.label _,_,_,_,_,_,_,_,_,_,_,_,_,h,_,_,_,_|0,.goto _,_,_,_,_,_,_,_,_,_,_,_,_,h,_,_,_,_|0,.refuse _,_,_,_,_,_,_,_,_,_,_,_,_,h,_,_,_,_|0,.block _ _,_,_,_,_,_,_,_,_,_,_,_,_,h,_,_,_,_|0,.rangeFunc _ _ _ _,_,_,_,_,_,_,_,_,_,_,_,_,h,_,_,_,_
 |_+1,.skip,_,_,_,_,_,_,_,_,_,_,_,_,h,_,_,_,_|_+1,.region _ _ _,_,_,_,_,_,_,_,_,_,_,_,_,h,_,_,_,_|_+1,.cond _ _ _,_,_,_,_,_,_,_,_,_,_,_,_,h,_,_,_,_|_+1,.loop _,_,_,_,_,_,_,_,_,_,_,_,_,h,_,_,_,_|_+1,.exit _,_,_,_,_,_,_,_,_,_,_,_,_,h,_,_,_,_|_+1,.ret,_,_,_,_,_,_,_,_,_,_,_,_,h,_,_,_,_
 |_+1,.scope _,_,_,_,_,_,_,_,_,_,_,_,_,h,_,_,_,_|_+1,.label _,_,_,_,_,_,_,_,_,_,_,_,_,h,_,_,_,_|_+1,.goto _,_,_,_,_,_,_,_,_,_,_,_,_,h,_,_,_,_|_+1,.refuse _,_,_,_,_,_,_,_,_,_,_,_,_,h,_,_,_,_|_+1,.block _ _,_,_,_,_,_,_,_,_,_,_,_,_,h,_,_,_,_|_+1,.rangeFunc _ _ _ _,_,_,_,_,_,_,_,_,_,_,_,_,h,_,_,_,_=>by cases h
theorem Holds.packed[Sl (P:=P)]{sh:Sh}{σ:AS}{L:A5}{w:World}{x:N6 sh.cs}(h:Holds (P:=P) w0 [] M σ L w)(H:I3 sh σ=some x):Holds (P:=P) w0 [] M (C2 [] sh σ x) L w:=by
 obtain⟨S,ρ,γ,μ,ι,I⟩:=h;exact S9 I (Rel.refl _) H
end
theorem AOz[Trk][Sg][Sf]{P:Program}[Se P][Sl (P:=P)][Anch]{G:Gx}(W:GxOk P G){f:Func}{cs:List Ck}{M:List Nat}{w:World}{r:I1 cs}(J:Nat.ble cs.length 4=true){σ':AS}{L':A5}{w':World}(H:V2 G cs f.results.toList σ'=some r)(V:Holds (P:=P) w [] M σ' L' w'):AB7 P f (fun e w'=>∃vs,e=.returned (ACF vs)/\KsOk (P:=P) M (obK cs vs++M) w w' cs r vs/\Ext w w') [] L' w':=by
 obtain⟨S,ρ,γ,μ,ι,I⟩:=V;unfold V2 at H;cases hk:okK (Q5 G σ' cs f.results.toList) (ABl G σ' cs f.results.toList)&&npK cs (Q5 G σ' cs f.results.toList) with
 |false=>rw[hk]at H;exact(A1 H).elim
 |true=>
  rw[hk]at H
  simp only[Bool.and_eq_true]at hk
  obtain⟨vs,F,E,D,C⟩:=AF2 I W (mv:=Q5 G σ' cs f.results.toList) (AGz H) cs f.results.toList (fun _ h=>h) (AAV hk.1) hk.2 H
  refine P9 (by simp) F (by rw[E];exact J) ⟨vs,by rw[AEk],D _ (fun b U=>?_),?_⟩
  . exact(mem_append.1 U).elim (C b) fun h=>mem_mm.2 (.inr h)
  . exact I.hp.kp
end Go.Rx
namespace Go.Proofs.YtgioiejbphljoaaGreatDoor
open Go Go.Sx Go.Rx Go.RowKit
def ACJ(r:Report):List Value:=[.int .i64 r.id,.int .i64 r.source,.int .i64 r.account,.int .i64 r.made,.int .i64 r.about,.int .u8 r.kind,.int .i64 r.cents,.int .i64 r.of_]
def InR(r:Report):Prop:=InK .i64 r.id/\InK .i64 r.source/\InK .i64 r.account/\InK .i64 r.made/\InK .i64 r.about/\InK .u8 r.kind/\InK .i64 r.cents/\InK .i64 r.of_
noncomputable def AT6:Code:=match f105.body with
 |some c=>c
 |none=>.skip
def AWL:Sh:=⟨[(.slot 72,.own (.sl 45 (.st 1))),(.slot 73,.d (.int .i64)),(.slot 74,.d (.int .i64))],[]⟩
def ARA:Gx:={ gxb with fs:=[(72,ctr72),(107,ctr107),(108,ctr108)],fm:=[(106,ctrm106)] }
theorem AQN:GxOk prog ARA:=AHv ⟨⟨ok72,call72⟩,⟨ok107,call107⟩,⟨ok108,call108⟩,trivial⟩ trivial ⟨⟨okm106,call106⟩,trivial⟩
def M3(d:Desk_139):Option (List Report):=(Z1 d).bind fun x=>cond (decide (x.2.1=(x.1.length:Int))&&decide (x.2.2=0)) (some x.1) none
def DkOk(M:List Nat)(w:World)(v:Value)(d:Desk_139):Prop:=Ok (P:=prog) (fun _=>undef) (fun _=>none) M w (.rp (.str 14 d) 0) v
theorem AT7(d:Desk_139):X4 ARA 83 (fun _=>(none:Option Unit)) (N3 5 AT6) AK8 (I3 AWL) (fun _=>none) ⟨[(1,.rp (.str 14 d) 0)],[],[],[]⟩=Z1 d:=by kernel_rfl
theorem AHz{M:List Nat}{w:World}(hM:MLt M w)(F:GlOk (P:=prog) M w){vp:Value}{d:Desk_139}(hd:DkOk M w vp d){r0:List Report}(h:M3 d=some r0){b2:Nat}(W:b2<w.heap.size)(Y:∀g,gOf w b2=some g->g<w.heap.size){n lp:Nat}{J Jx:List Report->World->Prop}(hJ:AbidesFrom w.heap.size J)(hY:∀(pre:List Report) (x:Report) (W1:World),J pre W1->pre.length<r0.length->r0[pre.length]?=some x->YieldAt Fence.wide (n-1) prog lp #[.agg (ACJ x).toArray] W1 fun e W'=>(e=.returned (.bool true)/\J (pre++[x]) W'/\KB b2 W1 W')\/(e=.returned (.bool false)/\Jx (pre++[x]) W'))(h0:J [] w):
  Calls prog 105 (toArray [.func (.yield lp) #[] #[],vp]) w fun e W'=>(∃v,e=.returned v)/\((∃xs,xs=r0/\J xs W')\/(∃pre,pre <+: r0/\Jx pre W')):=by
 unfold M3 at h
 obtain⟨⟨r1,p,q⟩,hp,h⟩:=U2 h
 obtain⟨f,rfl,rfl⟩:r1=r0/\p=(r0.length:Int)/\q=0:=by
  cases H:(decide (p=(r1.length:Int))&&decide (q=0)) with
  |false=>rw[show(decide (p=(r1.length:Int))&&decide (q=0))=false from H]at h;cases h
  |true=>
   rw[show(decide (p=(r1.length:Int))&&decide (q=0))=true from H]at h
   have h:r1=r0:=AYS h
   simp only[Bool.and_eq_true,decide_eq_true_eq]at H
   subst h
   exact⟨rfl,H.1,H.2⟩
 subst f
 have h0':Holds (P:=prog) w [] M ⟨[(1,.rp (.str 14 d) 0)],[],[],[]⟩ [(0,.func (.yield lp) #[] #[]),(1,vp)] w:=by
  refine⟨[],fun _=>undef,fun _=>[],fun _=>[],fun _=>0,Hp.start hM,(fun i a h=>by cases h),(fun i j a b h=>by cases h),(fun i a h=>by cases h),fun t s R=>?_,trivial,F⟩;rw[fnd_cons]at R;split at R
  . rename_i e;subst e;cases R;exact⟨vp,rfl,hd⟩
  . cases R
 refine I0 (l:=[.func (.yield lp) #[] #[],vp]) (fn:=f105) func105 rfl rfl rfl ?_
 refine ADD (P:=prog) (pr:=fun _=>(none:Option Unit)) AQN 5 AT6 AK8 (by decide) ((AT7 d).trans hp) h0' (fun σ' L' w1 hK hE hH=>?_) (fun r _ _ _ T _ _=>by cases T)
 have hH2:=hH.packed hK
 clear hH hK
 obtain⟨S,ρ,γ,μ,ι,B⟩:=hH2
 obtain⟨v72,l72,e72,_⟩:=B.env 72 (.own 72) rfl
 obtain⟨v73,l73,e73,_⟩:=B.env 73 (.int .i64 (r1.length:Int)) rfl
 obtain⟨v74,l74,e74,_⟩:=B.env 74 (.int .i64 0) rfl
 subst e73 e74
 have l0:Sx.A4 L' 0=some (.func (.yield lp) #[] #[]):=hE 0 (by decide)
 have U:S[ι 72]?=some (ownR [] ReportE 45 v72 r1):=by rw[e72];exact B.res 72 _ rfl
 have K:Hp w [] M S w1:=B.hp
 have C:=K.freeze _ U
 have hge_:∀b∈ob v72,w.heap.size<=b:=fun b hb=>((K.own _ (AYU U)).2 b hb).resolve_left (fun h=>by cases h)
 refine G7 ?_
 have z:∀g,gOf w1 b2=some g->g<w.heap.size:=fun g F=>(KB.of_ext K.kp W).gof g F |>.elim (Y g) fun h=>by
  have h5:gOf w b2=some g:=by
   unfold gOf at F ⊢;rw[World.cell?_of_block (a:=⟨b2,0,none⟩) (w:=w) (K.kp.block b2 W (by simp))]at F;exact F
  exact Y g h5
 have hlen_:=RdS.inK C
 refine ASe (L:=[(74,_),(72,_),(73,_),(0,_)]) (Sub.cons l74 (Sub.cons l72 (Sub.cons l73 (Sub.cons l0 (Sub.nil _))))) ?_
 refine APM 1 (ι:=Nat) (fun i=>[(74,.int .i64 i)]) (fun i W_=>i<=r1.length/\J (r1.take i) W_/\KB b2 w1 W_) (fun i=>r1.length-i) 0 ⟨AY0 _,hJ _ _ _ none h0 (Ext.grownBy K.kp) (fun r T=>by cases T),KB.refl _ _⟩ (Sub.cons rfl (Sub.cons rfl (Sub.cons rfl (Sub.cons rfl (Sub.nil _))))) (fun i W_ hW_=>?_)
 obtain⟨hi,X,D⟩:=hW_
 refine A6 ?_
 refine A9 ?_
 refine AHE rfl rfl rfl ?_
 refine Reg.nil ?_
 refine A6 ?_
 refine AA1 rfl (fun H=>?_) (fun H=>?_)
 . have V:i<r1.length:=by have:=AYZ H;omega
   refine R7 ?_
   refine A6 ?_
   refine G7 ?_
   obtain⟨b,o,c,cs,hv,hbM,hbl,hR,hC⟩:=C.at i V
   obtain⟨rfl,r0_,r1_,r2_,r3_,r4_,r5_,r6_,r7_⟩:=ReportE_R.1 hR
   obtain⟨_,_,hs_,hle_,_⟩:=(C).shape
   rw[hv]at hs_
   cases hs_
   obtain⟨c9,rfl⟩:∃c9,c=c9+1:=⟨c-1,by omega⟩
   have hbw:w.heap.size<=b:=hge_ b (by rw[hv];simp[ob])
   have A:b≠b2:=by omega
   have hbg:gOf w1 b2≠some b:=fun e=>by have:=z b e;omega
   have hCi:Cells W_ b (o+i*8) (ACJ r1[i]):=fun j u m=>D.cell b _ u A hbg (hC j u m)
   refine A6 ?_
   refine A9 ?_
   refine Reg.val (.pointer (some ⟨b,o+i*8,none⟩)) rfl rfl rfl (fun a I w9 _=>?_) ?_
   . have hx:ev [(73,Value.int .i64 (r1.length:Int)),(0,Value.func (.func 0) #[] #[])] (.tmp 73)=some (.int .i64 (r1.length:Int)):=rfl
     have h1:=I.eval (x:=.tmp 72) (v:=v72) rfl
     have h2:=I.eval (x:=.tmp 74) (v:=.int .i64 (i:Int)) rfl
     rw[hv]at h1
     have h3:(i:Int)<(r1.length:Int):=by omega
     simp[execOp,h1,h2,Instr.indexAt,asIntOf,run_underlying underlying24,sizeOf45,add_none]
     intro h9_;exact absurd h9_ (by omega)
   refine ABF rfl hCi isAgg45 rfl sizeOf45 rfl ?_
   refine ASh zeroValue45 rfl rfl (fun bt w3 hbt ex3 hlt3 hRt=>?_)
   have G:Row 45 w3 bt [.int .i64 0,.int .i64 0,.int .i64 0,.int .i64 0,.int .i64 0,.int .u8 0,.int .i64 0,.int .i64 0]:=hRt
   refine APP rfl rfl rfl G sizeOf45 rfl rfl (D5 rfl (D5 rfl (D5 rfl (D5 rfl (D5 rfl (D5 rfl (D5 rfl (D5 rfl ACj)))))))) (fun w4 N k=>?_)
   have e24:Ext W_ w4:=ex3.tail k fun c H=>by
    have:c=bt:=by simpa using H
    omega
   refine Reg.nil ?_
   have Q:Row 45 w4 bt (ACJ r1[i]):=N
   have hJ4:J (r1.take i) w4:=hJ _ _ _ none X (Ext.grownBy e24) (fun r T=>by cases T)
   have hY4:=hY (r1.take i) r1[i] w4 hJ4 (by rw[AZX];omega) (by rw[AZX,Nat.min_eq_left (by omega)];exact AYd V)
   have O:r1.take (i+1)=r1.take i++[r1[i]]:=by rw[AaR,AYd V];rfl
   have hK4:KB b2 w1 w4:=D.trans (KB.of_ext e24 (AYn W (AYk K.kp.size D.size)))
   refine A6 ?_
   refine AIH n ?_
   refine Rgi.val (.func (.yield lp) #[] #[]) rfl rfl rfl rfl (fun a I=>by simp[execOp,I.eval (x:=.tmp 0) (v:=.func (.yield lp) #[] #[]) rfl]) ?_
   refine Rgi.val (.agg (ACJ r1[i]).toArray) rfl rfl rfl rfl (fun a I=>by
    have:=run_loadCells_list (P:=prog) w4 ⟨bt,0,none⟩ (ACJ r1[i]) (fun j v m=>by rw[add_none];exact Q.rd.cells j v m);have Z:=I.eval (x:=.tmp 13) (v:=.pointer (some ⟨bt,0,none⟩)) rfl;simp only[ACJ]at this ⊢;simp at this;simp[execOp,Z,Instr.loadAt,Instr.sureAddr,loadVar,isAgg45,sizeOf45,this]) ?_
   refine Rgi.yield rfl rfl rfl hY4 ?_
   rintro e w5 (⟨rfl,E,hK5⟩|⟨rfl,E⟩)
   . refine⟨_,rfl,?_⟩
     refine Rgi.val (.bool false) rfl rfl rfl rfl (fun a I=>by
      have Z:=I.eval (x:=.tmp 80) (v:=.bool true) rfl;simp[execOp,Z,Op.unary]) ?_
     refine Rgi.nil ?_
     refine ABa rfl ?_
     refine R7 ?_
     refine A9 ?_
     refine AQm (n:=((i+1:Nat):Int)) rfl rfl rfl ⟨by omega,by rw[InK.i64]at hlen_ ⊢;omega⟩ ?_
     refine K4 rfl rfl ?_
     refine Reg.nil ?_
     exact⟨rfl,i+1,⟨by omega,by rw[O];exact E,hK4.trans hK5⟩,Sub.cons rfl (Sub.cons rfl (Sub.cons rfl (Sub.cons rfl (Sub.nil _)))),by omega⟩
   . refine⟨_,rfl,?_⟩
     refine Rgi.val (.bool true) rfl rfl rfl rfl (fun a I=>by
      have Z:=I.eval (x:=.tmp 80) (v:=.bool false) rfl;simp[execOp,Z,Op.unary]) ?_
     refine Rgi.nil ?_
     refine ACk rfl ?_
     refine O6 ?_
     refine ASf results105 ?_
     exact⟨⟨_,rfl⟩,.inr ⟨_,List.take_prefix (i+1) _,by rw[O];exact E⟩⟩
 . have hge:¬(i:Int)<(r1.length:Int):=AYb H
   have y:i=r1.length:=by omega
   subst y
   refine ABZ ?_
   refine T8 ?_
   refine ASf results105 ?_
   exact⟨⟨_,rfl⟩,.inl ⟨_,rfl,by rwa [AYo]at X⟩⟩
variable{M:List Nat}{M':List Nat}{w:World}{w':World}{v:Value}{d:Desk_139}
theorem DkOk.adv(h:DkOk M w v d)(H:Adv M M' w w'):DkOk M' w' v d:=Ok.adv H _ h
def ItF(M:List Nat)(w:World)(v:Value)(d:Desk_139):Prop:=∃p,v=.func (.func 105) #[] [p].toArray/\DkOk M w p d
theorem ItF.adv(h:ItF M w v d)(H:Adv M M' w w'):ItF M' w' v d:=by
 obtain⟨p,J,I⟩:=h;exact⟨p,J,I.adv H⟩
abbrev AEm:={ r:Report // InR r }
theorem AML{a b:List AEm}(h:a.map Subtype.val=b.map Subtype.val):a=b:=(List.map_inj_right (fun _ _ h=>Subtype.ext h)).1 h
theorem ANU{F:Fence}{m:Nat}{P:Program}{l:Nat}{args:Array Value}{W:World}{R R':Ending->World->Prop}(h:YieldAt F m P l args W R)(H:∀e w,R e w->R' e w):YieldAt F m P l args W R':=by
 obtain⟨fn,tmps,assign,body,J,I⟩:=h;exact⟨fn,tmps,assign,body,J,I.mono H⟩
theorem ALe(n:Nat)(Z:MLt M w)(K:GlOk (P:=prog) M w)(O:ItF M w v d){l:List AEm}(h:M3 d=some (l.map Subtype.val)){b2:Nat}(I:b2<w.heap.size)(F:∀g,gOf w b2=some g->g<w.heap.size):
  ∃lb,v=.func (.func 105) #[] lb/\SeqStopsK Fence.wide n prog 105 lb (fun r:AEm=>#[.agg (ACJ r.1).toArray]) (KB b2) (fun ys=>ys=l) (fun pre=>pre <+: l) l.length w:=by
 obtain⟨p,rfl,O⟩:=O
 refine⟨_,rfl,fun lp J Jx W X R _ G L=>?_⟩
 have U:Ext w W:=ACC X (fun h=>h)
 have hA:Adv M M w W:=Adv.of_ext U
 have E:∀g,gOf W b2=some g->g<W.heap.size:=fun g C=>by
  rcases (KB.of_ext U I).gof g C with D|D
  . exact AYn (F g D) U.size
  . have N:gOf w b2=some g:=by
     unfold gOf at C ⊢;rw[World.cell?_of_block (a:=⟨b2,0,none⟩) (w:=w) (U.block b2 I (by simp))]at C;exact C
    exact AYn (F g N) U.size
 refine callsIn_wide.2 ((AHz (Z.ext U) (K.adv hA) (DkOk.adv O hA) h (AYn I U.size) E (n:=n) (lp:=lp)
  (J:=fun pre W=>∃pre':List AEm,pre'.map Subtype.val=pre/\J pre' W) (Jx:=fun pre W=>∃pre':List AEm,pre'.map Subtype.val=pre/\Jx pre' W) ?_ ?_ ⟨[],rfl,L⟩).mono ?_)
 . rintro s W1 W2 row ⟨pre',D,V⟩ C A
   exact⟨pre',D,R _ _ _ row V C A⟩
 . rintro pre x W1 ⟨pre',rfl,V⟩ H hx
   rw[AY1]at H
   rw[AY1]at hx
   rw[AY7]at hx
   obtain⟨x',T,rfl⟩:=Option.map_eq_some_iff.1 hx
   refine ANU (G pre' x' W1 V (by rw[AY1]at H;exact H)) ?_
   rintro e W' (⟨rfl,Q,S⟩|⟨rfl,Q⟩)
   . exact .inl ⟨rfl,⟨_,by simp,Q⟩,S⟩
   . exact .inr ⟨rfl,_,by simp,Q⟩
 . rintro e W' ⟨hv,⟨xs,rfl,pre',D,V⟩|⟨pre,B,pre',rfl,V⟩⟩
   . exact⟨hv,.inl ⟨_,AML D,V⟩⟩
   . refine⟨hv,.inr ⟨pre',?_,V⟩⟩
     obtain⟨t,Y⟩:=B
     refine⟨l.drop pre'.length,AML ?_⟩
     rw[AYp,List.map_drop,<-Y]
     simp
theorem ARB:AJ5 ReportE:=fun h=>ReportE_R.2 (ReportE_R.1 h)
def AlR(M:List Nat)(b2:Nat)(x:AEm)(L:Sx.A5)(W:World):Prop:=∃b5 u,Sub [(2,.pointer (some ⟨b2,0,none⟩)),(5,.pointer (some ⟨b5,0,none⟩))] L/\Row 45 W b5 (ACJ x.1)/\Row 24 W b2 [u]/\b5∉ob u/\b5≠b2/\b5∉M
theorem AFV(hM:MLt M w)(n:GlOk (P:=prog) M w)(hf:ItF M w v d){l:List AEm}(h:M3 d=some (l.map Subtype.val))(hl:l.length*64<=140737488355328):
  Calls prog 102 (toArray [.slice none 0 0,v]) w fun e w'=>∃v':Value,e=.returned v'/\(Sx.Own ReportE 45 0 M w' v' (l.map Subtype.val)/\∀b∈ob v',w.heap.size<=b)/\Ext w w':=by
 refine AFD func102 rfl ntmps102 rfl ?_
 have hI:=Hp.start (Mu:=[]) hM
 refine A6 ?_
 refine A9 ?_
 refine AAQ hI rfl rfl rfl ?_
 intro b2 w2 O x2
 refine H2 rfl rfl ?_
 refine Reg.nil ?_
 refine A6 ?_
 refine A6 ?_
 refine A9 ?_
 refine K4 rfl rfl ?_
 refine Reg.nil ?_
 have I:Hp w [] M (F5 ReportE 45 24 b2 (.slice none 0 0) []) w2:=O.addNil ReportE 45
 have s:b2<w2.heap.size:=I.mlt b2 (by simp[mm,rowR])
 have m:gOf w2 b2=none:=by rw[I.gof];rfl
 obtain⟨lb,hv,X⟩:=ALe 2 O.mlt (n.adv O.adv) (hf.adv O.adv) h s (fun g G=>by rw[m]at G;cases G)
 subst hv
 refine G7 ?_
 refine AN9 (val:=fun r:AEm=>.agg (ACJ r.1).toArray) (K:=KB b2) (xs:=l) rfl call105 rfl X (fun h k=>h.trans k) (fun W lp o o' hlp ho q _=>KB.putObj ho q (by omega))
  (fun pre W=>∃v',Hp w [] M (F5 ReportE 45 24 b2 v' (pre.map Subtype.val)) W/\w2.heap.size<=W.heap.size/\pre.length<=l.length) (fun _ _=>False) ?_ (fun _ _ _ _ h _ _=>h.elim) ⟨_,I,AYh _,AY0 _⟩ (AlR M b2) ?_ ?_ ?_ ?_ (fun _ _ _ _ _ h _=>h.elim)
 . rintro pre W W' row ⟨v',U,Q,A⟩ G L
   exact⟨v',U.turnG ARB (fun h=>h) G (fun r e=>⟨AYk I.kp.size (L r e).1,(L r e).2⟩),AYk Q G.size,A⟩
 . rintro x L' _ W W' row ⟨b5,u,U,Q,A,h4,h5,h6⟩ G L
   have Z:∀(b:Nat) (o:Obj),W.heap[b]?=some o->o.isCells=true->W'.heap[b]?=W.heap[b]?:=fun b o F q=>G.block b (J6 F) fun e=>by
    obtain⟨_,o',g1,g2⟩:=L b e.symm;rw[F]at g1;cases g1;rw[q]at g2;cases g2
   exact⟨b5,u,U,(Z b5 _ Q rfl).trans Q,(Z b2 _ A rfl).trans A,h4,h5,h6⟩
 . rintro l' pre x W ⟨v',U,Q,A⟩
   refine ABK rfl ?_
   refine ACn U zeroValue45 rfl rfl ?_
   intro b5 w5 z x5
   refine ABd 0 z rfl rfl rfl rfl sizeOf45 rfl rfl (D5 rfl (D5 rfl (D5 rfl (D5 rfl (D5 rfl (D5 rfl (D5 rfl (D5 rfl ACj)))))))) ?_
   intro w6 y x6
   have H:Hp w [] M (rowR 45 b5 (ACJ x.1)::F5 ReportE 45 24 b2 v' (pre.map Subtype.val)) w6:=y
   have N:Hp w [] M (F5 ReportE 45 24 b2 v' (pre.map Subtype.val)) w6:=H.erase 0
   have hA:Adv (mm (F5 ReportE 45 24 b2 v' (pre.map Subtype.val)) M) (mm (F5 ReportE 45 24 b2 v' (pre.map Subtype.val)) M) W w6:=x5.trans (x6.trans (G2 (σ:=rowR 45 b5 (ACJ x.1)::F5 ReportE 45 24 b2 v' (pre.map Subtype.val)) 0))
   obtain⟨B,V⟩:=U.kb N hA
   refine Reg.nil ⟨rfl,⟨V.size,fun k o hB=>V.same k o (AYk I.kp.size hB)⟩,B,⟨v',N,AYk Q hA.kp.size,A⟩,b5,v',Sub.cons rfl (Sub.cons rfl (Sub.nil _)),H.row 0 rfl,H.row 2 rfl,?_,?_,?_⟩
   . intro F
     exact H.dis 0 1 _ _ rfl rfl (by omega) b5 (by simp[rowR]) F
   . intro F
     exact H.dis 0 2 _ _ rfl rfl (by omega) b5 (by simp[rowR]) (by simp[rowR,F])
   . exact H.sepM _ (AYX ..) b5 (by simp[rowR])
 . rintro l' pre x L' W ⟨v',U,Q,A⟩ ⟨b5,u,hs,i,f,h5u,h52,h5M⟩ hlt
   have c:u=v':=by
    have e1:W.heap[b2]?=_:=f;have e2:W.heap[b2]?=_:=U.row 1 rfl;rw[e1]at e2;have:=AYS e2;injection this with J;simpa using J
   subst c
   refine ASu hs ?_
   refine AEQ ?_
   have hC5:RdC (mm (F5 ReportE 45 24 b2 u (pre.map Subtype.val)) M) W b5 0 (ACJ x.1):=H3 (fun F=>by
    simp only[mm,ownR,rowR,mem_append,mem_cons,List.not_mem_nil,or_false]at F;rcases F with J|J|J
    . exact h5u J
    . exact h52 J
    . exact h5M J) i
   obtain⟨q0,q1,q2,q3,q4,q5,q6,q7⟩:=x.2
   refine ABK rfl ?_
   refine W7 rfl ((U.row 1 rfl).rd.cells.at 0 rfl) isAgg24 rfl ?_
   refine ABF rfl hC5.cells isAgg45 rfl sizeOf45 rfl ?_
   refine AMl (E:=ReportE) (xs:=[x.1]) ATx U rfl rfl (Cls.cons rfl Cls.nil) (Chs.cons (ReportE_R.2 ⟨rfl,q0,q1,q2,q3,q4,q5,q6,q7⟩) Chs.nil) rfl rfl ?_
   intro v8 w8 R x8
   have p:=R.freeze 0 rfl
   have t:=R.erase 0
   have hlen:(pre.map Subtype.val).length+[x.1].length<=l.length:=by simp;omega
   refine AHK 0 ATx t rfl rfl rfl p ⟨?_,?_⟩ rfl ?_
   . omega
   . omega
   intro v10 w10 C x10
   refine ABd 1 C rfl rfl rfl (Own.cells1 (C.ownAt 0 rfl)) sizeOf24 rfl rfl (D5 (Own.oneC (C.ownAt 0 rfl)) ACj) ?_
   intro w11 S x11
   have Y:Hp w [] M (F5 ReportE 45 24 b2 v10 ((pre++[x]).map Subtype.val)) w11:=by
    have J:(pre++[x]).map Subtype.val=pre.map Subtype.val++[x.1]:=by simp
    rw[J];exact S
   have hA:Adv (mm (F5 ReportE 45 24 b2 u (pre.map Subtype.val)) M) (mm (F5 ReportE 45 24 b2 v10 ((pre++[x]).map Subtype.val)) M) W w11:=by
    have J:(pre++[x]).map Subtype.val=pre.map Subtype.val++[x.1]:=by simp
    rw[J];exact x8.trans ((G2 (σ:=ownR [] ReportE 45 v8 [x.1]::F5 ReportE 45 24 b2 u (pre.map Subtype.val)) 0).trans (x10.trans x11))
   obtain⟨B,V⟩:=U.kb Y hA
   exact Reg.nil ⟨⟨V.size,fun k o hB=>V.same k o (AYk I.kp.size hB)⟩,B,v10,Y,AYk Q hA.kp.size,by simp;omega⟩
 . rintro D W hD ⟨v',U,Q,A⟩ T
   refine A6 ?_
   refine A9 ?_
   refine W7 rfl ((U.row 1 rfl).rd.cells.at 0 rfl) isAgg24 rfl ?_
   refine H2 rfl rfl ?_
   refine Reg.nil ?_
   refine O6 ?_
   have J:=U.turnG ARB (fun h=>h) (grownBy_putObj' W D (.deferred none)) fun j e=>by cases e;exact⟨AYk I.kp.size hD,_,T,rfl⟩
   refine .inr ⟨D,_,rfl,run_takeDeferred T,v',fun a ha=>?_,v',rfl,J.ownOut 0 rfl,J.kp⟩
   rw[results_tmp results102,ha.getD rfl]
theorem AEn{M:List Nat}{w:World}(J:MLt M w){d:Desk_139}{v:Value}(hd:OkD (P:=prog) M w (.st 14) d v):
  Calls prog 69 (toArray [v]) w fun e w'=>∃v0:Value,e=.returned v0/\ItF M w' v0 d/\Ext w w':=by
 have U:=Hp.start (Mu:=[]) J
 have I:=hd
 obtain⟨cs,W,V⟩:=hd
 obtain rfl:v=.agg (toArray cs):=V.elim (fun h=>h.2) fun h=>by cases h.1
 refine I0 (l:=[_]) (fn:=f69) func69 rfl ntmps69 rfl ?_
 refine A6 ?_
 refine A9 ?_
 refine AAQ U rfl rfl rfl ?_
 intro b w2 H x2
 refine H2 rfl rfl ?_
 refine Reg.nil ?_
 refine A6 ?_
 refine A9 ?_
 refine AEJ rfl rfl ?_
 refine H2 rfl rfl ?_
 refine Reg.nil ?_
 refine O6 ?_
 refine fin1 results69 rfl ?_
 exact⟨_,rfl,⟨.pointer (some ⟨b,0,none⟩),rfl,b,0,_,_,rfl,(H.freezeRow 0 rfl).adv (Adv.refl _ _),OkD.adv I (Adv.of_ext H.kp),rfl⟩,H.kp⟩
open Classical in
def F8(d:Desk_139):Option (List Report):=(M3 d).bind fun l=>if l.length*64<=140737488355328/\∀r∈l,InR r then some l else none
theorem AG3{M:List Nat}{w:World}(W:MLt M w)(U:GlOk (P:=prog) M w){d:Desk_139}{v:Value}(V:ItF M w v d){r0:List Report}(h:F8 d=some r0):
  Calls prog 67 (toArray [v]) w fun e w'=>∃v0_0:Value,e=.returned (v0_0)/\(Sx.Own ReportE 45 0 M w' v0_0 r0/\∀b∈ob v0_0,w.heap.size<=b)/\Ext w w':=by
 unfold F8 at h
 obtain⟨l,hl,h⟩:=U2 h
 split at h
 . rename_i J
   obtain rfl:=AYS h
   obtain⟨xs,H⟩:∃xs:List AEm,xs.map Subtype.val=l:=⟨l.attach.map fun r=>⟨r.1,J.2 r.1 r.2⟩,by rw[AY3];exact AY8 l⟩
   refine I0 func67 rfl ntmps67 rfl ?_
   refine A6 ?_
   refine A9 ?_
   refine H2 rfl rfl ?_
   refine Reg.nil ?_
   refine A6 ?_
   refine A9 ?_
   refine K4 rfl rfl ?_
   refine AAC rfl call102 rfl ?_
   refine(AFV W U V (l:=xs) (by rw[H];exact hl) (by have:=AYe List.length H;rw[AY1]at this;rw[this];exact J.1)).mono ?_
   rintro _ w2 ⟨v,rfl,I,hx⟩
   refine⟨_,rfl,?_⟩
   refine H2 rfl rfl ?_
   refine Reg.nil ?_
   refine O6 ?_
   refine fin1 results67 rfl ?_
   rw[H]at I
   exact⟨_,rfl,I,hx⟩
 . cases h
noncomputable def c29:Code:=match Tryz.f29.body with
 |some c=>c
 |none=>.skip
def AT8:Sh:=⟨[(.slot 0,.d (.sl (.st 1))),(.slot 1,.d (.int .i64))],[]⟩
def ANV:Gx:={ gxb with fs:=[(65,ctr65),(66,ctr66)] }
theorem AMM:GxOk prog ANV:=A8 ⟨⟨ok65,call65⟩,⟨ok66,call66⟩,trivial⟩
def J9(l:List Report)(known:Int):Option (List Report×Int):=(U0 l known).bind fun x=>Sum.elim (fun y=>(V5 y.1 y.2).bind fun d=>(F8 d).bind fun r=>some ((r,(0:Int)):List Report×Int)) (fun r=>some r) x
def cs29:List Ck:=[.own (.sl 45 (.st 1)),.d (.int .i64)]
theorem AWM(l:List Report)(known:Int):X4 ANV 21 (V2 ANV cs29 Tryz.f29.results.toList) (N3 2 c29) AMK (fun σ=>match I3 AT8 σ with
 |some x=>some (Sum.inl x)
 |none=>none) (fun r=>some (Sum.inr r)) ⟨[(0,.dat (.sl (.st 1)) l),(1,.int .i64 known)],[],[],[]⟩=U0 l known:=by kernel_rfl
def ctr29:Ctr:=⟨[.d (.sl (.st 1)),.d (.int .i64)],cs29,fun a=>J9 a.1 a.2.1⟩
theorem ok29:Ctr.ok prog 29 ctr29:=by
 refine⟨by decide,fun M w a vals r G A B H=>?_⟩;obtain⟨l,known,_⟩:=a;obtain⟨vl,_,rfl,I,vk,_,rfl,J,rfl⟩:=B;have H:J9 l known=some r:=H;unfold J9 at H;obtain⟨z,T,H⟩:=U2 H;have I:OkD (P:=prog) M w (.sl (.st 1)) l vl:=I;have J:OkD (P:=prog) M w (.int .i64) known vk:=J;have N:Holds (P:=prog) w [] M ⟨[(0,.dat (.sl (.st 1)) l),(1,.int .i64 known)],[],[],[]⟩ [(0,vl),(1,vk)] w:=by
  refine⟨[],fun _=>undef,fun _=>[],fun _=>[],fun _=>0,Hp.start G,(fun i a h=>by cases h),(fun i j a b h=>by cases h),(fun i a h=>by cases h),fun t s U=>?_,trivial,A⟩;rw[fnd_cons]at U;split at U
  . rename_i e;subst e;cases U;exact⟨vl,rfl,rfl,I⟩
  rw[fnd_cons]at U;split at U
  . rename_i e;subst e;cases U;exact⟨vk,rfl,E5 (.int .i64) J⟩
  . cases U
 refine I0 (l:=[vl,vk]) (fn:=Tryz.f29) func29 rfl rfl rfl ?_;refine ADD (P:=prog) (pr:=V2 ANV cs29 Tryz.f29.results.toList) AMM 2 c29 AMK (by decide) ((AWM l known).trans T) N (fun σ' L' w1 hK L O=>?_) (fun r' σ' L' w' Y hk O=>?_)
 . cases V:I3 AT8 σ' with
   |none=>rw[V]at hK;cases hK
   |some x=>
   rw[V]at hK;cases hK
   obtain⟨l,known⟩:=x;have K:=O.packed V;obtain⟨S,ρ,γ,μ,ι,C⟩:=K;obtain⟨v0,l0,e0⟩:=C.env 0 (.dat (.sl (.st 1)) l) rfl;obtain⟨v1,l1,rfl,e1⟩:=C.env 1 (.int .i64 known) rfl;have H:((V5 l known).bind fun d=>(F8 d).bind fun r=>some ((r,(0:Int)):List Report×Int))=some r:=H;obtain⟨d,hd,H⟩:=U2 H;obtain⟨r1,E,H⟩:=U2 H;cases H
   have W:MLt (mm S M) w1:=C.hp.mlt;have D:GlOk (P:=prog) (mm S M) w1:=C.anch.2;refine A6 ?_;refine A9 ?_;refine K4 l0 rfl ?_;refine K4 (v:=.int .i64 known) (by show Sx.A4 ((16,v0)::L') 1=some (.int .i64 known);rw[look_cons,if_neg (by decide)];exact l1) rfl ?_;refine AAC rfl call68 rfl ?_;refine(ok68.2 (mm S M) w1 (l,known,()) [v0,.int .i64 known] d W D ⟨v0,_,rfl,e0.2,_,[],rfl,⟨[_],⟨rfl,e1⟩,.inr ⟨rfl,rfl⟩⟩,rfl⟩ hd).mono ?_;rintro _ w2 ⟨_,rfl,⟨v2,rfl,Q⟩,x2⟩;refine⟨_,rfl,?_⟩;have Q:OkD (P:=prog) (mm S M) w2 (.st 14) d v2:=Q;refine AAC rfl call69 rfl ?_;refine(AEn (W.ext x2) Q).mono ?_;rintro _ w3 ⟨v3,rfl,R,x3⟩;refine⟨_,rfl,?_⟩;refine AAC rfl call67 rfl ?_;refine(AG3 ((W.ext x2).ext x3) ((D.adv (Adv.of_ext x2)).adv (Adv.of_ext x3)) R E).mono ?_;rintro _ w4 ⟨v4,rfl,⟨Z,X⟩,x4⟩;refine⟨_,rfl,?_⟩;refine H2 rfl rfl ?_;refine H2 rfl rfl ?_;refine Reg.nil ?_;refine O6 ?_;refine fin2 results29 rfl rfl ?_;refine⟨[v4,.int .i64 0],rfl,⟨v4,_,rfl,⟨trivial,Z.mon fun b F=>(mem_append.1 F).imp id fun h=>mem_mm.2 (.inr h),fun b F=>?_⟩,_,rfl,[.int .i64 0],⟨rfl,(by decide:InK .i64 0)⟩,.inr ⟨rfl,rfl⟩⟩,?_⟩
   . exact AYk C.hp.kp.size (AYk x2.size (AYk x3.size (X b F)))
   . exact((C.hp.kp.trans x2).trans x3).trans x4
 . have hk:Sum.inr r'=z:=AYS hk;subst hk;have H:some r'=some r:=H;cases H
   exact AOz AMM (by decide) Y O
end Go.Proofs.YtgioiejbphljoaaGreatDoor
namespace Go.Rx
open Go Go.Sx Go.RowKit
section
variable[Trk][Sg][Sf]{P:Program}[Se P][Anch]{w0 w:World}{Mu M:List Nat}{L:A5}{G:Gx}{N:Nat}{ds:List Deferred}{A B:A3}{X:Nat->A3}{Z:List PanicEntry->A3}
def AllE(env:List (Nat×SV)):List (Nat×SV)->Prop
 |[]=>True
 |p::l=>A0 env p.1=some p.2/\AllE env l
variable{env:List (Nat×SV)}{t:Nat}{id:Nat}{ops:List Oper}{σ:AS}{σ':AS}
theorem AllE.out{s:SV}:∀{l:List (Nat×SV)},AllE env l->A0 l t=some s->A0 env t=some s
 |[],_,h=>by cases h
 |(k,u)::l,⟨I,H⟩,h=>by
  rw[fnd_cons]at h;split at h
  . rename_i e;subst e;cases h;exact I
  . exact AllE.out H h
theorem Holds.fewer{env env':List (Nat×SV)}{res:List (Nat×AR)}{kl kl':List Nat}{ch ch':List (Nat×Nat)}(h:Holds (P:=P) w0 Mu M ⟨env,res,kl,ch⟩ L w)(J:AllE env env'):Holds (P:=P) w0 Mu M ⟨env',res,kl',ch'⟩ L w:=by
 obtain⟨S,ρ,γ,μ,ι,H⟩:=h;exact⟨S,ρ,γ,μ,ι,H.hp,H.res,H.inj,H.row,fun t s I=>H.env t s (J.out I),H.anch⟩
theorem AFW[Sl (P:=P)](U:GxOk P G)(h:E3 G N ops some ops σ=some σ')(J:Holds (P:=P) w0 Mu M σ L w)(hA:∀L' w',EnvS (C7 ops) L L'->Holds (P:=P) w0 Mu M σ' L' w'->A ds L' w'):CW P N (.region id (toArray ops) false) ds L w A B X Z:=
 A9 (V9 U ops σ L w h (fun _ I=>I) J fun σ1 L1 w1 W _ V H=>by cases W;exact hA L1 w1 V H)
theorem Holds.slotB{b:Bool}(h:Holds (P:=P) w0 Mu M σ L w)(I:A0 σ.env t=some (.bool b)):Sx.A4 L t=some (.bool b):=by
 obtain⟨S,ρ,γ,μ,ι,J⟩:=h;obtain⟨v,U,H⟩:=J.env t _ I;have H:v=.bool b:=H;subst H;exact U
theorem ANW[Sl (P:=P)](J:GxOk P G){Y:Type}{o:Option Y}{x:Y}{K:Y->Option AS}(H:o=some x)(h:E3 G N ops some ops σ=Option.bind o K)(hk:K x=some σ')(I:Holds (P:=P) w0 Mu M σ L w)(hA:∀L' w',EnvS (C7 ops) L L'->Holds (P:=P) w0 Mu M σ' L' w'->A ds L' w'):CW P N (.region id (toArray ops) false) ds L w A B X Z:=
 AFW J (by rw[h,H];exact hk) I hA
end
section
variable[Trk][Sg][Sf]{P:Program}[Se P][Anch]{w0 w:World}{Mu M:List Nat}{σ:AS}{L:A5}{S:List Res}{ρ:Nat->Value}{γ:Nat->List Value}{μ:Nat->List Nat}{ι:Nat->Nat}{G:Gx}{N:Nat}{ds:List Deferred}{A B:A3}{X:Nat->A3}{Z:List PanicEntry->A3}
theorem Holds.res{env:List (Nat×SV)}{res res':List (Nat×AR)}{kl kl':List Nat}{ch ch':List (Nat×Nat)}(h:Holds (P:=P) w0 Mu M ⟨env,res,kl,ch⟩ L w)(I:∀j,A0 res' j=A0 res j):Holds (P:=P) w0 Mu M ⟨env,res',kl',ch'⟩ L w:=by
 obtain⟨S,ρ,γ,μ,ι,H⟩:=h;have e:A0 res'=A0 res:=funext I;refine⟨S,ρ,γ,μ,ι,H.hp,fun i a h=>H.res i a ((I i).symm.trans h),fun i j a b U J=>H.inj i j a b ((I i).symm.trans U) ((I j).symm.trans J),fun i a h=>?_,fun t s V=>?_,H.anch⟩
 . have:=H.row i a ((I i).symm.trans h);show RowOk ρ (A0 res') _ _ _ _ _;rw[e];exact this
 . obtain⟨v,U,J⟩:=H.env t s V;refine⟨v,U,?_⟩;show Ok ρ (A0 res') _ _ _ _;rw[e];exact J
end
section
variable[Trk][Sg][Sf]{P:Program}[Se P]
theorem Holds.start[Anch]{M:List Nat}{w:World}{env:List (Nat×SV)}{L:A5}(H:MLt M w)(I:∀t s,A0 env t=some s->∃v,Sx.A4 L t=some v/\Ok (P:=P) (fun _=>undef) (fun _=>none) M w s v)(hA:AnOk M w):Holds (P:=P) w [] M ⟨env,[],[],[]⟩ L w:=
 ⟨[],fun _=>undef,fun _=>[],fun _=>[],fun _=>0,Hp.start H,(fun i a h=>by cases h),(fun i j a b h=>by cases h),(fun i a h=>by cases h),I,hA⟩
theorem Holds.ends[Anch]{M:List Nat}{w w':World}{Mu:List Nat}{σ:AS}{L:A5}(h:Holds (P:=P) w Mu M σ L w'):Kp Mu w w':=by
 obtain⟨S,ρ,γ,μ,ι,H⟩:=h;exact H.hp.kp
end
variable{P:Program}
theorem AH0[Trk][Sg][Sf][Se P][Sl (P:=P)][Anch]{w0 w:World}{Mu M:List Nat}{L:A5}{G:Gx}{N:Nat}{ds:List Deferred}{A B:A3}{X:Nat->A3}{Z:List PanicEntry->A3}{id:Nat}{ops:List Oper}{σ σ':AS}{Y:Type}{o:Option Y}{x:Y}{K:Y->Option AS}(J:GxOk P G)(I:Holds (P:=P) w0 Mu M σ L w)(H:o=some x)(h:E3 G N ops some ops σ=Option.bind o K)(hk:K x=some σ')(hA:∀L' w',EnvS (C7 ops) L L'->Holds (P:=P) w0 Mu M σ' L' w'->A ds L' w'):CW P N (.region id (toArray ops) false) ds L w A B X Z:=
 ANW J H h hk I hA
theorem ANX[Trk][Sg][Sf][Se P][Anch]{w0 w:World}{Mu M:List Nat}{L:A5}{σ:AS}{env':List (Nat×SV)}{res':List (Nat×AR)}(h:Holds (P:=P) w0 Mu M σ L w)(I:AllE σ.env env')(H:∀j,A0 res' j=A0 σ.res j)(kl':List Nat:=[])(ch':List (Nat×Nat):=[]):Holds (P:=P) w0 Mu M ⟨env',res',kl',ch'⟩ L w:=by
 obtain⟨e,r,kl,ch⟩:=σ;exact Holds.res (kl:=kl') (ch:=ch') (h.fewer I) H
end Go.Rx
namespace Go.Sx
open Go Go.RowKit
variable[Trk]{n:Nat}{P:Program}{N:Nat}{ops:Array Oper}{rest:List Oper}{ds:List Deferred}{L:A5}{w:World}{A B:A3}{X:Nat->A3}{Z:List PanicEntry->A3}{d:Nat}{op:Op}{after:Array Edge}{j:Nat}{t:Nat}{b:Bool}
theorem AH1{f x y:Operand}{l d:Nat}{v u:Value}{ts:Array TypeId}{ty:TypeId}{pos:String}{af:Array Edge}{R:Ending->World->Prop}(W:ev L f=some (.func (.yield l) #[] #[]))(hx:ev L x=some v)(hy:ev L y=some u)(hN:blt d N=true)(D:YieldAt Fence.wide (n-1) P l #[v,u] w R)(h:∀e w',R e w'->∃q,e=.returned q/\Rgi n P N ops rest ds ((d,q)::L) w' A B X Z):
  Rgi n P N ops (⟨some d,.call ⟨.value f,#[x,y],ts⟩,ty,pos,af,none⟩::rest) ds L w A B X Z:=fun a J=>by
 obtain⟨fn,tmps,assign,body,U,E⟩:=D
 unfold wpListIn
 rw[AYf (by rfl)]
 refine⟨fun _ _=>trivial,?_⟩
 have V:∀o:Oper,J7 o.op=true->Oper.semAt Fence.wide.round a.eval o=execOp a.eval o:=fun o I=>Oper.semAt_eq _ _ _ fun c C=>by rw[C]at I;simp[J7]at I
 rw[V _ rfl]
 have H:(execOp a.eval ⟨some d,.call ⟨.value f,#[x,y],ts⟩,ty,pos,af,none⟩).run P w=.ok (.round l fn tmps assign body) w:=by
  simp[execOp,resolve,J.eval W,J.eval hx,J.eval hy,Deferred.ofValue,invoke,U]
 rw[H]
 refine⟨fun e=>(by cases e),E.mono fun e w' K=>?_⟩
 obtain⟨q,rfl,F⟩:=h e w' K
 exact F _ (J.put hN q)
theorem Rgi.take{d:Option Tmp}{ty:TypeId}{pos:String}(J:(ops[j]?).bind (·.dst)=some t)(I:A4 L t=some (.bool b))(h:Rgi n P N ops (⟨d,op,ty,pos,after,none⟩::rest) ds L w A B X Z):Rgi n P N ops (⟨d,op,ty,pos,after,some (j,b)⟩::rest) ds L w A B X Z:=fun a H=>by
 have:=h a H;have e:Region.wanted (⟨d,op,ty,pos,after,some (j,b)⟩:Oper) (yielded ops a.tmps)=true:=by simp only[Region.wanted,W6 H J I,BEq.rfl]
 have e0:Region.wanted (⟨d,op,ty,pos,after,none⟩:Oper) (yielded ops a.tmps)=true:=rfl;unfold wpListIn at this ⊢;rw[AYf e0]at this;rw[AYf e];exact this
theorem Rgi.pass{ty:TypeId}{pos:String}{b b':Bool}(hN:blt d N=true)(U:(ops[j]?).bind (·.dst)=some t)(J:A4 L t=some (.bool b'))(V:(b'==b)=false)(h:Rgi n P N ops rest ds ((d,undef)::L) w A B X Z):Rgi n P N ops (⟨some d,op,ty,pos,after,some (j,b)⟩::rest) ds L w A B X Z:=fun a H=>by
 have I:Region.wanted (⟨some d,op,ty,pos,after,some (j,b)⟩:Oper) (yielded ops a.tmps)=false:=by
  simp only[Region.wanted,W6 H U J];simpa using V
 unfold wpListIn;rw[if_neg (by rw[I];decide)];exact⟨fun _ _=>trivial,h _ (H.put hN _)⟩
end Go.Sx
namespace Go.Rx
open Go Go.Sx Go.RowKit
variable[Trk][Sg][Sf]
section
variable{P:Program}[Se P]{N:Nat}{ds:List Deferred}{A B:A3}{X:Nat->A3}{Z:List PanicEntry->A3}
def AXh(ops:List Oper):Bool:=(List.range ops.length).all fun k=>match ops[k]? with
 |some o=>o.after.toList.all fun e=>!(Region.binds .any e)||blt e.on k
 |none=>true
theorem AQO{ops:List Oper}(h:AXh ops=true):∀(k:Nat) (o:Oper),ops[k]?=some o->∀e∈o.after.toList,Region.binds .any e=true->e.on<k:=fun k o H e U V=>by
 have hk:k<ops.length:=(List.getElem?_eq_some_iff.1 H).1;have J:=List.all_eq_true.1 h k (List.mem_range.2 hk);rw[H]at J;have I:=List.all_eq_true.1 J e U;rw[V]at I;simpa using I
theorem AO0{id:Nat}{ops:List Oper}{L0:A5}{w0:World}(hm:P.follows .mixedOrders=true)(hd:ops.all (fun o=>J7 o.op)=true)(r:ops.all (fun o=>o.guard.isNone)=true)(J:(Nat->Bool)->A5->World->Prop)(R:J (fun _=>false) L0 { w0 with drawn:=w0.drawn+1 })(low:∀k o,ops[k]?=some o->∀e∈o.after.toList,Region.binds .any e=true->e.on<k)(step:∀D L w k o,J D L w->D k=false->ops[k]?=some o->(∀e∈o.after.toList,Region.binds .any e=true->D e.on=true)->Reg P N (toArray ops) .seq [o] ds L w (fun ds' L' w'=>ds'=ds/\J (fun j=>beq j k||D j) L' w') B X Z)(fin:∀D L w,(∀k,k<ops.length->D k=true)->J D L w->A ds L w):CW P N (.region id (toArray ops) true) ds L0 w0 A B X Z:=by
 refine AAW (n:=3) (AOi hm hd fun a s=>?_);have hsize:(toArray ops).size=ops.length:=by simp
 have key:∀(n:Nat) (listed:Array Bool) (a:Act) (w:World) (L:A5),listed.size=ops.length->((List.range ops.length).filter fun k=>!listed.getD k false).length=n->Knows N ds L a->J (fun k=>listed.getD k false) L w->wpAny P .any (toArray ops) (R5 N A B X Z) n listed a w:=by
  intro n;induction n with
  |zero=>
   intro listed a w L I M hk G
   have H:∀k,k<ops.length->listed.getD k false=true:=fun k hk=>by
    cases O:listed.getD k false with
    |true=>rfl
    |false=>
     have:k∈(List.range ops.length).filter fun k=>!listed.getD k false:=List.mem_filter.2 ⟨List.mem_range.2 hk,by rw[O];rfl⟩
     rw[AZQ M]at this
     cases this
   refine⟨List.eq_nil_iff_forall_not_mem.2 fun k hk=>?_,ds,L,hk,fin _ L w H G⟩
   obtain⟨R,o,Y,_⟩:=mem_ready.1 hk
   have V:k<ops.length:=by rw[<-hsize];exact(Array.getElem?_eq_some_iff.1 Y).1
   have:=H k V
   rw[ADp (by rw[I];exact V) true false,this]at R;cases R
  |succ n ih=>
   intro listed a w L I M hk G
   refine⟨fun p=>?_,fun i hi=>?_⟩
   . have H:∀m k,k<ops.length->k<m->listed.getD k false=true:=by
      intro m;induction m with
      |zero=>intro k _ hm;omega
      |succ m ihm=>
       intro k hk hm
       cases O:listed.getD k false with
       |true=>rfl
       |false=>
        obtain⟨o,Y⟩:∃o,ops[k]?=some o:=⟨ops[k],by simp[hk]⟩
        have:k∈Region.ready .any (toArray ops) listed:=mem_ready.2 ⟨by rw[ADp (by rw[I];exact hk) true false];exact O,o,by rw[AZ0];exact Y,fun e d K=>by
         have:=low k o Y e (Array.mem_toList_iff.2 d) K;exact ihm e.on (by omega) (by omega)⟩
        rw[p]at this;cases this
     exact⟨ds,L,hk,fin _ L w (fun k hk=>H (k+1) k hk (AaB k)) G⟩
   . obtain⟨F,o,U,hiall⟩:=mem_ready.1 hi
     have E:i<ops.length:=by rw[<-hsize];exact(Array.getElem?_eq_some_iff.1 U).1
     have W:ops[i]?=some o:=by rw[AZ0]at U;exact U
     rw[ADp (by rw[I];exact E) true false]at F
     have Q:i<listed.size:=by rw[I];exact E
     have g:=step _ L w i o G F W (fun e d K=>hiall e (Array.mem_toList_iff.1 d) K) a hk
     have b:o.guard=none:=by
      have:=List.all_eq_true.1 r o (AYU W);simpa using this
     have l:Region.wanted o (yielded (toArray ops) a.tmps)=true:=by simp[Region.wanted,b]
     unfold wpOp
     rw[U]
     simp only[l,if_true]
     left
     simp only[wpList]at g
     rw[AYf l]at g
     refine AC5 (g.resolve_right fun q=>ABr q.2) ?_ (fun c a w S=>S) ABr
     rintro a' w' ⟨ds',L',V,rfl,f⟩
     have C:(fun k=>(listed.setIfInBounds i true).getD k false)=fun j=>beq j i||listed.getD j false:=by
      funext k;by_cases e:k=i
      . subst e;simp[Q]
      . rw[getD_set_ne false (AaQ e)];have:beq k i=false:=by
         cases O:beq k i with
         |false=>rfl
         |true=>exact absurd (AYa O) e
        rw[this,Bool.false_or]
     refine ih _ a' w' L' (by simp[I]) ?_ V (by rw[C];exact f)
     have T:((List.range ops.length).filter fun k=>!(listed.setIfInBounds i true).getD k false)=((List.range ops.length).filter fun k=>!listed.getD k false).erase i:=by
      rw[List.Nodup.erase_eq_filter (List.Pairwise.filter _ AZn),List.filter_filter];refine List.filter_congr fun k hk=>?_;have:=congrFun C k;rw[this];by_cases e:k=i
      . subst e;simp
      . have:beq k i=false:=by
         cases O:beq k i with
         |false=>rfl
         |true=>exact absurd (AYa O) e
        simp[this,e]
     rw[T,List.length_erase_of_mem (List.mem_filter.2 ⟨List.mem_range.2 E,by rw[F];rfl⟩),M]
     rfl
 have S:(fun k=>(Array.replicate (toArray ops).size false).getD k false)=fun _=>false:=funext fun k=>by
  rw[AZV,Array.getElem?_replicate];split<;>rfl
 refine key _ _ a _ L0 (by simp) ?_ s (by rw[S];exact R);have:((List.range ops.length).filter fun k=>!(Array.replicate (toArray ops).size false).getD k false)=List.range ops.length:=List.filter_eq_self.2 fun k _=>by simp[Array.getD]
 rw[this];simp
end
end Go.Rx
end
