/-
  What DisputeBefore stands on, part 8: memory, code, plain reckoning.
-/
import Derived.Test.YtgioiejbphljoaaGreatDoorRows
import Derived.WalkKit
import Derived.ProofKit
import Derived.OpenShut
import Derived.ChangeOld
import Derived.Below
import Derived.LaidMore
import Derived.LaidSub
import Derived.WideKeyMaps
import Derived.Stop.Joined
import Derived.Test.YtgioiejbphljoaaGreatDoorDcDisputeBefore7
open List (mem_append mem_cons mem_map toArray)
open Nat (beq blt)
open Go.Proofs.Tryz
set_option linter.unusedVariables false
set_option linter.unusedSectionVars false
set_option maxRecDepth 100000
set_option maxHeartbeats 4000000
noncomputable section
namespace Go.Proofs.YtgioiejbphljoaaGreatDoor
open Go Go.Sx Go.Rx Go.RowKit
def ACZ(d:Desk):Option Bool:=Option.bind (α:=(Bool)) (cond (decide (80<(d.reports.length:Int))) (some true) (cond (decide (30<(d.disputes.length:Int))) (some true) (some (decide (60<(d.answers.length:Int)))))) ((fun x1=>some x1))
def AYw:An:=.nd (.x) (.nd (.jn [.norm ⟨[(.slot 2,.d .bool)],[]⟩] (.x)) (.x))
def ctr12:Ctr:=⟨[.d (.st 4)],[.d .bool],fun a=>ACZ a.1⟩
section
variable{M:List Nat}{w:World}{v_s_0:Value}
theorem ok12:Ctr.ok prog 12 ctr12:=B0 (G:={ gxb with fs:=[] }) (an:=AYw) (B1 trivial) func12 rfl rfl rfl rfl (fun a=>by kernel_rfl)
def AA1(s:(List Int))(f:Int->Option Bool):Option Int:=(B7 (S:=(Int)) (R:=(Unit⊕Int)) (fun x5=>cond (decide (x5<(s.length:Int))) ((ixo s x5).bind fun y6=>(f y6).bind fun y7=>cond (y7) (some (Sum.inr (Sum.inr x5))) ((chk .i64 (x5+1)).bind fun n8=>some (Sum.inl n8))) (some (Sum.inr (Sum.inl ())))) (0:Int)).bind ((Sum.elim (fun _=>some ((-1):Int)) (fun r9=>some r9)))
def AXW:An:=.nd (.x) (.nd (.nd (.x) (.lp ⟨[(.slot 8,.d (.int .i64))],[]⟩ [.exit 0 ⟨[],[]⟩,.ret] (.x))) (.x))
def ctr121:Ctr:=⟨[.d (.sl (.int .i64)),.fn [(.int .i64)] .bool],[.d (.int .i64)],fun a=>AA1 a.1 a.2.1⟩
theorem ok121:Ctr.ok prog 121 ctr121:=B0 (G:={ gxb with fs:=[] }) (an:=AXW) (B1 trivial) func121 rfl rfl rfl rfl (fun a=>by kernel_rfl)
def H1(s:(List Int))(f:Int->Option Bool):Option Bool:=(AA1 s f).bind fun r1=>some (decide (0<=r1))
def AYx:An:=.x
def ctr82:Ctr:=⟨[.d (.sl (.int .i64)),.fn [(.int .i64)] .bool],[.d .bool],fun a=>H1 a.1 a.2.1⟩
theorem ok82:Ctr.ok prog 82 ctr82:=B0 (G:={ gxb with fs:=[(121,ctr121)] }) (an:=AYx) (B1 ⟨⟨ok121,call121⟩,trivial⟩) func82 rfl rfl rfl rfl (fun a=>by kernel_rfl)
def R3(n:Int)(a1_:Int)(a2_:Int):Option Bool:=Option.bind (α:=(Bool)) (cond (decide (n<a1_)) (some true) (some (decide (a2_<n)))) ((fun x1=>some x1))
def AYy:An:=.nd (.x) (.nd (.jn [.norm ⟨[(.slot 4,.d .bool)],[]⟩] (.x)) (.x))
def ctr83:Ctr:=⟨[.d (.int .i64),.pt (.int .i64),.pt (.int .i64)],[.d .bool],fun a=>R3 a.1 a.2.1 a.2.2.1⟩
theorem ok83:Ctr.ok prog 83 ctr83:=B0 (G:={ gxb with fs:=[] }) (an:=AYy) (B1 trivial) func83 rfl rfl rfl rfl (fun a=>by kernel_rfl)
def D8(lo:Int)(hi:Int)(all:(List Int)):Option Bool:=(H1 all (fun a1=>R3 a1 lo hi)).bind fun r2=>some (!r2)
def AYz:An:=.x
def ctr44:Ctr:=⟨[.d (.int .i64),.d (.int .i64),.d (.sl (.int .i64))],[.d .bool],fun a=>D8 a.1 a.2.1 a.2.2.1⟩
theorem ok44:Ctr.ok prog 44 ctr44:=B0 (G:={ gxb with fs:=[(82,ctr82),(83,ctr83)] }) (an:=AYz) (B1 ⟨⟨ok82,call82⟩,⟨⟨ok83,call83⟩,trivial⟩⟩) func44 rfl rfl rfl rfl (fun a=>by kernel_rfl)
def AAX(vals:(List Int)):Option Int:=(B7 (S:=(Int)) (R:=(Unit⊕Int)) (fun x4=>cond (decide (x4<(vals.length:Int))) ((ixo vals x4).bind fun y5=>cond ((!decide (y5=0))) (some (Sum.inr (Sum.inr y5))) ((chk .i64 (x4+1)).bind fun n6=>some (Sum.inl n6))) (some (Sum.inr (Sum.inl ())))) (0:Int)).bind ((Sum.elim (fun _=>some (0:Int)) (fun r7=>some r7)))
def AXX:An:=.nd (.x) (.nd (.x) (.nd (.nd (.x) (.lp ⟨[(.slot 8,.d (.int .i64))],[]⟩ [.exit 0 ⟨[],[]⟩,.ret] (.x))) (.x)))
def ctr104:Ctr:=⟨[.d (.sl (.int .i64))],[.d (.int .i64)],fun a=>AAX a.1⟩
theorem ok104:Ctr.ok prog 104 ctr104:=B0 (G:={ gxb with fs:=[] }) (an:=AXX) (B1 trivial) func104 rfl rfl rfl rfl (fun a=>by kernel_rfl)
def K9(a:Answer)(b:Answer):Option Bool:=(D7 a.day b.day).bind fun r1=>(D7 a.id b.id).bind fun r2=>(AAX ([r1,r2])).bind fun r3=>some (decide (r3<0))
def AXY:An:=.x
def ctr126:Ctr:=⟨[.d (.st 3),.d (.st 3)],[.d .bool],fun a=>K9 a.1 a.2.1⟩
theorem ok126:Ctr.ok prog 126 ctr126:=B0 (G:={ gxb with fs:=[(88,ctr88),(104,ctr104)] }) (an:=AXY) (B1 ⟨⟨ok88,call88⟩,⟨⟨ok104,call104⟩,trivial⟩⟩) func126 rfl rfl rfl rfl (fun a=>by kernel_rfl)
def P0(d:Desk_99)(x:Dispute):Option Verdict:=(chk .i64 (x.day+d.desk.terms.answer)).bind fun n1=>(chk .i64 (n1+1)).bind fun n2=>(B7 (S:=(Int×Int×Int×Int×Int×Int×Int×Int×Int)) (R:=(Int×Int×Int×Int×Int×Int×Int×Int)) (fun (x39,x40,x41,x42,x43,x44,x45,x46,x47)=>cond (decide (x39<(((d.answers x.id).getD ([]:(List Answer))).length:Int))) ((ixo ((d.answers x.id).getD ([]:(List Answer))) x39).bind fun y48=>Option.bind (α:=(Bool)) ((D8 x.day n1 ([y48.day])).bind fun r49=>cond (r49) (cond (decide (x41=5)) (some true) ((K9 y48 (Answer.mk x42 x43 x44 x45 x46 x47)).bind fun r50=>some r50)) (some false)) ((fun x51=>Option.bind (α:=(Int×Int×Int×Int×Int×Int×Int×Int)) (cond (x51) (some (y48.day,((AGt y48.says).getD 0),y48.id,y48.dispute,y48.day,y48.says,y48.about,y48.cents)) (some (x40,x41,x42,x43,x44,x45,x46,x47))) ((fun (x52,x53,x54,x55,x56,x57,x58,x59)=>(chk .i64 (x39+1)).bind fun n60=>some (Sum.inl (n60,x52,x53,x54,x55,x56,x57,x58,x59))))))) (some (Sum.inr (x40,x41,x42,x43,x44,x45,x46,x47)))) ((0:Int),n2,(5:Int),(0:Int),(0:Int),(0:Int),(0:Int),(0:Int),(0:Int))).bind ((fun (x61,x62,x63,x64,x65,x66,x67,x68)=>some (Verdict.mk x61 x62 (Answer.mk x63 x64 x65 x66 x67 x68))))
def AY0:An:=.nd (.x) (.nd (.x) (.nd (.x) (.nd (.x) (.nd (.nd (.x) (.lp ⟨[(.slot 26,.d (.int .i64)),(.cell 6 0,.d (.int .i64)),(.cell 6 1,.d (.int .u8)),(.cell 6 2,.d (.int .i64)),(.cell 6 3,.d (.int .i64)),(.cell 6 4,.d (.int .i64)),(.cell 6 5,.d (.int .u8)),(.cell 6 6,.d (.int .i64)),(.cell 6 7,.d (.int .i64))],[6,4,3]⟩ [.exit 0 ⟨[(.cell 6 0,.d (.int .i64)),(.cell 6 1,.d (.int .u8)),(.cell 6 2,.d (.int .i64)),(.cell 6 3,.d (.int .i64)),(.cell 6 4,.d (.int .i64)),(.cell 6 5,.d (.int .u8)),(.cell 6 6,.d (.int .i64)),(.cell 6 7,.d (.int .i64))],[6,4]⟩] (.nd (.x) (.nd (.x) (.nd (.nd (.x) (.nd (.jn [.norm ⟨[(.slot 48,.d .bool)],[9,6,4,3]⟩] (.x)) (.jn [.norm ⟨[(.cell 6 0,.d (.int .i64)),(.cell 6 1,.d (.int .u8)),(.cell 6 2,.d (.int .i64)),(.cell 6 3,.d (.int .i64)),(.cell 6 4,.d (.int .i64)),(.cell 6 5,.d (.int .u8)),(.cell 6 6,.d (.int .i64)),(.cell 6 7,.d (.int .i64))],[6,4,3]⟩] (.x)))) (.x)))))) (.x)))))
def ctr92:Ctr:=⟨[.d (.st 10),.d (.st 2)],[.d (.st 12)],fun a=>P0 a.1 a.2.1⟩
theorem ok92:Ctr.ok prog 92 ctr92:=B0 (G:={ gxb with fs:=[(44,ctr44),(126,ctr126)] }) (an:=AY0) (B1 ⟨⟨ok44,call44⟩,⟨⟨ok126,call126⟩,trivial⟩⟩) func92 rfl rfl rfl rfl (fun a=>by kernel_rfl)
def F4(d:Desk_99)(x:Dispute)(day:Int):Option (Int×Verdict):=(P0 d x).bind fun r1=>cond (decide (r1.day<=day)) (some (r1.is_,r1)) (cond (decide (x.day<=day)) (some ((1:Int),r1)) (some ((0:Int),r1)))
def AY1:An:=.x
def ctr57:Ctr:=⟨[.d (.st 10),.d (.st 2),.d (.int .i64)],[.d (.int .u8),.d (.st 12)],fun a=>F4 a.1 a.2.1 a.2.2.1⟩
theorem ok57:Ctr.ok prog 57 ctr57:=B0 (G:={ gxb with fs:=[(92,ctr92)] }) (an:=AY1) (B1 ⟨⟨ok92,call92⟩,trivial⟩) func57 rfl rfl rfl rfl (fun a=>by kernel_rfl)
def C8(n:Int)(lo:Int)(hi:Int):Option Bool:=Option.bind (α:=(Bool)) (cond (decide (lo<=n)) (some (decide (n<=hi))) (some false)) ((fun x1=>some x1))
def AY2:An:=.nd (.x) (.nd (.jn [.norm ⟨[(.slot 6,.d .bool)],[]⟩] (.x)) (.x))
def ctr42:Ctr:=⟨[.d (.int .i64),.d (.int .i64),.d (.int .i64)],[.d .bool],fun a=>C8 a.1 a.2.1 a.2.2.1⟩
theorem ok42:Ctr.ok prog 42 ctr42:=B0 (G:={ gxb with fs:=[] }) (an:=AY2) (B1 trivial) func42 rfl rfl rfl rfl (fun a=>by kernel_rfl)
def E0(n:Int)(lo:Int)(hi:Int):Option Bool:=Option.bind (α:=(Bool)) (cond (decide (lo<=n)) (some (decide (n<=hi))) (some false)) ((fun x1=>some x1))
def AXZ:An:=.nd (.x) (.nd (.jn [.norm ⟨[(.slot 6,.d .bool)],[]⟩] (.x)) (.x))
def ctr128:Ctr:=⟨[.d (.int .i64),.d (.int .i64),.d (.int .i64)],[.d .bool],fun a=>E0 a.1 a.2.1 a.2.2.1⟩
theorem ok128:Ctr.ok prog 128 ctr128:=B0 (G:={ gxb with fs:=[] }) (an:=AXZ) (B1 trivial) func128 rfl rfl rfl rfl (fun a=>by kernel_rfl)
def AA7(kind:Int)(n:Int):Option Bool:=Option.bind (α:=(Bool)) (cond (decide (kind=1)) (some (decide (kind=1))) (some (decide (kind=7)))) ((fun x1=>cond (x1) (some (decide (n=0))) (cond (decide (kind=5)) ((E0 n (0:Int) (10000:Int)).bind fun r2=>some r2) ((E0 n (0:Int) (1000000000000:Int)).bind fun r3=>some r3))))
def AXa:An:=.nd (.x) (.nd (.nd (.x) (.nd (.nd (.x) (.jn [.norm ⟨[(.slot 6,.d .bool)],[]⟩] (.x))) (.x))) (.x))
def ctr129:Ctr:=⟨[.d (.int .u8),.d (.int .i64)],[.d .bool],fun a=>AA7 a.1 a.2.1⟩
theorem ok129:Ctr.ok prog 129 ctr129:=B0 (G:={ gxb with fs:=[(128,ctr128)] }) (an:=AXa) (B1 ⟨⟨ok128,call128⟩,trivial⟩) func129 rfl rfl rfl rfl (fun a=>by kernel_rfl)
def AA8(r:Report):Option Bool:=Option.bind (α:=(Bool)) ((E0 r.id (0:Int) (999999:Int)).bind fun r8=>cond ((!r8)) (some true) ((E0 r.source (0:Int) (999999:Int)).bind fun r9=>cond ((!r9)) (some true) ((E0 r.account (0:Int) (999999:Int)).bind fun r10=>cond ((!r10)) (some true) ((E0 r.made (0:Int) (100000:Int)).bind fun r11=>cond ((!r11)) (some true) ((E0 r.about (0:Int) (100000:Int)).bind fun r12=>cond ((!r12)) (some true) ((chk .i64 r.kind).bind fun n13=>(E0 n13 (1:Int) (9:Int)).bind fun r14=>some (!r14))))))) ((fun x15=>cond (x15) (some false) (cond (decide (r.kind<=7)) (Option.bind (α:=(Bool)) ((AA7 r.kind r.cents).bind fun r16=>cond (r16) (some (decide (r.of_=0))) (some false)) ((fun x17=>some x17))) (Option.bind (α:=(Bool)) ((E0 r.of_ (0:Int) (999999:Int)).bind fun r19=>cond ((!r19)) (some true) (some (decide (r.of_=r.id)))) ((fun x20=>cond (x20) (some false) (cond (decide (r.kind=8)) ((E0 r.cents (0:Int) (1000000000000:Int)).bind fun r21=>some r21) (Option.bind (α:=(Bool)) (cond (decide (r.cents=0)) (some (decide (r.about=0))) (some false)) ((fun x22=>some x22))))))))))
def AY3:An:=.nd (.x) (.nd (.nd (.jn [.norm ⟨[(.slot 37,.d .bool)],[1]⟩] (.x)) (.x)) (.nd (.nd (.x) (.nd (.nd (.jn [.norm ⟨[(.slot 2,.d .bool)],[]⟩] (.x)) (.x)) (.x))) (.nd (.nd (.jn [.norm ⟨[(.slot 61,.d .bool)],[1]⟩] (.x)) (.x)) (.nd (.x) (.nd (.jn [.norm ⟨[(.slot 2,.d .bool)],[]⟩] (.x)) (.x))))))
def ctr95:Ctr:=⟨[.d (.st 1)],[.d .bool],fun a=>AA8 a.1⟩
theorem ok95:Ctr.ok prog 95 ctr95:=B0 (G:={ gxb with fs:=[(128,ctr128),(129,ctr129)] }) (an:=AY3) (B1 ⟨⟨ok128,call128⟩,⟨⟨ok129,call129⟩,trivial⟩⟩) func95 rfl rfl rfl rfl (fun a=>by kernel_rfl)
def AA9(l:(List Report)):Option Int:=cond (decide (60<(l.length:Int))) (some (4:Int)) ((B7 (S:=(Int)) (R:=(Unit⊕Int)) (fun x5=>cond (decide (x5<(l.length:Int))) ((ixo l x5).bind fun y6=>(AA8 y6).bind fun r7=>cond ((!r7)) (some (Sum.inr (Sum.inr (30:Int)))) ((chk .i64 (x5+1)).bind fun n8=>some (Sum.inl n8))) (some (Sum.inr (Sum.inl ())))) (0:Int)).bind ((Sum.elim (fun _=>(B7 (S:=(Int)) (R:=(Unit⊕Int)) (fun x19=>cond (decide (x19<(l.length:Int))) ((B7 (S:=(Int)) (R:=(Unit⊕Int)) (fun x20=>cond (decide (x20<x19)) (Option.bind (α:=(Bool)) ((ixo l x19).bind fun y21=>(ixo l x20).bind fun y22=>cond (decide (y21.id=y22.id)) ((ixo l x19).bind fun y23=>(ixo l x20).bind fun y24=>some (!decide (y23=y24))) (some false)) ((fun x25=>cond (x25) (some (Sum.inr (Sum.inr (31:Int)))) ((chk .i64 (x20+1)).bind fun n26=>some (Sum.inl n26))))) (some (Sum.inr (Sum.inl ())))) (0:Int)).bind ((Sum.elim (fun _=>(chk .i64 (x19+1)).bind fun n27=>some (Sum.inl n27)) (fun r28=>some (Sum.inr (Sum.inr r28)))))) (some (Sum.inr (Sum.inl ())))) (0:Int)).bind ((Sum.elim (fun _=>some (0:Int)) (fun r29=>some r29)))) (fun r30=>some r30))))
def AY4:An:=.nd (.x) (.nd (.x) (.nd (.nd (.x) (.lp ⟨[(.slot 3,.d (.int .i64))],[]⟩ [.exit 0 ⟨[],[]⟩,.ret] (.x))) (.nd (.nd (.x) (.lp ⟨[(.slot 4,.d (.int .i64))],[]⟩ [.exit 2 ⟨[],[]⟩,.ret] (.nd (.x) (.nd (.nd (.x) (.lp ⟨[(.slot 5,.d (.int .i64))],[]⟩ [.exit 4 ⟨[],[]⟩,.ret] (.nd (.x) (.nd (.nd (.jn [.norm ⟨[(.slot 53,.d .bool)],[]⟩] (.x)) (.x)) (.x))))) (.x))))) (.x))))
def ctr62:Ctr:=⟨[.d (.sl (.st 1))],[.d (.int .i64)],fun a=>AA9 a.1⟩
theorem ok62:Ctr.ok prog 62 ctr62:=B0 (G:={ gxb with fs:=[(95,ctr95)] }) (an:=AY4) (B1 ⟨⟨ok95,call95⟩,trivial⟩) func62 rfl rfl rfl rfl (fun a=>by kernel_rfl)
def ACy(d:Desk)(id:Int):Option Int:=(B7 (S:=(Int)) (R:=(Unit⊕Int)) (fun x4=>cond (decide (x4<(d.disputes.length:Int))) ((ixo d.disputes x4).bind fun y5=>cond (decide (y5.id=id)) (some (Sum.inr (Sum.inr x4))) ((chk .i64 (x4+1)).bind fun n6=>some (Sum.inl n6))) (some (Sum.inr (Sum.inl ())))) (0:Int)).bind ((Sum.elim (fun _=>some ((-1):Int)) (fun r7=>some r7)))
def AY5:An:=.nd (.x) (.nd (.nd (.x) (.lp ⟨[(.slot 5,.d (.int .i64))],[2]⟩ [.exit 0 ⟨[],[]⟩,.ret] (.x))) (.x))
def ctr26:Ctr:=⟨[.d (.st 4),.d (.int .i64)],[.d (.int .i64)],fun a=>ACy a.1 a.2.1⟩
theorem ok26:Ctr.ok prog 26 ctr26:=B0 (G:={ gxb with fs:=[] }) (an:=AY5) (B1 trivial) func26 rfl rfl rfl rfl (fun a=>by kernel_rfl)
def ACz(l:(List Report))(id:Int):Option Int:=(B7 (S:=(Int)) (R:=(Unit⊕Int)) (fun x4=>cond (decide (x4<(l.length:Int))) ((ixo l x4).bind fun y5=>cond (decide (y5.id=id)) (some (Sum.inr (Sum.inr x4))) ((chk .i64 (x4+1)).bind fun n6=>some (Sum.inl n6))) (some (Sum.inr (Sum.inl ())))) (0:Int)).bind ((Sum.elim (fun _=>some ((-1):Int)) (fun r7=>some r7)))
def AY6:An:=.nd (.x) (.nd (.nd (.x) (.lp ⟨[(.slot 5,.d (.int .i64))],[]⟩ [.exit 0 ⟨[],[]⟩,.ret] (.x))) (.x))
def ctr96:Ctr:=⟨[.d (.sl (.st 1)),.d (.int .i64)],[.d (.int .i64)],fun a=>ACz a.1 a.2.1⟩
theorem ok96:Ctr.ok prog 96 ctr96:=B0 (G:={ gxb with fs:=[] }) (an:=AY6) (B1 trivial) func96 rfl rfl rfl rfl (fun a=>by kernel_rfl)
def W8(l:(List Report))(id:Int):Option Int:=(ACz l id).bind fun r1=>Option.bind (α:=(Bool)) (cond (decide (0<=r1)) ((ixo l r1).bind fun y3=>some (decide (7<y3.kind))) (some false)) ((fun x4=>cond (x4) (some ((-1):Int)) (some r1)))
def AY7:An:=.nd (.x) (.nd (.x) (.nd (.nd (.jn [.norm ⟨[(.slot 18,.d .bool)],[]⟩] (.x)) (.x)) (.x)))
def ctr90:Ctr:=⟨[.d (.sl (.st 1)),.d (.int .i64)],[.d (.int .i64)],fun a=>W8 a.1 a.2.1⟩
theorem ok90:Ctr.ok prog 90 ctr90:=B0 (G:={ gxb with fs:=[(96,ctr96)] }) (an:=AY7) (B1 ⟨⟨ok96,call96⟩,trivial⟩) func90 rfl rfl rfl rfl (fun a=>by kernel_rfl)
def Y4(d:Desk):Option Bool:=cond (decide (20<(d.disputes.length:Int))) (some false) ((B7 (S:=(Int)) (R:=(Unit⊕Bool)) (fun x14=>cond (decide (x14<(d.disputes.length:Int))) ((ixo d.disputes x14).bind fun y15=>Option.bind (α:=(Bool)) ((C8 y15.id (0:Int) (999999:Int)).bind fun r16=>cond ((!r16)) (some true) ((ACy d y15.id).bind fun r17=>cond ((!decide (r17=x14))) (some true) ((ACz d.reports y15.id).bind fun r18=>some (decide (0<=r18))))) ((fun x19=>cond (x19) (some (Sum.inr (Sum.inr false))) ((W8 d.reports y15.report).bind fun r20=>Option.bind (α:=(Bool)) (cond (decide (r20<0)) (some true) ((ixo d.reports r20).bind fun y21=>(chk .i64 (100000-d.terms.answer)).bind fun n22=>(chk .i64 (n22-1)).bind fun n23=>(C8 y15.day y21.made n23).bind fun r24=>some (!r24))) ((fun x25=>cond (x25) (some (Sum.inr (Sum.inr false))) ((chk .i64 (x14+1)).bind fun n26=>some (Sum.inl n26)))))))) (some (Sum.inr (Sum.inl ())))) (0:Int)).bind ((Sum.elim (fun _=>some true) (fun r27=>some r27))))
def AY8:An:=.nd (.x) (.nd (.x) (.nd (.nd (.x) (.lp ⟨[(.slot 3,.d (.int .i64))],[1]⟩ [.exit 0 ⟨[],[]⟩,.ret] (.nd (.x) (.nd (.nd (.x) (.nd (.nd (.jn [.norm ⟨[(.slot 41,.d .bool)],[4,1]⟩] (.x)) (.x)) (.nd (.x) (.nd (.jn [.norm ⟨[(.slot 65,.d .bool)],[1]⟩] (.x)) (.x))))) (.x))))) (.x)))
def ctr63:Ctr:=⟨[.d (.st 4)],[.d .bool],fun a=>Y4 a.1⟩
theorem ok63:Ctr.ok prog 63 ctr63:=B0 (G:={ gxb with fs:=[(26,ctr26),(42,ctr42),(90,ctr90),(96,ctr96)] }) (an:=AY8) (B1 ⟨⟨ok26,call26⟩,⟨⟨ok42,call42⟩,⟨⟨ok90,call90⟩,⟨⟨ok96,call96⟩,trivial⟩⟩⟩⟩) func63 rfl rfl rfl rfl (fun a=>by kernel_rfl)
def ABA(kind:Int)(n:Int):Option Bool:=Option.bind (α:=(Bool)) (cond (decide (kind=1)) (some (decide (kind=1))) (some (decide (kind=7)))) ((fun x1=>cond (x1) (some (decide (n=0))) (cond (decide (kind=5)) ((C8 n (0:Int) (10000:Int)).bind fun r2=>some r2) ((C8 n (0:Int) (1000000000000:Int)).bind fun r3=>some r3))))
def AY9:An:=.nd (.x) (.nd (.nd (.x) (.nd (.nd (.x) (.jn [.norm ⟨[(.slot 6,.d .bool)],[]⟩] (.x))) (.x))) (.x))
def ctr97:Ctr:=⟨[.d (.int .u8),.d (.int .i64)],[.d .bool],fun a=>ABA a.1 a.2.1⟩
theorem ok97:Ctr.ok prog 97 ctr97:=B0 (G:={ gxb with fs:=[(42,ctr42)] }) (an:=AY9) (B1 ⟨⟨ok42,call42⟩,trivial⟩) func97 rfl rfl rfl rfl (fun a=>by kernel_rfl)
def AAM(d:Desk):Option Bool:=cond (decide (40<(d.answers.length:Int))) (some false) ((B7 (S:=(Int)) (R:=(Unit⊕Bool)) (fun x49=>cond (decide (x49<(d.answers.length:Int))) (Option.bind (α:=(Unit⊕Bool)) ((ixo d.answers x49).bind fun y50=>(B7 (S:=(Int)) (R:=(Unit⊕Bool)) (fun x51=>cond (decide (x51<x49)) ((ixo d.answers x51).bind fun y52=>cond (decide (y52.id=y50.id)) (some (Sum.inr (Sum.inr false))) ((chk .i64 (x51+1)).bind fun n53=>some (Sum.inl n53))) (some (Sum.inr (Sum.inl ())))) (0:Int)).bind ((Sum.elim (fun _=>Option.bind (α:=(Bool)) ((C8 y50.id (0:Int) (999999:Int)).bind fun r54=>cond ((!r54)) (some true) ((C8 y50.day (0:Int) (100000:Int)).bind fun r55=>cond ((!r55)) (some true) ((chk .i64 y50.says).bind fun n56=>(C8 n56 (1:Int) (3:Int)).bind fun r57=>some (!r57)))) ((fun x58=>cond (x58) (some (Sum.inr false)) ((ACy d y50.dispute).bind fun r59=>cond (decide (r59<0)) (some (Sum.inr false)) (cond ((!decide (y50.says=2))) (Option.bind (α:=(Bool)) (cond ((!decide (y50.about=0))) (some true) (some (!decide (y50.cents=0)))) ((fun x60=>cond (x60) (some (Sum.inr false)) (some (Sum.inl ()))))) ((ixo d.disputes r59).bind fun y61=>(W8 d.reports y61.report).bind fun r62=>(ixo d.reports r62).bind fun y63=>Option.bind (α:=(Bool)) ((C8 y50.about (0:Int) (100000:Int)).bind fun r64=>cond ((!r64)) (some true) ((ABA y63.kind y50.cents).bind fun r65=>some (!r65))) ((fun x66=>cond (x66) (some (Sum.inr false)) (some (Sum.inl ())))))))))) (fun r67=>some (Sum.inr r67))))) ((Sum.elim (fun _=>(chk .i64 (x49+1)).bind fun n68=>some (Sum.inl n68)) (fun r69=>some (Sum.inr (Sum.inr r69)))))) (some (Sum.inr (Sum.inl ())))) (0:Int)).bind ((Sum.elim (fun _=>some true) (fun r70=>some r70))))
def AZA:An:=.nd (.x) (.nd (.x) (.nd (.nd (.x) (.lp ⟨[(.slot 3,.d (.int .i64))],[1]⟩ [.exit 0 ⟨[],[]⟩,.ret] (.nd (.x) (.nd (.jn [.norm ⟨[],[1]⟩,.ret] (.nd (.x) (.nd (.nd (.x) (.lp ⟨[(.slot 5,.d (.int .i64))],[4,1]⟩ [.exit 2 ⟨[],[4,1]⟩,.ret] (.x))) (.nd (.nd (.jn [.norm ⟨[(.slot 54,.d .bool)],[4,1]⟩] (.x)) (.x)) (.nd (.x) (.nd (.x) (.nd (.nd (.x) (.nd (.nd (.nd (.jn [.norm ⟨[(.slot 71,.d .bool)],[1]⟩] (.x)) (.x)) (.x)) (.x))) (.nd (.x) (.nd (.jn [.norm ⟨[(.slot 96,.d .bool)],[1]⟩] (.x)) (.x)))))))))) (.x))))) (.x)))
def ctr64:Ctr:=⟨[.d (.st 4)],[.d .bool],fun a=>AAM a.1⟩
theorem ok64:Ctr.ok prog 64 ctr64:=B0 (G:={ gxb with fs:=[(26,ctr26),(42,ctr42),(90,ctr90),(97,ctr97)] }) (an:=AZA) (B1 ⟨⟨ok26,call26⟩,⟨⟨ok42,call42⟩,⟨⟨ok90,call90⟩,⟨⟨ok97,call97⟩,trivial⟩⟩⟩⟩) func64 rfl rfl rfl rfl (fun a=>by kernel_rfl)
def ABB(d:Desk):Option Int:=Option.bind (α:=(Bool)) ((C8 d.terms.answer (0:Int) (1000:Int)).bind fun r4=>cond ((!r4)) (some true) ((C8 d.terms.mark (0:Int) (100000:Int)).bind fun r5=>cond ((!r5)) (some true) ((C8 d.terms.lately (0:Int) (100000:Int)).bind fun r6=>some (!r6)))) ((fun x7=>cond (x7) (some (50:Int)) ((AA9 d.reports).bind fun r8=>cond ((!decide (r8=0))) (some r8) ((Y4 d).bind fun r9=>cond ((!r9)) (some (51:Int)) ((AAM d).bind fun r10=>cond ((!r10)) (some (52:Int)) (some (0:Int)))))))
def AZB:An:=.nd (.x) (.nd (.nd (.jn [.norm ⟨[(.slot 22,.d .bool)],[1]⟩] (.x)) (.x)) (.x))
def ctr27:Ctr:=⟨[.d (.st 4)],[.d (.int .i64)],fun a=>ABB a.1⟩
theorem ok27:Ctr.ok prog 27 ctr27:=B0 (G:={ gxb with fs:=[(42,ctr42),(62,ctr62),(63,ctr63),(64,ctr64)] }) (an:=AZB) (B1 ⟨⟨ok42,call42⟩,⟨⟨ok62,call62⟩,⟨⟨ok63,call63⟩,⟨⟨ok64,call64⟩,trivial⟩⟩⟩⟩) func27 rfl rfl rfl rfl (fun a=>by kernel_rfl)
def AEo(d:Desk)(x:Dispute):Option Int:=(B7 (S:=(Int×Int)) (R:=(Int)) (fun (x28,x29)=>cond (decide (x29<(d.answers.length:Int))) (Option.bind (α:=(Int)) ((ixo d.answers x29).bind fun y30=>Option.bind (α:=(Bool)) (cond ((!decide (y30.dispute=x.id))) (some true) ((chk .i64 (x.day+d.terms.answer)).bind fun n31=>(C8 y30.day x.day n31).bind fun r32=>some (!r32))) ((fun x33=>cond (x33) (some x28) (Option.bind (α:=(Bool)) (cond (decide (x28<0)) (some true) ((ixo d.answers x28).bind fun y34=>cond (decide (y30.day<y34.day)) (some true) ((ixo d.answers x28).bind fun y35=>cond (decide (y30.day=y35.day)) ((ixo d.answers x28).bind fun y36=>some (decide (y30.id<y36.id))) (some false)))) ((fun x37=>Option.bind (α:=(Int)) (cond (x37) (some x29) (some x28)) ((fun x38=>some x38)))))))) ((fun x39=>(chk .i64 (x29+1)).bind fun n40=>some (Sum.inl (x39,n40))))) (some (Sum.inr x28))) (((-1):Int),(0:Int))).bind ((fun x41=>some x41))
def AIl(d:Desk)(x:Dispute):Option (Int×Int):=(AEo d x).bind fun r1=>cond (decide (r1<0)) ((chk .i64 (x.day+d.terms.answer)).bind fun n2=>(chk .i64 (n2+1)).bind fun n3=>some (n3,(5:Int))) ((ixo d.answers r1).bind fun y4=>(ixo d.answers r1).bind fun y5=>(chk .u8 (y5.says+1)).bind fun n6=>some (y4.day,n6))
def AIm(d:Desk)(x:Dispute):Option (Report×Bool):=(AIl d x).bind fun (r1,r2)=>cond (decide (r2=2)) (some ((Report.mk 0 0 0 0 0 0 0 0),false)) ((W8 d.reports x.report).bind fun r3=>(ixo d.reports r3).bind fun y4=>Option.bind (α:=(Int×Int×Int)) (cond (decide (r2=3)) ((AEo d x).bind fun r7=>(ixo d.answers r7).bind fun y8=>some (y8.about,(8:Int),y8.cents)) (some ((0:Int),(9:Int),(0:Int)))) ((fun (x9,x10,x11)=>some ((Report.mk x.id y4.source y4.account r1 x9 x10 x11 y4.id),true))))
def ATk(d:Desk)(day:Int):Option (List Report):=(appo 64 ([]:(List Report)) d.reports).bind fun l1=>(B7 (S:=((List Report)×Int)) (R:=((List Report))) (fun (x121,x122)=>cond (decide (x122<(d.disputes.length:Int))) (Option.bind (α:=((List Report))) ((ixo d.disputes x122).bind fun y123=>(AIm d y123).bind fun (r124,r125)=>Option.bind (α:=(Bool)) (cond ((!r125)) (some true) (some (decide (day<r124.made)))) ((fun x126=>cond (x126) (some x121) ((appo 64 x121 ([r124])).bind fun l127=>(chk .i64 ((l127.length:Int)-1)).bind fun n128=>(B7 (S:=(Int×(List Report))) (R:=((List Report))) (fun (x129,x130)=>Option.bind (α:=(Bool)) (cond (decide ((l1.length:Int)<x129)) ((ixo x130 x129).bind fun y131=>(chk .i64 (x129-1)).bind fun n132=>(ixo x130 n132).bind fun y133=>cond (decide (y131.made<y133.made)) (some true) ((ixo x130 x129).bind fun y134=>(chk .i64 (x129-1)).bind fun n135=>(ixo x130 n135).bind fun y136=>cond (decide (y134.made=y136.made)) ((ixo x130 x129).bind fun y137=>(chk .i64 (x129-1)).bind fun n138=>(ixo x130 n138).bind fun y139=>some (decide (y137.id<y139.id))) (some false))) (some false)) ((fun x140=>cond (x140) ((chk .i64 (x129-1)).bind fun n141=>(chk .i64 (x129-1)).bind fun n142=>(ixo x130 n142).bind fun y143=>(ixo x130 x129).bind fun y144=>(ixo x130 x129).bind fun y145=>(seto x130 x129 y143).bind fun l146=>(ixo l146 n141).bind fun y147=>(seto l146 n141 y144).bind fun l148=>(chk .i64 (x129-1)).bind fun n149=>some (Sum.inl (n149,l148))) (some (Sum.inr x130))))) (n128,l127)).bind ((fun x150=>some x150)))))) ((fun x151=>(chk .i64 (x122+1)).bind fun n152=>some (Sum.inl (x151,n152))))) (some (Sum.inr x121))) (l1,(0:Int))).bind ((fun x153=>some x153))
def AA2(s:(List Report))(f:Report->Option Bool):Option Int:=(B7 (S:=(Int)) (R:=(Unit⊕Int)) (fun x5=>cond (decide (x5<(s.length:Int))) ((ixo s x5).bind fun y6=>(f y6).bind fun y7=>cond (y7) (some (Sum.inr (Sum.inr x5))) ((chk .i64 (x5+1)).bind fun n8=>some (Sum.inl n8))) (some (Sum.inr (Sum.inl ())))) (0:Int)).bind ((Sum.elim (fun _=>some ((-1):Int)) (fun r9=>some r9)))
def AXb:An:=.nd (.x) (.nd (.nd (.x) (.lp ⟨[(.slot 8,.d (.int .i64))],[]⟩ [.exit 0 ⟨[],[]⟩,.ret] (.x))) (.x))
def ctr130:Ctr:=⟨[.d (.sl (.st 1)),.fn [(.st 1)] .bool],[.d (.int .i64)],fun a=>AA2 a.1 a.2.1⟩
theorem ok130:Ctr.ok prog 130 ctr130:=B0 (G:={ gxb with fs:=[] }) (an:=AXb) (B1 trivial) func130 rfl rfl rfl rfl (fun a=>by kernel_rfl)
def R4(s:(List Report))(f:Report->Option Bool):Option Bool:=(AA2 s f).bind fun r1=>some (decide (0<=r1))
def AZC:An:=.x
def ctr98:Ctr:=⟨[.d (.sl (.st 1)),.fn [(.st 1)] .bool],[.d .bool],fun a=>R4 a.1 a.2.1⟩
theorem ok98:Ctr.ok prog 98 ctr98:=B0 (G:={ gxb with fs:=[(130,ctr130)] }) (an:=AZC) (B1 ⟨⟨ok130,call130⟩,trivial⟩) func98 rfl rfl rfl rfl (fun a=>by kernel_rfl)
def R5(n:Int)(a1_:Int)(a2_:Int):Option Bool:=Option.bind (α:=(Bool)) (cond (decide (n<a1_)) (some true) (some (decide (a2_<n)))) ((fun x1=>some x1))
def AXc:An:=.nd (.x) (.nd (.jn [.norm ⟨[(.slot 4,.d .bool)],[]⟩] (.x)) (.x))
def ctr101:Ctr:=⟨[.d (.int .i64),.pt (.int .i64),.pt (.int .i64)],[.d .bool],fun a=>R5 a.1 a.2.1 a.2.2.1⟩
theorem ok101:Ctr.ok prog 101 ctr101:=B0 (G:={ gxb with fs:=[] }) (an:=AXc) (B1 trivial) func101 rfl rfl rfl rfl (fun a=>by kernel_rfl)
def F9(lo:Int)(hi:Int)(all:(List Int)):Option Bool:=(H1 all (fun a1=>R5 a1 lo hi)).bind fun r2=>some (!r2)
def AZD:An:=.x
def ctr66:Ctr:=⟨[.d (.int .i64),.d (.int .i64),.d (.sl (.int .i64))],[.d .bool],fun a=>F9 a.1 a.2.1 a.2.2.1⟩
theorem ok66:Ctr.ok prog 66 ctr66:=B0 (G:={ gxb with fs:=[(82,ctr82),(101,ctr101)] }) (an:=AZD) (B1 ⟨⟨ok82,call82⟩,⟨⟨ok101,call101⟩,trivial⟩⟩) func66 rfl rfl rfl rfl (fun a=>by kernel_rfl)
def H6(r:Report):Option Bool:=some (decide (r.kind<=7))
def AZE:An:=.x
def ctr72:Ctr:=⟨[.d (.st 1)],[.d .bool],fun a=>H6 a.1⟩
theorem ok72:Ctr.ok prog 72 ctr72:=B0 (G:={ gxb with fs:=[] }) (an:=AZE) (B1 trivial) func72 rfl rfl rfl rfl (fun a=>by kernel_rfl)
def U6(r:Report):Option Bool:=Option.bind (α:=(Bool)) ((chk .i64 r.kind).bind fun n8=>(F9 (1:Int) (9:Int) ([n8])).bind fun r9=>cond ((!r9)) (some true) ((F9 (0:Int) (999999:Int) ([r.id,r.source,r.account,r.of_])).bind fun r10=>cond ((!r10)) (some true) ((F9 (0:Int) (100000:Int) ([r.made,r.about])).bind fun r11=>cond ((!r11)) (some true) ((ixA 10 r.kind).bind fun i12=>(ixo glob0 (i12*1)).bind fun y13=>(F9 (0:Int) y13 ([r.cents])).bind fun r14=>some (!r14))))) ((fun x15=>cond (x15) (some false) ((H6 r).bind fun r16=>cond (r16) (some (decide (r.of_=0))) (Option.bind (α:=(Bool)) (cond (decide (r.kind=9)) (some (!decide (r.about=0))) (some false)) ((fun x17=>cond (x17) (some false) (some (!decide (r.of_=r.id)))))))))
def AXd:An:=.nd (.x) (.nd (.nd (.jn [.norm ⟨[(.slot 41,.d .bool)],[1]⟩] (.x)) (.x)) (.nd (.nd (.x) (.nd (.x) (.nd (.jn [.norm ⟨[(.slot 48,.d .bool)],[1]⟩] (.x)) (.x)))) (.x)))
def ctr100:Ctr:=⟨[.d (.st 1)],[.d .bool],fun a=>U6 a.1⟩
theorem ok100:Ctr.ok prog 100 ctr100:=B0 (G:={ gxb with fs:=[(66,ctr66),(72,ctr72)] }) (an:=AXd) (B1 ⟨⟨ok66,call66⟩,⟨⟨ok72,call72⟩,trivial⟩⟩) func100 rfl rfl rfl rfl (fun a=>by kernel_rfl)
def AAA(r:Report):Option Bool:=(U6 r).bind fun r1=>some (!r1)
def AZF:An:=.x
def ctr99:Ctr:=⟨[.d (.st 1)],[.d .bool],fun a=>AAA a.1⟩
theorem ok99:Ctr.ok prog 99 ctr99:=B0 (G:={ gxb with fs:=[(100,ctr100)] }) (an:=AZF) (B1 ⟨⟨ok100,call100⟩,trivial⟩) func99 rfl rfl rfl rfl (fun a=>by kernel_rfl)
def I5(l:(List Report)):Option Int:=cond (decide (60<(l.length:Int))) (some (4:Int)) ((R4 l (fun a1=>AAA a1)).bind fun r2=>cond (r2) (some (30:Int)) ((B7 (S:=(Int×(A4 Int Report))) (R:=(Unit⊕Int)) (fun (x12,x13)=>cond (decide (x12<(l.length:Int))) ((ixo l x12).bind fun y14=>Option.bind (α:=(Bool)) (cond ((x13 y14.id).isSome) (some (!decide (((x13 y14.id).getD (Report.mk 0 0 0 0 0 0 0 0))=y14))) (some false)) ((fun x15=>cond (x15) (some (Sum.inr (Sum.inr (31:Int)))) ((chk .i64 (x12+1)).bind fun n16=>some (Sum.inl (n16,(B4 x13 y14.id y14))))))) (some (Sum.inr (Sum.inl ())))) ((0:Int),(fnone:(A4 Int Report)))).bind ((Sum.elim (fun _=>some (0:Int)) (fun r17=>some r17)))))
def AZG:An:=.nd (.x) (.nd (.x) (.nd (.x) (.nd (.x) (.nd (.nd (.x) (.lp ⟨[(.slot 16,.d (.int .i64)),(.cont 13,.own (.mp 3 (.int .i64) (.st 1)))],[13]⟩ [.exit 0 ⟨[],[]⟩,.ret] (.nd (.x) (.nd (.x) (.nd (.nd (.x) (.nd (.nd (.x) (.nd (.jn [.norm ⟨[(.slot 32,.d .bool)],[5,13]⟩] (.x)) (.x))) (.x))) (.x)))))) (.x)))))
def ctr65:Ctr:=⟨[.d (.sl (.st 1))],[.d (.int .i64)],fun a=>I5 a.1⟩
theorem ok65:Ctr.ok prog 65 ctr65:=B0 (G:={ gxb with fs:=[(98,ctr98),(99,ctr99)] }) (an:=AZG) (B1 ⟨⟨ok98,call98⟩,⟨⟨ok99,call99⟩,trivial⟩⟩) func65 rfl rfl rfl rfl (fun a=>by kernel_rfl)
def F0(s:Store)(r:Report):Option (Report×Bool):=Option.bind (α:=(Bool×Int×Int×Int×Int×Int×Int×Int×Int)) (cond ((s.reports r.of_).isSome) (cond (decide ((((s.reports r.of_).getD (Report.mk 0 0 0 0 0 0 0 0)).source)=r.source)) (some (decide ((((s.reports r.of_).getD (Report.mk 0 0 0 0 0 0 0 0)).account)=r.account),((s.reports r.of_).getD (Report.mk 0 0 0 0 0 0 0 0)).id,((s.reports r.of_).getD (Report.mk 0 0 0 0 0 0 0 0)).source,((s.reports r.of_).getD (Report.mk 0 0 0 0 0 0 0 0)).account,((s.reports r.of_).getD (Report.mk 0 0 0 0 0 0 0 0)).made,((s.reports r.of_).getD (Report.mk 0 0 0 0 0 0 0 0)).about,((s.reports r.of_).getD (Report.mk 0 0 0 0 0 0 0 0)).kind,((s.reports r.of_).getD (Report.mk 0 0 0 0 0 0 0 0)).cents,((s.reports r.of_).getD (Report.mk 0 0 0 0 0 0 0 0)).of_)) (some (false,((s.reports r.of_).getD (Report.mk 0 0 0 0 0 0 0 0)).id,((s.reports r.of_).getD (Report.mk 0 0 0 0 0 0 0 0)).source,((s.reports r.of_).getD (Report.mk 0 0 0 0 0 0 0 0)).account,((s.reports r.of_).getD (Report.mk 0 0 0 0 0 0 0 0)).made,((s.reports r.of_).getD (Report.mk 0 0 0 0 0 0 0 0)).about,((s.reports r.of_).getD (Report.mk 0 0 0 0 0 0 0 0)).kind,((s.reports r.of_).getD (Report.mk 0 0 0 0 0 0 0 0)).cents,((s.reports r.of_).getD (Report.mk 0 0 0 0 0 0 0 0)).of_))) (some (false,((s.reports r.of_).getD (Report.mk 0 0 0 0 0 0 0 0)).id,((s.reports r.of_).getD (Report.mk 0 0 0 0 0 0 0 0)).source,((s.reports r.of_).getD (Report.mk 0 0 0 0 0 0 0 0)).account,((s.reports r.of_).getD (Report.mk 0 0 0 0 0 0 0 0)).made,((s.reports r.of_).getD (Report.mk 0 0 0 0 0 0 0 0)).about,((s.reports r.of_).getD (Report.mk 0 0 0 0 0 0 0 0)).kind,((s.reports r.of_).getD (Report.mk 0 0 0 0 0 0 0 0)).cents,((s.reports r.of_).getD (Report.mk 0 0 0 0 0 0 0 0)).of_))) ((fun (x1,x2,x3,x4,x5,x6,x7,x8,x9)=>some ((Report.mk x2 x3 x4 x5 x6 x7 x8 x9),x1)))
def AZH:An:=.nd (.x) (.nd (.x) (.nd (.jn [.norm ⟨[(.slot 5,.d .bool),(.cell 4 0,.d (.int .i64)),(.cell 4 1,.d (.int .i64)),(.cell 4 2,.d (.int .i64)),(.cell 4 3,.d (.int .i64)),(.cell 4 4,.d (.int .i64)),(.cell 4 5,.d (.int .u8)),(.cell 4 6,.d (.int .i64)),(.cell 4 7,.d (.int .i64))],[4]⟩] (.x)) (.x)))
def ctr71:Ctr:=⟨[.d (.st 13),.d (.st 1)],[.d (.st 1),.d .bool],fun a=>F0 a.1 a.2.1⟩
theorem ok71:Ctr.ok prog 71 ctr71:=B0 (G:={ gxb with fs:=[] }) (an:=AZH) (B1 trivial) func71 rfl rfl rfl rfl (fun a=>by kernel_rfl)
def R8(d:Desk_139)(id:Int):Option Bool:=some ((d.gone id).isSome)
def AXe:An:=.x
def ctr103:Ctr:=⟨[.d (.st 14),.d (.int .i64)],[.d .bool],fun a=>R8 a.1 a.2.1⟩
theorem ok103:Ctr.ok prog 103 ctr103:=B0 (G:={ gxb with fs:=[] }) (an:=AXe) (B1 trivial) func103 rfl rfl rfl rfl (fun a=>by kernel_rfl)
def Q1(l:(List Report))(known:Int):Option Desk_139:=(B7 (S:=(Int×(A4 Int Report))) (R:=((A4 Int Report))) (fun (x10,x11)=>cond (decide (x10<(l.length:Int))) ((ixo l x10).bind fun y12=>Option.bind (α:=((A4 Int Report))) (cond (decide (y12.made<=known)) (some (B4 x11 y12.id y12)) (some x11)) ((fun x13=>(chk .i64 (x10+1)).bind fun n14=>some (Sum.inl (n14,x13))))) (some (Sum.inr x11))) ((0:Int),(fnone:(A4 Int Report)))).bind ((fun x15=>W5 x15 fun l46=>(List.foldlM (m:=Option) (s:=((A4 Int Int))) (α:=Int×Report) (fun x37 (k38,v39)=>(F0 (Store.mk x15) v39).bind fun (r40,r41)=>Option.bind (α:=(Bool)) (cond (decide (v39.kind=9)) (cond (r41) (some (!decide (r40.kind=9))) (some false)) (some false)) ((fun x42=>Option.bind (α:=((A4 Int Int))) (cond (x42) (Option.bind (α:=(Bool)) (cond ((!((x37 r40.id).isSome))) (some true) (some (decide (v39.id<((x37 r40.id).getD 0))))) ((fun x43=>Option.bind (α:=((A4 Int Int))) (cond (x43) (some (B4 x37 r40.id v39.id)) (some x37)) ((fun x44=>some x44))))) (some x37)) ((fun x45=>some x45))))) (fnone:(A4 Int Int)) l46).bind fun x47=>W5 x15 fun l116=>(List.foldlM (m:=Option) (s:=((A4 Int Int))) (α:=Int×Report) (fun x99 (k100,v101)=>(F0 (Store.mk x15) v101).bind fun (r102,r103)=>Option.bind (α:=(Bool)) (cond ((!decide (v101.kind=8))) (some true) (cond ((!r103)) (some true) ((H6 r102).bind fun r104=>cond ((!r104)) (some true) ((ixA 10 r102.kind).bind fun i105=>(ixo glob0 (i105*1)).bind fun y106=>(F9 (0:Int) y106 ([v101.cents])).bind fun r107=>cond ((!r107)) (some true) ((R8 (Desk_139.mk (Store.mk x15) x47 x99) v101.id).bind fun r108=>cond (r108) (some true) ((R8 (Desk_139.mk (Store.mk x15) x47 x99) r102.id).bind fun r109=>some r109)))))) ((fun x110=>cond (x110) (some x99) (Option.bind (α:=(Bool)) (cond ((!((x99 r102.id).isSome))) (some true) ((D7 (((x15 ((x99 r102.id).getD 0)).getD (Report.mk 0 0 0 0 0 0 0 0)).made) v101.made).bind fun r111=>(D7 ((x99 r102.id).getD 0) v101.id).bind fun r112=>(AAX ([r111,r112])).bind fun r113=>some (decide (r113<0)))) ((fun x114=>Option.bind (α:=((A4 Int Int))) (cond (x114) (some (B4 x99 r102.id v101.id)) (some x99)) ((fun x115=>some x115)))))))) (fnone:(A4 Int Int)) l116).bind fun x117=>some (Desk_139.mk (Store.mk x15) x47 x117)))
def AZI:An:=.nd (.x) (.nd (.x) (.nd (.nd (.x) (.lp ⟨[(.slot 28,.d (.int .i64)),(.cont 21,.own (.mp 3 (.int .i64) (.st 1)))],[5,24,23,21,4]⟩ [.exit 0 ⟨[(.cont 21,.own (.mp 3 (.int .i64) (.st 1)))],[5,24,23,21,4]⟩] (.nd (.x) (.nd (.x) (.nd (.nd (.x) (.nd (.x) (.jn [.norm ⟨[(.cont 21,.own (.mp 3 (.int .i64) (.st 1)))],[5,24,23,21,4]⟩] (.x)))) (.x)))))) (.nd (.lp ⟨[(.cont 23,.own (.mp 3 (.int .i64) (.int .i64)))],[5,24,23,4]⟩ [] (.nd (.x) (.nd (.jn [.norm ⟨[(.slot 68,.d .bool)],[10,9,5,24,23,4]⟩] (.x)) (.jn [.norm ⟨[(.cont 23,.own (.mp 3 (.int .i64) (.int .i64)))],[5,24,23,4]⟩] (.nd (.nd (.x) (.nd (.jn [.norm ⟨[(.slot 84,.d .bool)],[10,9,5,24,23,4]⟩] (.x)) (.jn [.norm ⟨[(.cont 23,.own (.mp 3 (.int .i64) (.int .i64)))],[5,24,23,4]⟩] (.x)))) (.x)))))) (.nd (.lp ⟨[(.cont 24,.own (.mp 3 (.int .i64) (.int .i64)))],[5,24,23,4]⟩ [] (.nd (.x) (.nd (.nd (.jn [.norm ⟨[(.slot 140,.d .bool)],[16,15,5,24,23,4]⟩] (.x)) (.x)) (.nd (.x) (.nd (.x) (.nd (.jn [.norm ⟨[(.slot 169,.d .bool)],[16,15,5,24,23,4]⟩] (.x)) (.jn [.norm ⟨[(.cont 24,.own (.mp 3 (.int .i64) (.int .i64)))],[5,24,23,4]⟩] (.x)))))))) (.x)))))
def AXf:Ctr:=⟨[.d (.sl (.st 1)),.d (.int .i64)],[.d (.st 14)],fun a=>Q1 a.1 a.2.1⟩
theorem ok68:Ctr.ok prog 68 AXf:=ATi (G:={ gxb with fs:=[(66,ctr66),(71,ctr71),(72,ctr72),(88,ctr88),(103,ctr103),(104,ctr104)] }) (an:=AZI) (B1 ⟨⟨ok66,call66⟩,⟨⟨ok71,call71⟩,⟨⟨ok72,call72⟩,⟨⟨ok88,call88⟩,⟨⟨ok103,call103⟩,⟨⟨ok104,call104⟩,trivial⟩⟩⟩⟩⟩⟩) func68 rfl rfl rfl rfl (fun a=>by kernel_rfl)
def AMJ(yield:Report->Option Bool)(a1_:Desk_139):Option Unit:=W5 a1_.store.reports fun l21=>(List.foldlM (m:=Option) (s:=((A4 Int Report))) (α:=Int×Report) (fun x14 (k15,v16)=>Option.bind (α:=(Int×Int)) (cond ((a1_.fixed k15).isSome) (some (((a1_.store.reports ((a1_.fixed k15).getD 0)).getD (Report.mk 0 0 0 0 0 0 0 0)).about,((a1_.store.reports ((a1_.fixed k15).getD 0)).getD (Report.mk 0 0 0 0 0 0 0 0)).cents)) (some (v16.about,v16.cents))) ((fun (x17,x18)=>(H6 (Report.mk v16.id v16.source v16.account v16.made x17 v16.kind x18 v16.of_)).bind fun r19=>Option.bind (α:=((A4 Int Report))) (cond (r19) (some (B4 x14 k15 (Report.mk v16.id v16.source v16.account v16.made x17 v16.kind x18 v16.of_))) (some x14)) ((fun x20=>some x20))))) (fnone:(A4 Int Report)) l21).bind fun x22=>W5 a1_.gone fun l31=>(List.foldlM (m:=Option) (s:=((A4 Int Report))) (α:=Int×Int) (fun x28 (k29,v30)=>some (Z7 x28 k29)) x22 l31).bind fun x32=>W5 x32 fun l41=>(List.foldlM (m:=Option) (s:=((List Report))) (α:=Int×Report) (fun x37 (k38,v39)=>(appo 64 x37 ([v39])).bind fun l40=>some l40) ([]:(List Report)) l41).bind fun x42=>(C7 ([(107:Nat),(108:Nat)]) x42).bind fun (_,m43)=>(B7 (S:=(Int)) (R:=(Unit⊕Unit)) (fun x48=>cond (decide (x48<(m43.length:Int))) ((ixo m43 x48).bind fun y49=>(yield y49).bind fun y50=>cond ((!y50)) (some (Sum.inr (Sum.inr ()))) ((chk .i64 (x48+1)).bind fun n51=>some (Sum.inl n51))) (some (Sum.inr (Sum.inl ())))) (0:Int)).bind ((Sum.elim (fun _=>some ()) (fun r52=>some r52)))
def J0(a:(List Report))(b:(List Report)):Option Bool:=cond ((!decide ((a.length:Int)=(b.length:Int)))) (some false) ((B7 (S:=(Int)) (R:=(Unit⊕Bool)) (fun x5=>cond (decide (x5<(a.length:Int))) ((ixo a x5).bind fun y6=>(ixo b x5).bind fun y7=>cond ((!decide (y6=y7))) (some (Sum.inr (Sum.inr false))) ((chk .i64 (x5+1)).bind fun n8=>some (Sum.inl n8))) (some (Sum.inr (Sum.inl ())))) (0:Int)).bind ((Sum.elim (fun _=>some true) (fun r9=>some r9))))
def AZJ:An:=.nd (.x) (.nd (.x) (.nd (.nd (.x) (.lp ⟨[(.slot 5,.d (.int .i64))],[]⟩ [.exit 0 ⟨[],[]⟩,.ret] (.x))) (.x)))
def ctr18:Ctr:=⟨[.d (.sl (.st 1)),.d (.sl (.st 1))],[.d .bool],fun a=>J0 a.1 a.2.1⟩
theorem ok18:Ctr.ok prog 18 ctr18:=B0 (G:={ gxb with fs:=[] }) (an:=AZJ) (B1 trivial) func18 rfl rfl rfl rfl (fun a=>by kernel_rfl)
def R9(a:(List Letter))(b:(List Letter)):Option Bool:=cond ((!decide ((a.length:Int)=(b.length:Int)))) (some false) ((B7 (S:=(Int)) (R:=(Unit⊕Bool)) (fun x5=>cond (decide (x5<(a.length:Int))) ((ixo a x5).bind fun y6=>(ixo b x5).bind fun y7=>cond ((!decide (y6=y7))) (some (Sum.inr (Sum.inr false))) ((chk .i64 (x5+1)).bind fun n8=>some (Sum.inl n8))) (some (Sum.inr (Sum.inl ())))) (0:Int)).bind ((Sum.elim (fun _=>some true) (fun r9=>some r9))))
def AZK:An:=.nd (.x) (.nd (.x) (.nd (.nd (.x) (.lp ⟨[(.slot 5,.d (.int .i64))],[]⟩ [.exit 0 ⟨[],[]⟩,.ret] (.x))) (.x)))
def ctr19:Ctr:=⟨[.d (.sl (.st 6)),.d (.sl (.st 6))],[.d .bool],fun a=>R9 a.1 a.2.1⟩
theorem ok19:Ctr.ok prog 19 ctr19:=B0 (G:={ gxb with fs:=[] }) (an:=AZK) (B1 trivial) func19 rfl rfl rfl rfl (fun a=>by kernel_rfl)
def P3(s:(List Dispute)):Option (List Dispute):=
 AI4 s fun b1=>cond b1 (some []) ((appo 24 ([]:List Dispute) s).bind fun l7=>some l7)
def ctr59:Ctr:=⟨[.d (.sl (.st 2))],[.own (.sl 53 (.st 2))],fun a=>P3 a.1⟩
theorem AVR:SlT prog 25 53 (DisputeE).n 24:=rsl25
theorem AG2(hM:MLt M w){s:(List Dispute)}(f_s_0:RdS DisputeE M w v_s_0 s){r0:(List Dispute)}(h:P3 s=some r0):
  Calls prog 59 (toArray [v_s_0]) w fun e w'=>∃v0_0:Value,e=.returned (v0_0)/\(Sx.Own DisputeE 53 0 M w' v0_0 r0/\∀b∈ob v0_0,w.heap.size<=b)/\Ext w w':=by
 have hI:=Hp.start (Mu:=[]) hM
 refine B9 func59 rfl ntmps59 rfl ?_
 refine A3 ?_
 refine A7 ?_
 refine C6 rfl rfl ?_
 refine Reg.nil ?_
 refine A3 ?_
 refine A3 ?_
 refine A7 ?_
 refine E5 rfl rfl ?_
 refine ASD f_s_0 rfl rfl underlying25 rfl ?_
 intro b1 kb1
 replace h:=AKx h kb1
 refine Reg.nil ?_
 refine T4 rfl (fun hc2=>?_) (fun hc2=>?_)
 . replace h:=cdT hc2 h
   refine A3 ?_
   refine A7 ?_
   refine C6 rfl rfl ?_
   refine Reg.nil ?_
   refine C0 ?_
   obtain rfl:=AaO h
   refine fin1 results59 rfl ?_
   exact⟨_,rfl,⟨Own.nil _ _ _ _ _,fun _ hb=>by cases hb⟩,hI.kp⟩
 . replace h:=cdF hc2 h
   refine E2 ?_
   refine A3 ?_
   refine A7 ?_
   refine AEC (E:=DisputeE) (xs:=[]) AVR hI rfl rfl Cls.nil Chs.nil rfl rfl ?_
   intro v3 w4 hI5 x6
   refine E5 rfl rfl ?_
   obtain⟨l7,hl7,h⟩:=C5 h
   obtain⟨hbl7,el7⟩:=ABt hl7
   refine ADn 0 AVR hI5 rfl rfl rfl (f_s_0.adv hI5.adv) hbl7 rfl ?_
   rw[<-el7]
   intro v8 w9 hI10 x11
   refine C6 rfl rfl ?_
   refine Reg.nil ?_
   refine C0 ?_
   obtain rfl:=AaO h
   refine fin1 results59 rfl ?_
   exact⟨_,rfl,(hI10.ownOut 0 rfl),hI10.kp⟩
theorem ok59:Ctr.ok prog 59 ctr59:=by
 refine⟨by decide,fun M w a vals r hM _ ha hr=>?_⟩;obtain⟨v0,r0,rfl,h0,ha⟩:=ha;have ha:_=[]:=ha;subst ha;refine(AG2 hM (OkD.rds h0) hr).mono ?_;rintro e w' ⟨v,rfl,h1,h2⟩;exact⟨[v],rfl,⟨v,rfl,ALc h1⟩,h2⟩
def X0(s:(List Dispute))(f:Dispute->Option Bool):Option Int:=(B7 (S:=(Int)) (R:=(Unit⊕Int)) (fun x5=>cond (decide (x5<(s.length:Int))) ((ixo s x5).bind fun y6=>(f y6).bind fun y7=>cond (y7) (some (Sum.inr (Sum.inr x5))) ((chk .i64 (x5+1)).bind fun n8=>some (Sum.inl n8))) (some (Sum.inr (Sum.inl ())))) (0:Int)).bind ((Sum.elim (fun _=>some ((-1):Int)) (fun r9=>some r9)))
def AZL:An:=.nd (.x) (.nd (.nd (.x) (.lp ⟨[(.slot 8,.d (.int .i64))],[]⟩ [.exit 0 ⟨[],[]⟩,.ret] (.x))) (.x))
def ctr55:Ctr:=⟨[.d (.sl (.st 2)),.fn [(.st 2)] .bool],[.d (.int .i64)],fun a=>X0 a.1 a.2.1⟩
theorem ok55:Ctr.ok prog 55 ctr55:=B0 (G:={ gxb with fs:=[] }) (an:=AZL) (B1 trivial) func55 rfl rfl rfl rfl (fun a=>by kernel_rfl)
def AAB(x:Dispute)(a1_:Int):Option Bool:=some (decide (x.id=a1_))
def AZM:An:=.x
def ctr56:Ctr:=⟨[.d (.st 2),.pt (.int .i64)],[.d .bool],fun a=>AAB a.1 a.2.1⟩
theorem ok56:Ctr.ok prog 56 ctr56:=B0 (G:={ gxb with fs:=[] }) (an:=AZM) (B1 trivial) func56 rfl rfl rfl rfl (fun a=>by kernel_rfl)
def AAY  : Option Desk:=some (Desk.mk (Terms.mk 30 100 60) ([(Report.mk 1 70 5 12 10 3 500 0),(Report.mk 2 70 5 22 20 5 40 0),(Report.mk 3 70 5 26 25 6 500 0)]) ([(Dispute.mk 51 1 40),(Dispute.mk 52 2 41),(Dispute.mk 53 3 42)]) ([(Answer.mk 1 51 50 2 10 450),(Answer.mk 2 52 72 3 0 0),(Answer.mk 3 53 60 1 0 0),(Answer.mk 4 53 61 3 0 0)]))
def AZN:An:=.x
def ctr33:Ctr:=⟨[],[.d (.st 4)],fun a=>AAY ⟩
theorem ok33:Ctr.ok prog 33 ctr33:=B0 (G:={ gxb with fs:=[] }) (an:=AZN) (B1 trivial) func33 rfl rfl rfl rfl (fun a=>by kernel_rfl)
def R6(a:(List Int))(b:(List Int)):Option Bool:=cond ((!decide ((a.length:Int)=(b.length:Int)))) (some false) ((B7 (S:=(Int)) (R:=(Unit⊕Bool)) (fun x5=>cond (decide (x5<(a.length:Int))) ((ixo a x5).bind fun y6=>(ixo b x5).bind fun y7=>cond ((!decide (y6=y7))) (some (Sum.inr (Sum.inr false))) ((chk .i64 (x5+1)).bind fun n8=>some (Sum.inl n8))) (some (Sum.inr (Sum.inl ())))) (0:Int)).bind ((Sum.elim (fun _=>some true) (fun r9=>some r9))))
def AZO:An:=.nd (.x) (.nd (.x) (.nd (.nd (.x) (.lp ⟨[(.slot 5,.d (.int .i64))],[]⟩ [.exit 0 ⟨[],[]⟩,.ret] (.x))) (.x)))
def ctr37:Ctr:=⟨[.d (.sl (.int .i64)),.d (.sl (.int .i64))],[.d .bool],fun a=>R6 a.1 a.2.1⟩
theorem ok37:Ctr.ok prog 37 ctr37:=B0 (G:={ gxb with fs:=[] }) (an:=AZO) (B1 trivial) func37 rfl rfl rfl rfl (fun a=>by kernel_rfl)
def AKP  : Option (List Asked):=some ([(Asked.mk 5 900 5 15),(Asked.mk 6 900 5 45),(Asked.mk 7 901 5 55),(Asked.mk 8 902 6 45)])
def AZP:An:=.x
def ctr54:Ctr:=⟨[],[.own (.sl 47 (.st 5))],fun a=>AKP ⟩
theorem ok54:Ctr.ok prog 54 ctr54:=B0 (G:={ gxb with fs:=[] }) (an:=AZP) (B1 trivial) func54 rfl rfl rfl rfl (fun a=>by kernel_rfl)
def ABC(d:Desk)(day:Int):Option Bool:=Option.bind (α:=(Bool)) ((ACZ d).bind fun r3=>cond ((!r3)) ((ABB d).bind fun r4=>cond (decide (r4=0)) (cond (decide (0<=day)) (some (decide (day<=100000))) (some false)) (some false)) (some false)) ((fun x5=>some x5))
def AZQ:An:=.nd (.x) (.nd (.jn [.norm ⟨[(.slot 4,.d .bool)],[]⟩] (.x)) (.x))
def ctr22:Ctr:=⟨[.d (.st 4),.d (.int .i64)],[.d .bool],fun a=>ABC a.1 a.2.1⟩
theorem ok22:Ctr.ok prog 22 ctr22:=B0 (G:={ gxb with fs:=[(12,ctr12),(27,ctr27)] }) (an:=AZQ) (B1 ⟨⟨ok12,call12⟩,⟨⟨ok27,call27⟩,trivial⟩⟩) func22 rfl rfl rfl rfl (fun a=>by kernel_rfl)
def I0(b:Book)(kind:Int):Option (List Report):=(B7 (S:=(Int×(List Report))) (R:=((List Report))) (fun (x7,x8)=>cond (decide (x7<(b.facts.length:Int))) ((ixo b.facts x7).bind fun y9=>Option.bind (α:=((List Report))) (cond (decide (y9.kind=kind)) ((appo 64 x8 ([y9])).bind fun l10=>some l10) (some x8)) ((fun x11=>(chk .i64 (x7+1)).bind fun n12=>some (Sum.inl (n12,x11))))) (some (Sum.inr x8))) ((0:Int),([]:(List Report)))).bind ((fun x13=>some x13))
def AXg:An:=.nd (.x) (.nd (.x) (.nd (.nd (.x) (.lp ⟨[(.slot 11,.d (.int .i64)),(.slot 5,.own (.sl 45 (.st 1)))],[]⟩ [.exit 0 ⟨[(.slot 5,.own (.sl 45 (.st 1)))],[]⟩] (.nd (.x) (.nd (.x) (.nd (.nd (.x) (.nd (.x) (.jn [.norm ⟨[(.slot 5,.own (.sl 45 (.st 1)))],[]⟩] (.x)))) (.x)))))) (.x)))
def ctr117:Ctr:=⟨[.d (.st 15),.d (.int .u8)],[.own (.sl 45 (.st 1))],fun a=>I0 a.1 a.2.1⟩
theorem ok117:Ctr.ok prog 117 ctr117:=B0 (G:={ gxb with fs:=[] }) (an:=AXg) (B1 trivial) func117 rfl rfl rfl rfl (fun a=>by kernel_rfl)
def U7(r:Report)(a1_:Report)(a2_:Bool):Option Bool:=Option.bind (α:=(Bool)) (cond (decide (r.cents=a1_.cents)) (cond ((!a2_)) (some true) (some (decide (r.about=a1_.about)))) (some false)) ((fun x1=>some x1))
def AXh:An:=.nd (.x) (.nd (.jn [.norm ⟨[(.slot 4,.d .bool)],[]⟩] (.x)) (.x))
def ctr156:Ctr:=⟨[.d (.st 1),.pt (.st 1),.pt .bool],[.d .bool],fun a=>U7 a.1 a.2.1 a.2.2.1⟩
theorem ok156:Ctr.ok prog 156 ctr156:=B0 (G:={ gxb with fs:=[] }) (an:=AXh) (B1 trivial) func156 rfl rfl rfl rfl (fun a=>by kernel_rfl)
def O8(s:(List Report)):Option (List Report):=
 AI4 s fun b1=>cond b1 (some []) ((appo 64 ([]:List Report) s).bind fun l7=>some l7)
def ctr177:Ctr:=⟨[.d (.sl (.st 1))],[.own (.sl 45 (.st 1))],fun a=>O8 a.1⟩
theorem AJX:SlT prog 24 45 (ReportE).n 64:=rsl24
theorem AGF(hM:MLt M w){s:(List Report)}(f_s_0:RdS ReportE M w v_s_0 s){r0:(List Report)}(h:O8 s=some r0):
  Calls prog 177 (toArray [v_s_0]) w fun e w'=>∃v0_0:Value,e=.returned (v0_0)/\(Sx.Own ReportE 45 0 M w' v0_0 r0/\∀b∈ob v0_0,w.heap.size<=b)/\Ext w w':=by
 have hI:=Hp.start (Mu:=[]) hM
 refine B9 func177 rfl ntmps177 rfl ?_
 refine A3 ?_
 refine A7 ?_
 refine C6 rfl rfl ?_
 refine Reg.nil ?_
 refine A3 ?_
 refine A3 ?_
 refine A7 ?_
 refine E5 rfl rfl ?_
 refine ASD f_s_0 rfl rfl underlying24 rfl ?_
 intro b1 kb1
 replace h:=AKx h kb1
 refine Reg.nil ?_
 refine T4 rfl (fun hc2=>?_) (fun hc2=>?_)
 . replace h:=cdT hc2 h
   refine A3 ?_
   refine A7 ?_
   refine C6 rfl rfl ?_
   refine Reg.nil ?_
   refine C0 ?_
   obtain rfl:=AaO h
   refine fin1 results177 rfl ?_
   exact⟨_,rfl,⟨Own.nil _ _ _ _ _,fun _ hb=>by cases hb⟩,hI.kp⟩
 . replace h:=cdF hc2 h
   refine E2 ?_
   refine A3 ?_
   refine A7 ?_
   refine AEC (E:=ReportE) (xs:=[]) AJX hI rfl rfl Cls.nil Chs.nil rfl rfl ?_
   intro v3 w4 hI5 x6
   refine E5 rfl rfl ?_
   obtain⟨l7,hl7,h⟩:=C5 h
   obtain⟨hbl7,el7⟩:=ABt hl7
   refine ADn 0 AJX hI5 rfl rfl rfl (f_s_0.adv hI5.adv) hbl7 rfl ?_
   rw[<-el7]
   intro v8 w9 hI10 x11
   refine C6 rfl rfl ?_
   refine Reg.nil ?_
   refine C0 ?_
   obtain rfl:=AaO h
   refine fin1 results177 rfl ?_
   exact⟨_,rfl,(hI10.ownOut 0 rfl),hI10.kp⟩
theorem ok177:Ctr.ok prog 177 ctr177:=by
 refine⟨by decide,fun M w a vals r hM _ ha hr=>?_⟩;obtain⟨v0,r0,rfl,h0,ha⟩:=ha;have ha:_=[]:=ha;subst ha;refine(AGF hM (OkD.rds h0) hr).mono ?_;rintro e w' ⟨v,rfl,h1,h2⟩;exact⟨[v],rfl,⟨v,rfl,ALc h1⟩,h2⟩
def ABD(l:(List Report)):Option (List Int):=(O8 l).bind fun r1=>(C7 ([(108:Nat)]) r1).bind fun (_,m2)=>(B7 (S:=(Int×(List Int))) (R:=((List Int))) (fun (x8,x9)=>cond (decide (x8<(m2.length:Int))) ((ixo m2 x8).bind fun y10=>(appo 8 x9 ([y10.id])).bind fun l11=>(chk .i64 (x8+1)).bind fun n12=>some (Sum.inl (n12,l11))) (some (Sum.inr x9))) ((0:Int),([]:(List Int)))).bind ((fun x13=>some x13))
def AXi:An:=.nd (.x) (.nd (.x) (.nd (.nd (.x) (.lp ⟨[(.slot 11,.d (.int .i64)),(.slot 3,.own (.sl 3 (.int .i64)))],[7]⟩ [.exit 0 ⟨[(.slot 3,.own (.sl 3 (.int .i64)))],[]⟩] (.x))) (.x)))
def ctr157:Ctr:=⟨[.d (.sl (.st 1))],[.own (.sl 3 (.int .i64))],fun a=>ABD a.1⟩
theorem ok157:Ctr.ok prog 157 ctr157:=B0 (G:={ gxb with fs:=[(108,ctr108),(177,ctr177)],fm:=[(106,ctrm106)] }) (an:=AXi) (AEn ⟨⟨ok108,call108⟩,⟨⟨ok177,call177⟩,trivial⟩⟩ trivial ⟨⟨okm106,call106⟩,trivial⟩) func157 rfl rfl rfl rfl (fun a=>by kernel_rfl)
def Q2(l:(List Report))(only:Bool):Option Told:=cond (decide ((l.length:Int)=0)) (some (Told.mk 0 0 0 ([]:(List Int)))) ((ixo l 0).bind fun y1=>(ABD l).bind fun r2=>(B7 (S:=(Int×Int×Int)) (R:=(Int×Int)) (fun (x17,x18,x19)=>cond (decide (x17<(l.length:Int))) ((ixo l x17).bind fun y20=>(U7 y20 y1 only).bind fun r21=>Option.bind (α:=(Int×Int)) (cond ((!r21)) (some ((1:Int),(0:Int))) (some (x18,x19))) ((fun (x22,x23)=>(chk .i64 (x17+1)).bind fun n24=>some (Sum.inl (n24,x22,x23))))) (some (Sum.inr (x18,x19)))) ((0:Int),(2:Int),y1.cents)).bind ((fun (x25,x26)=>some (Told.mk x25 x26 y1.about r2))))
def AXj:An:=.nd (.x) (.nd (.x) (.nd (.x) (.nd (.x) (.nd (.x) (.nd (.nd (.x) (.lp ⟨[(.slot 27,.d (.int .i64)),(.cell 7 0,.d (.int .u8)),(.cell 7 1,.d (.int .i64))],[7,23,5,4,3]⟩ [.exit 0 ⟨[(.cell 7 0,.d (.int .u8)),(.cell 7 1,.d (.int .i64))],[7,23,4]⟩] (.nd (.x) (.nd (.x) (.nd (.nd (.x) (.nd (.x) (.jn [.norm ⟨[(.cell 7 0,.d (.int .u8)),(.cell 7 1,.d (.int .i64))],[7,23,5,4,3]⟩] (.x)))) (.x)))))) (.x))))))
def ctr132:Ctr:=⟨[.d (.sl (.st 1)),.d .bool],[.d (.st 7)],fun a=>Q2 a.1 a.2.1⟩
theorem ok132:Ctr.ok prog 132 ctr132:=B0 (G:={ gxb with fs:=[(156,ctr156),(157,ctr157)] }) (an:=AXj) (B1 ⟨⟨ok156,call156⟩,⟨⟨ok157,call157⟩,trivial⟩⟩) func132 rfl rfl rfl rfl (fun a=>by kernel_rfl)
def G3(b:Book)(kind:Int):Option Told:=(I0 b kind).bind fun r1=>(Q2 r1 true).bind fun r2=>some r2
def AXk:An:=.x
def AVS:Ctr:=⟨[.d (.st 15),.d (.int .u8)],[.d (.st 7)],fun a=>G3 a.1 a.2.1⟩
theorem ok110:Ctr.ok prog 110 AVS:=B0 (G:={ gxb with fs:=[(117,ctr117),(132,ctr132)] }) (an:=AXk) (B1 ⟨⟨ok117,call117⟩,⟨⟨ok132,call132⟩,trivial⟩⟩) func110 rfl rfl rfl rfl (fun a=>by kernel_rfl)
def F5(a:Told)(b:Told):Option Bool:=Option.bind (α:=(Bool)) (cond (decide (a.known=b.known)) (cond (decide (a.cents=b.cents)) (cond (decide (a.since=b.since)) ((R6 a.by_ b.by_).bind fun r2=>some r2) (some false)) (some false)) (some false)) ((fun x3=>some x3))
def AZR:An:=.nd (.x) (.nd (.jn [.norm ⟨[(.slot 4,.d .bool)],[]⟩] (.x)) (.x))
def ctr76:Ctr:=⟨[.d (.st 7),.d (.st 7)],[.d .bool],fun a=>F5 a.1 a.2.1⟩
theorem ok76:Ctr.ok prog 76 ctr76:=B0 (G:={ gxb with fs:=[(37,ctr37)] }) (an:=AZR) (B1 ⟨⟨ok37,call37⟩,trivial⟩) func76 rfl rfl rfl rfl (fun a=>by kernel_rfl)
def V8(a:State)(b:State):Option Bool:=Option.bind (α:=(Bool)) ((F5 a.opened b.opened).bind fun r7=>cond (r7) ((F5 a.limit b.limit).bind fun r8=>cond (r8) ((F5 a.owed b.owed).bind fun r9=>cond (r9) ((F5 a.late b.late).bind fun r10=>cond (r10) ((F5 a.default b.default).bind fun r11=>cond (r11) ((F5 a.closed b.closed).bind fun r12=>cond (r12) (cond (decide (a.paid=b.paid)) (some (decide (a.is_=b.is_))) (some false)) (some false)) (some false)) (some false)) (some false)) (some false)) (some false)) ((fun x13=>some x13))
def AZS:An:=.nd (.x) (.nd (.jn [.norm ⟨[(.slot 4,.d .bool)],[]⟩] (.x)) (.x))
def ctr39:Ctr:=⟨[.d (.st 9),.d (.st 9)],[.d .bool],fun a=>V8 a.1 a.2.1⟩
theorem ok39:Ctr.ok prog 39 ctr39:=B0 (G:={ gxb with fs:=[(76,ctr76)] }) (an:=AZS) (B1 ⟨⟨ok76,call76⟩,trivial⟩) func39 rfl rfl rfl rfl (fun a=>by kernel_rfl)
def N8(d:Desk_99):Option Int:=Option.bind (α:=(Bool)) ((D8 (0:Int) (1000:Int) ([d.desk.terms.answer])).bind fun r3=>cond ((!r3)) (some true) ((D8 (0:Int) (100000:Int) ([d.desk.terms.mark,d.desk.terms.lately])).bind fun r4=>some (!r4))) ((fun x5=>cond (x5) (some (50:Int)) (some (0:Int))))
def AXl:An:=.nd (.x) (.nd (.nd (.jn [.norm ⟨[(.slot 22,.d .bool)],[]⟩] (.x)) (.x)) (.x))
def AVT:Ctr:=⟨[.d (.st 10)],[.d (.int .i64)],fun a=>N8 a.1⟩
theorem ok202:Ctr.ok prog 202 AVT:=B0 (G:={ gxb with fs:=[(44,ctr44)] }) (an:=AXl) (B1 ⟨⟨ok44,call44⟩,trivial⟩) func202 rfl rfl rfl rfl (fun a=>by kernel_rfl)
def N9(d:Desk_99):Option Int:=(I5 d.desk.reports).bind fun r1=>some r1
def AXm:An:=.x
def AVU:Ctr:=⟨[.d (.st 10)],[.d (.int .i64)],fun a=>N9 a.1⟩
theorem ok203:Ctr.ok prog 203 AVU:=B0 (G:={ gxb with fs:=[(65,ctr65)] }) (an:=AXm) (B1 ⟨⟨ok65,call65⟩,trivial⟩) func203 rfl rfl rfl rfl (fun a=>by kernel_rfl)
def N4(x:Dispute)(a1_:Desk_99)(a2_:(A4 Int Bool)):Option Bool:=Option.bind (α:=(Bool)) (cond ((a1_.facts x.report).isSome) ((D8 (0:Int) (999999:Int) ([x.id])).bind fun r5=>cond (r5) (cond ((!((a2_ x.id).getD false))) ((chk .i64 (100000-a1_.desk.terms.answer)).bind fun n6=>(chk .i64 (n6-1)).bind fun n7=>(D8 (((a1_.facts x.report).getD (Report.mk 0 0 0 0 0 0 0 0)).made) n7 ([x.day])).bind fun r8=>some r8) (some false)) (some false)) (some false)) ((fun x9=>some x9))
def AXn:An:=.nd (.x) (.nd (.x) (.nd (.jn [.norm ⟨[(.slot 4,.d .bool)],[]⟩] (.x)) (.x)))
def ctr205:Ctr:=⟨[.d (.st 2),.pt (.st 10),.pt (.mp 3 (.int .i64) .bool)],[.d .bool],fun a=>N4 a.1 a.2.1 a.2.2.1⟩
theorem ok205:Ctr.ok prog 205 ctr205:=B0 (G:={ gxb with fs:=[(44,ctr44)] }) (an:=AXn) (B1 ⟨⟨ok44,call44⟩,trivial⟩) func205 rfl rfl rfl rfl (fun a=>by kernel_rfl)
def Y5(l:(List Dispute))(id:Dispute->Option Int)(right:Dispute->Option Bool):Option Bool:=(B7 (S:=(Int×(A4 Int Bool))) (R:=(Unit⊕Bool)) (fun (x16,x17)=>cond (decide (x16<(l.length:Int))) ((ixo l x16).bind fun y18=>Option.bind (α:=(Bool)) ((right y18).bind fun y19=>cond ((!y19)) (some true) ((id y18).bind fun y20=>some ((x17 y20).getD false))) ((fun x21=>cond (x21) (some (Sum.inr (Sum.inr false))) ((id y18).bind fun y22=>(chk .i64 (x16+1)).bind fun n23=>some (Sum.inl (n23,(B4 x17 y22 true))))))) (some (Sum.inr (Sum.inl ())))) ((0:Int),(fnone:(A4 Int Bool)))).bind ((Sum.elim (fun _=>some true) (fun r24=>some r24)))
def AXo:An:=.nd (.x) (.nd (.x) (.nd (.nd (.x) (.lp ⟨[(.slot 13,.d (.int .i64)),(.cont 10,.own (.mp 3 (.int .i64) .bool))],[10]⟩ [.exit 0 ⟨[],[]⟩,.ret] (.nd (.x) (.nd (.x) (.nd (.nd (.x) (.nd (.nd (.jn [.norm ⟨[(.slot 27,.d .bool)],[9,10]⟩] (.x)) (.x)) (.x))) (.x)))))) (.x)))
def ctr206:Ctr:=⟨[.d (.sl (.st 2)),.fn [(.st 2)] (.int .i64),.fn [(.st 2)] .bool],[.d .bool],fun a=>Y5 a.1 a.2.1 a.2.2.1⟩
theorem ok206:Ctr.ok prog 206 ctr206:=B0 (G:={ gxb with fs:=[] }) (an:=AXo) (B1 trivial) func206 rfl rfl rfl rfl (fun a=>by kernel_rfl)
def S9(x:Dispute):Option Int:=some x.id
def AXp:An:=.x
def ctr207:Ctr:=⟨[.d (.st 2)],[.d (.int .i64)],fun a=>S9 a.1⟩
theorem ok207:Ctr.ok prog 207 ctr207:=B0 (G:={ gxb with fs:=[] }) (an:=AXp) (B1 trivial) func207 rfl rfl rfl rfl (fun a=>by kernel_rfl)
def O0(d:Desk_99):Option Int:=(B7 (S:=(Int×(A4 Int Bool))) (R:=((A4 Int Bool))) (fun (x8,x9)=>cond (decide (x8<(d.desk.reports.length:Int))) ((ixo d.desk.reports x8).bind fun y10=>(chk .i64 (x8+1)).bind fun n11=>some (Sum.inl (n11,(B4 x9 y10.id true)))) (some (Sum.inr x9))) ((0:Int),(fnone:(A4 Int Bool)))).bind ((fun x12=>Option.bind (α:=(Bool)) (cond (decide (20<(d.desk.disputes.length:Int))) (some true) ((Y5 d.desk.disputes (fun a16=>S9 a16) (fun a17=>N4 a17 d x12)).bind fun r18=>some (!r18))) ((fun x19=>cond (x19) (some (51:Int)) (some (0:Int))))))
def AXq:An:=.nd (.x) (.nd (.x) (.nd (.nd (.x) (.lp ⟨[(.slot 12,.d (.int .i64)),(.cont 7,.own (.mp 3 (.int .i64) .bool))],[3,7,1]⟩ [.exit 0 ⟨[(.cont 7,.own (.mp 3 (.int .i64) .bool))],[3,7,1]⟩] (.x))) (.nd (.x) (.nd (.nd (.jn [.norm ⟨[(.slot 33,.d .bool)],[]⟩] (.x)) (.x)) (.x)))))
def AVV:Ctr:=⟨[.d (.st 10)],[.d (.int .i64)],fun a=>O0 a.1⟩
theorem ok204:Ctr.ok prog 204 AVV:=B0 (G:={ gxb with fs:=[(205,ctr205),(206,ctr206),(207,ctr207)] }) (an:=AXq) (B1 ⟨⟨ok205,call205⟩,⟨⟨ok206,call206⟩,⟨⟨ok207,call207⟩,trivial⟩⟩⟩) func204 rfl rfl rfl rfl (fun a=>by kernel_rfl)
def O9(x:Dispute)(a1_:Answer):Option Bool:=some (decide (x.id=a1_.dispute))
def AXr:An:=.x
def ctr210:Ctr:=⟨[.d (.st 2),.pt (.st 3)],[.d .bool],fun a=>O9 a.1 a.2.1⟩
theorem ok210:Ctr.ok prog 210 ctr210:=B0 (G:={ gxb with fs:=[] }) (an:=AXr) (B1 trivial) func210 rfl rfl rfl rfl (fun a=>by kernel_rfl)
def N5(a:Answer)(a1_:Desk_99):Option Bool:=(X0 a1_.desk.disputes (fun a1=>O9 a1 a)).bind fun r2=>Option.bind (α:=(Bool)) (cond (decide (r2<0)) (some true) ((D8 (0:Int) (999999:Int) ([a.id])).bind fun r5=>cond ((!r5)) (some true) ((D8 (0:Int) (100000:Int) ([a.day,a.about])).bind fun r6=>some (!r6)))) ((fun x7=>cond (x7) (some false) ((ixo a1_.desk.disputes r2).bind fun y8=>Option.bind (α:=(Bool)) (cond (decide (a.says=1)) (some (decide (a.says=1))) (some (decide (a.says=3)))) ((fun x9=>cond (x9) (Option.bind (α:=(Bool)) (cond (decide (a.about=0)) (some (decide (a.cents=0))) (some false)) ((fun x10=>some x10))) (cond (decide (a.says=2)) ((I5 ([(Report.mk (((a1_.facts y8.report).getD (Report.mk 0 0 0 0 0 0 0 0)).id) (((a1_.facts y8.report).getD (Report.mk 0 0 0 0 0 0 0 0)).source) (((a1_.facts y8.report).getD (Report.mk 0 0 0 0 0 0 0 0)).account) (((a1_.facts y8.report).getD (Report.mk 0 0 0 0 0 0 0 0)).made) a.about (((a1_.facts y8.report).getD (Report.mk 0 0 0 0 0 0 0 0)).kind) a.cents (((a1_.facts y8.report).getD (Report.mk 0 0 0 0 0 0 0 0)).of_))])).bind fun r11=>some (decide (r11=0))) (some false)))))))
def AXs:An:=.nd (.x) (.nd (.x) (.nd (.nd (.jn [.norm ⟨[(.slot 28,.d .bool)],[2]⟩] (.x)) (.x)) (.nd (.x) (.nd (.x) (.nd (.nd (.x) (.nd (.nd (.x) (.jn [.norm ⟨[(.slot 47,.d .bool)],[5,2]⟩] (.x))) (.nd (.nd (.jn [.norm ⟨[(.slot 3,.d .bool)],[]⟩] (.x)) (.x)) (.x)))) (.x))))))
def ctr209:Ctr:=⟨[.d (.st 3),.pt (.st 10)],[.d .bool],fun a=>N5 a.1 a.2.1⟩
theorem ok209:Ctr.ok prog 209 ctr209:=B0 (G:={ gxb with fs:=[(44,ctr44),(55,ctr55),(65,ctr65),(210,ctr210)] }) (an:=AXs) (B1 ⟨⟨ok44,call44⟩,⟨⟨ok55,call55⟩,⟨⟨ok65,call65⟩,⟨⟨ok210,call210⟩,trivial⟩⟩⟩⟩) func209 rfl rfl rfl rfl (fun a=>by kernel_rfl)
def Y6(l:(List Answer))(id:Answer->Option Int)(right:Answer->Option Bool):Option Bool:=(B7 (S:=(Int×(A4 Int Bool))) (R:=(Unit⊕Bool)) (fun (x16,x17)=>cond (decide (x16<(l.length:Int))) ((ixo l x16).bind fun y18=>Option.bind (α:=(Bool)) ((right y18).bind fun y19=>cond ((!y19)) (some true) ((id y18).bind fun y20=>some ((x17 y20).getD false))) ((fun x21=>cond (x21) (some (Sum.inr (Sum.inr false))) ((id y18).bind fun y22=>(chk .i64 (x16+1)).bind fun n23=>some (Sum.inl (n23,(B4 x17 y22 true))))))) (some (Sum.inr (Sum.inl ())))) ((0:Int),(fnone:(A4 Int Bool)))).bind ((Sum.elim (fun _=>some true) (fun r24=>some r24)))
def AXt:An:=.nd (.x) (.nd (.x) (.nd (.nd (.x) (.lp ⟨[(.slot 13,.d (.int .i64)),(.cont 10,.own (.mp 3 (.int .i64) .bool))],[10]⟩ [.exit 0 ⟨[],[]⟩,.ret] (.nd (.x) (.nd (.x) (.nd (.nd (.x) (.nd (.nd (.jn [.norm ⟨[(.slot 27,.d .bool)],[9,10]⟩] (.x)) (.x)) (.x))) (.x)))))) (.x)))
def ctr211:Ctr:=⟨[.d (.sl (.st 3)),.fn [(.st 3)] (.int .i64),.fn [(.st 3)] .bool],[.d .bool],fun a=>Y6 a.1 a.2.1 a.2.2.1⟩
theorem ok211:Ctr.ok prog 211 ctr211:=B0 (G:={ gxb with fs:=[] }) (an:=AXt) (B1 trivial) func211 rfl rfl rfl rfl (fun a=>by kernel_rfl)
def T2(a:Answer):Option Int:=some a.id
def AXu:An:=.x
def ctr212:Ctr:=⟨[.d (.st 3)],[.d (.int .i64)],fun a=>T2 a.1⟩
theorem ok212:Ctr.ok prog 212 ctr212:=B0 (G:={ gxb with fs:=[] }) (an:=AXu) (B1 trivial) func212 rfl rfl rfl rfl (fun a=>by kernel_rfl)
def O1(d:Desk_99):Option Int:=Option.bind (α:=(Bool)) (cond (decide (40<(d.desk.answers.length:Int))) (some true) ((Y6 d.desk.answers (fun a4=>T2 a4) (fun a5=>N5 a5 d)).bind fun r6=>some (!r6))) ((fun x7=>cond (x7) (some (52:Int)) (some (0:Int))))
def AXv:An:=.nd (.x) (.nd (.x) (.nd (.nd (.jn [.norm ⟨[(.slot 17,.d .bool)],[]⟩] (.x)) (.x)) (.x)))
def AVW:Ctr:=⟨[.d (.st 10)],[.d (.int .i64)],fun a=>O1 a.1⟩
theorem ok208:Ctr.ok prog 208 AVW:=B0 (G:={ gxb with fs:=[(209,ctr209),(211,ctr211),(212,ctr212)] }) (an:=AXv) (B1 ⟨⟨ok209,call209⟩,⟨⟨ok211,call211⟩,⟨⟨ok212,call212⟩,trivial⟩⟩⟩) func208 rfl rfl rfl rfl (fun a=>by kernel_rfl)
end
end Go.Proofs.YtgioiejbphljoaaGreatDoor
namespace Go.Proofs.YtgioiejbphljoaaGreatDoor
open Go Go.Sx Go.Rx Go.ChangeShapes Go.WideShapes Go.ChangeAt Go.RowKit
namespace frame
section
variable{W:World}
theorem own:ownKnob prog.godebug=none:=by kernel_rfl
theorem AEp:laidOutB prog=true:=by kernel_rfl
abbrev laid3:List (String×DataW Unit):=[("goodname/account.most",Rows.laid_goodname_account_most),("goodname/dispute.steps",Rows.laid_goodname_dispute_steps),("goodname/dispute.outcomes",Rows.laid_goodname_dispute_outcomes)]
theorem g0:prog.globalNamed "goodname/account.most" = some 0:=by kernel_rfl
theorem t0:(prog.globals[0]?).map (·.type)=some 181:=by kernel_rfl
theorem g1:prog.globalNamed "goodname/dispute.steps" = some 1:=by kernel_rfl
theorem t1:(prog.globals[1]?).map (·.type)=some 184:=by kernel_rfl
theorem g2:prog.globalNamed "goodname/dispute.outcomes" = some 2:=by kernel_rfl
theorem t2:(prog.globals[2]?).map (·.type)=some 202:=by kernel_rfl
theorem ARg(os:Os)(args:Array Value):laidMetH prog laid3 ((World.doorLaid prog 400 os).forCall (fun _ _=>0) ⟨#[],args,[]⟩).memory:=
 laidMetH_of_parts3 (fuel:=8) (laidMet_of_run' 8 (by kernel_rfl) (by kernel_rfl)) (by kernel_rfl) (by kernel_rfl)
theorem AOk{b:Nat}{cs:List Value}(h0:0<cs.length)(hc:∀j v,cs[j]?=some v->W.cell? ⟨b,0+j,none⟩=some v):RdC [] W b 0 cs:=by
 refine⟨by simp,?_,hc⟩;have h0:=hc 0 cs[0] (AaV h0);rcases Aag b W.heap.size with h|h
 . exact h
 . have:W.heap[b]?=none:=AbP (by omega);simp[World.cell?,this]at h0
theorem ATl(h:laidMet prog [("goodname/account.most",Rows.laid_goodname_account_most),("goodname/dispute.outcomes",Rows.laid_goodname_dispute_outcomes)] W):RdC [] W 0 0 (glob0.map (Value.int .i64)):=by
 obtain⟨ps,⟨q0,u0,cs0,f0,p0,r0,hg0,ht0,hv0,hd0,_,_⟩,_,_⟩:=h;obtain rfl:=AaO (g0.symm.trans hg0);obtain rfl:=AaO (t0.symm.trans ht0);obtain⟨xs,m,rfl,hx,hlen,hn,hel⟩:=DataW.trod_array underlying181 hd0;have c3:prog.cellsOf 3=1:=by kernel_rfl
 have hxs:xs.map (·.1)=glob0.map fun n=>DataW.lit (.int .i64 n):=by
  have:=AaX Prod.fst hx;simp only[Rows.laid_goodname_account_most,DataW.agg.injEq]at this;exact this.symm
 refine AOk (by decide) fun j v hj=>?_;have hj10:j<10:=by
  have:=(List.getElem?_eq_some_iff.1 hj).1;simpa[glob0] using this
 have h1:=hel j hj10;rw[c3,Nat.mul_one]at h1;obtain⟨x,hxj⟩:∃x,xs[j]?=some x:=⟨_,AaV (by omega)⟩;obtain⟨n,e1,e2,_⟩:=DataW.trod_int underlying3 (h1.trans hxj);have e3:(xs.map (·.1))[j]?=some (DataW.lit (.int .i64 n)):=by rw[Aa4,hxj,e2];rfl
 rw[hxs,Aa4]at e3;rw[Aa4]at hj;cases hg:glob0[j]? with
 |none=>rw[hg]at e3;cases e3
 |some y=>
  rw[hg]at e3 hj
  simp at e3 hj
  subst e3 hj
  have:=World.var?_cell hg0 hv0 j
  rw[Aao,this]
  have h9:=AaX (fun l:List Value=>l[0]?) e1
  simpa[List.getElem?_take,List.getElem?_drop] using h9
def stepN:List (List UInt8):=[[103,111,111,100,110,97,109,101,47,100,105,115,112,117,116,101,46,115,116,101,112,115,36,49],[103,111,111,100,110,97,109,101,47,100,105,115,112,117,116,101,46,115,116,101,112,115,36,50],[103,111,111,100,110,97,109,101,47,100,105,115,112,117,116,101,46,115,116,101,112,115,36,51],[103,111,111,100,110,97,109,101,47,100,105,115,112,117,116,101,46,115,116,101,112,115,36,52]]
theorem ARh(h:laidMetH prog laid3 W):RdC [] W 1 0 [.func (.func 202) #[] #[],.func (.func 203) #[] #[],.func (.func 204) #[] #[],.func (.func 208) #[] #[]]:=by
 obtain⟨q1,u1,cs1,f1,p1,hg1,ht1,hv1,hd1⟩:=laidMetH.funcs h (AaQ _ (AaT ..));obtain rfl:=AaO (g1.symm.trans hg1);obtain rfl:=AaO (t1.symm.trans ht1);obtain⟨xs,m,rfl,hx,hlen,hn,hel⟩:=DataW.trod_array underlying184 hd1;have c3:prog.cellsOf 183=1:=by kernel_rfl
 have hxs:xs.map (·.1)=stepN.map DataW.held:=by
  have:=AaX Prod.fst hx;simp only[DataW.agg.injEq,DataW.funcsOut]at this;exact this.symm
 have cell:∀(j:Nat) (b:UInt8) (r:List UInt8) (f0:FuncId),j<4->stepN[j]?=some (b::r)->((List.range prog.funcs.size).filter fun f=>(prog.funcs[f]?).any (·.name.toUTF8.data.toList==b::r))=[f0]->W.cell? ⟨1,0+j,none⟩=some (.func (.func f0) #[] #[]):=fun j b r f0 hj hs hone=>by
  have h1:=hel j hj;rw[c3,Nat.mul_one]at h1;obtain⟨x,hxj⟩:∃x,xs[j]?=some x:=⟨_,AaV (by omega)⟩;have e3:(xs.map (·.1))[j]?=some (DataW.held (b::r)):=by rw[hxs,Aa4,hs];rfl
  rw[Aa4,hxj]at e3;have e3:x.1=DataW.held (b::r):=AaO e3;have h2:=h1.trans hxj;have hcl:cs1.toList.length=4:=hlen.trans (by kernel_rfl);have hc:(cs1.toList.drop j).take 1=[cs1.toList[j]'(by omega)]:=by
   rw[Ab5 (by omega)];rfl
  rw[hc]at h2;obtain⟨x1,x2⟩:=x;have e3:x1=DataW.held (b::r):=e3;subst e3;have:=func_of_trod underlying183 hone h2;have h9:=World.var?_cell hg1 hv1 j;rw[Aao,h9];have hjs:j<cs1.size:=by simpa using (show j<cs1.toList.length by omega)
  rw[Abd hjs];congr 1
 refine AOk (by decide) fun j v hj=>?_;match j,hj with
 |0,hj=>cases hj;exact cell 0 _ _ _ (by decide) rfl (by kernel_rfl)
 |1,hj=>cases hj;exact cell 1 _ _ _ (by decide) rfl (by kernel_rfl)
 |2,hj=>cases hj;exact cell 2 _ _ _ (by decide) rfl (by kernel_rfl)
 |3,hj=>cases hj;exact cell 3 _ _ _ (by decide) rfl (by kernel_rfl)
 |n+4,hj=>cases hj
theorem AHC{H:Type}(x:Lit×DataW H):∀l:List (Lit×DataW H),(DataW.insert x l).Perm (x::l)
 |[]=>.refl _
 |y::r=>by
  unfold DataW.insert;split
  . exact .refl _
  . exact((AHC x r).cons y).trans (.swap x y r)
theorem AIn{H:Type}:∀l:List (Lit×DataW H),(l.foldr DataW.insert []).Perm l
 |[]=>.refl _
 |x::l=>(AHC x _).trans ((AIn l).cons x)
def Y7(x:Int×Int):Lit×DataW Unit:=(.int .u8 x.1,.lit (.int .u8 x.2))
def ASd:Value->Int
 |.int _ n=>n
 |_=>0
def P4(e:MapEntry):Int×Int:=(ASd e.key,ASd e.val)
theorem ANT{W:World}:∀l:List MapEntry,(∀e∈l,(e.key=.int .u8 (P4 e).1/\InK .u8 (P4 e).1)/\e.val=.int .u8 (P4 e).2/\InK .u8 (P4 e).2)->EntK (V6 (P:=prog) (kt:=5) .u8 underlying5) (A9 .u8) false [] W l (l.map P4)
 |[],_=>trivial
 |e::l,h=>by
  obtain⟨h1,h2,h3⟩:=h e (AaT ..);exact⟨h1,⟨[e.val],⟨by rw[<-h2],h3⟩,.inr ⟨rfl,rfl⟩⟩,ANT l fun e he=>h e (AaQ _ he)⟩
theorem ATm{v:Value}{l:Lit}(h:keyOf prog 5 v=some l):∃n,v=.int .u8 n/\l=.int .u8 n/\(Lit.int .u8 n).wf=true:=by
 rw[keyOf_int underlying5]at h;cases v<;>simp[mapKey,underlying5]at h
 obtain⟨⟨rfl,h1⟩,rfl⟩:=h;exact⟨_,rfl,rfl,h1⟩
theorem AVX(h:laidMet prog [("goodname/account.most",Rows.laid_goodname_account_most),("goodname/dispute.outcomes",Rows.laid_goodname_dispute_outcomes)] W):∃bm,RdC [] W 2 0 [.map (some bm)]/\MapH (V6 (P:=prog) (kt:=5) .u8 underlying5) (A9 .u8) false [] W bm AGt:=by
 obtain⟨ps,⟨_,_,_,_,_,_,_,_,_,_,⟨q2,u2,cs2,f2,p2,r2,hg2,ht2,hv2,hd2,_,_⟩,_⟩,_,_⟩:=h;obtain rfl:=AaO (g2.symm.trans hg2);obtain rfl:=AaO (t2.symm.trans ht2);rcases WideMaps.open_map (P:=prog) underlying202 underlying5 hd2 with⟨_,hx⟩|⟨bm,es,clock,hcs,hb,_,F,hx⟩
 . have:=AaX Prod.fst hx;cases this
 refine⟨bm,AOk Nat.one_pos fun j v hj=>?_,es,clock,es.toList.map P4,hb,?_,?_,?_⟩
 . match j,hj with
   |0,hj=>
    cases hj
    have:=World.var?_cell hg2 hv2 0
    rw[Aao,this,Array.eq_one_of_toList hcs]
    rfl
   |n+1,hj=>cases hj
 . obtain⟨s1,s2,_⟩:=(Go.MapKept.stamped_iff es clock).1 F.stamped;exact⟨s2,s1⟩
 all_goals
  have ent:∀e∈es.toList,((e.key=.int .u8 (P4 e).1/\InK .u8 (P4 e).1)/\e.val=.int .u8 (P4 e).2/\InK .u8 (P4 e).2)/\WideMaps.rg Unit prog 5 .u8 e=Y7 (P4 e):=fun e he=>by
   obtain⟨y,hy⟩:=F.reads e he;obtain⟨n,v1,v2,v3⟩:=WideMaps.rd_val hy;have hk:=WideMaps.rd_key hy;obtain⟨m,e2,e3,hw⟩:=ATm hk;have p1:P4 e=(m,n):=by unfold P4;rw[e2,v1];rfl
   rw[p1,WideMaps.rg_of hy];exact⟨⟨⟨e2,ALC hw⟩,v1,ALC v3⟩,Prod.ext e3 v2⟩
 . exact ANT _ fun e he=>(ent e he).1
 . have hE:es.toList.map (WideMaps.rg Unit prog 5 .u8)=(es.toList.map P4).map Y7:=by
    rw[Aau];exact List.map_congr_left fun e he=>(ent e he).2
   have hx1:Rows.laid_goodname_dispute_outcomes=DataW.map ((es.toList.map (WideMaps.rg Unit prog 5 .u8)).foldr DataW.insert []):=AaX Prod.fst hx;have hx2:[Y7 (1,2),Y7 (2,3),Y7 (3,4)]=(es.toList.map (WideMaps.rg Unit prog 5 .u8)).foldr DataW.insert []:=DataW.map.inj hx1;have hp:((es.toList.map P4).map Y7).Perm [Y7 (1,2),Y7 (2,3),Y7 (3,4)]:=by
    rw[<-hE,hx2];exact(AIn _).symm
   generalize es.toList.map P4=xs at hp;have inj:∀a b,Y7 a=Y7 b->a=b:=fun a b h=>by
    obtain⟨h1,h2⟩:=Prod.mk.inj h;injection h1 with _ h1;injection h2 with h2;injection h2 with _ h2;exact Prod.ext h1 h2
   refine⟨?_,fun a y=>?_⟩
   . have h1:=(hp.map Prod.fst).nodup_iff.2 (by simp[Y7]);rw[Aau]at h1;have e:(Prod.fst ∘ Y7)=(fun n:Int=>Lit.int .u8 n) ∘ (fun x:Int×Int=>x.1):=rfl;rw[e,<-Aau]at h1;exact(List.pairwise_map.1 h1).imp fun h9 h8=>h9 (by rw[h8])
   . have h1:(a,y)∈xs↔Y7 (a,y)∈xs.map Y7:=by
      constructor
      . exact fun h=>mem_map.2 ⟨_,h,rfl⟩
      . intro h;obtain⟨x,hx,e⟩:=mem_map.1 h;rw[<-inj _ _ e];exact hx
     rw[h1,hp.mem_iff];have h2:Y7 (a,y)∈[Y7 (1,2),Y7 (2,3),Y7 (3,4)]↔(a,y)∈[((1:Int),(2:Int)),(2,3),(3,4)]:=by
      simp only[mem_cons,List.not_mem_nil,or_false];constructor
      . rintro (h|h|h)
        . exact .inl (inj _ _ h)
        . exact .inr (.inl (inj _ _ h))
        . exact .inr (.inr (inj _ _ h))
      . rintro (h|h|h)<;>rw[h]<;>simp
     rw[h2];unfold AGt B4 fnone;simp only[mem_cons,List.not_mem_nil,or_false,Prod.mk.injEq];by_cases c3:a=3
     . subst c3;simp[eq_comm]
     . by_cases c2:a=2
       . subst c2;simp[eq_comm]
       . by_cases c1:a=1
         . subst c1;simp[eq_comm]
         . simp[c1,c2,c3]
theorem ATn(h:laidMetH prog laid3 W):GlOk (P:=prog) [] W:=by
 have hs:=ARh h;have h1:=(laidMetH_iff.1 h).1;rw[show(laid3.filter fun x=>x.2.handleName?.isNone)=[("goodname/account.most",Rows.laid_goodname_account_most),("goodname/dispute.outcomes",Rows.laid_goodname_dispute_outcomes)] from by kernel_rfl]at h1;have hm:=ATl h1;obtain⟨bm,ho,hmap⟩:=AVX h1;intro g s hg ρ R;match g,hg with
 |0,hg=>
  cases hg
  exact⟨0,0,.agg (toArray (glob0.map (Value.int .i64))),_,rfl,hm,⟨_,⟨by decide,rfl,rfl,by decide⟩,.inl ⟨rfl,rfl⟩⟩,rfl⟩
 |1,hg=>
  cases hg
  exact⟨1,0,.agg (toArray [.func (.func 202) #[] #[],.func (.func 203) #[] #[],.func (.func 204) #[] #[],.func (.func 208) #[] #[]]),_,rfl,hs,⟨_,rfl,⟨_,[_],_,rfl,⟨[],rfl,rfl⟩,rfl,⟨_,[_],_,rfl,⟨[],rfl,rfl⟩,rfl,⟨_,[_],_,rfl,⟨[],rfl,rfl⟩,rfl,⟨_,[_],_,rfl,⟨[],rfl,rfl⟩,rfl,rfl⟩⟩⟩⟩⟩,rfl⟩
 |2,hg=>
  cases hg
  exact⟨2,0,.map (some bm),_,rfl,ho,⟨rfl,⟨_,⟨_,_,rfl,rfl,⟨bm,rfl,by simp,hmap⟩⟩,.inr ⟨rfl,rfl⟩⟩⟩,rfl⟩
 |n+3,hg=>cases hg
end
end frame
end Go.Proofs.YtgioiejbphljoaaGreatDoor
namespace Go.Sx
section
variable{α:Type}{o:Option α}{a:α}{β:Type}{Q:β->Prop}
theorem C9{S R:Type}{body:S->Option (S⊕R)}{s0:S}{Q:R->Prop}(N:Nat)(I:Nat->S->Prop)(h0:I 0 s0)(step:∀n<N,∀s,I n s->Ret (body s) (Nxt (I (n+1)) Q))(fin:∀s,I N s->Ret (body s) (Nxt (fun _=>False) Q)):Ret (B7 body s0) Q:=by
 have key:∀(m n:Nat) (s:S),n+m=N->I n s->Ret (B7 body s) Q:=by
  intro m;induction m with
  |zero=>
   intro n s hn hs
   have:n=N:=by omega
   subst this
   obtain⟨r,h1,h2⟩:=fin s hs
   cases r with
   |inl s'=>exact h2.elim
   |inr r=>exact⟨r,ADm h1,h2⟩
  |succ m ih=>
   intro n s hn hs
   obtain⟨r,h1,h2⟩:=step n (by omega) s hs
   cases r with
   |inl s'=>rw[AKr h1];exact ih (n+1) s' (by omega) h2
   |inr r=>exact⟨r,ADm h1,h2⟩
 exact key N 0 s0 (by omega) h0
theorem Ret.eq(h:Ret o (·=a)):o=some a:=by
 obtain⟨b,h1,rfl⟩:=h;exact h1
theorem E7{K:α->Option β}{Q':α->Prop}(h:Ret o Q')(hk:∀a,Q' a->Ret (K a) Q):Ret (Option.bind o K) Q:=Ret.bind (h.mono hk)
theorem X9{K:α->Option β}(h:o=some a)(hk:Ret (K a) Q):Ret (Option.bind o K) Q:=Ret.bind (Ret.val h hk)
end
end Go.Sx
namespace Go.Proofs.YtgioiejbphljoaaGreatDoor
open Go Go.Sx Go.Rx
namespace S
section
variable{α:Type}{s:List α}{f:α->Option Bool}{g:α->Bool}{lo:Int}{hi:Int}{n:Int}{all:List Int}{k:Int}{b:Bool}{Q:Bool->Prop}
theorem bindS{α β:Type}(a:α)(f:α->Option β):(some a).bind f=f a:=rfl
theorem P9{l:List α}{n:Nat}(h:n<l.length):l.take (n+1)=l.take n++[l[n]]:=by
 rw[Ab8,AaV h];rfl
theorem G4{l:List α}{n:Nat}(h:n<l.length){x:α}:x∈l.take (n+1)↔x∈l.take n\/x=l[n]:=by
 rw[P9 h,Aaq,AcP]
theorem O2{l:List α}{n:Nat}{Q:α->Prop}(h:n<l.length)(q:Q l[n]):Ret (ixo l (n:Int)) Q:=Ret.ixo (AaV h) q
theorem ltT{n m:Nat}(h:n<m):decide ((n:Int)<(m:Int))=true:=Aab (by omega)
theorem ltF{n m:Nat}(h:m<=n):decide ((n:Int)<(m:Int))=false:=AaY (by omega)
def AHs{α:Type}(s:List α)(f:α->Option Bool):Option Int:=(B7 (S:=(Int)) (R:=(Unit⊕Int)) (fun x5=>cond (decide (x5<(s.length:Int))) ((ixo s x5).bind fun y6=>(f y6).bind fun y7=>cond (y7) (some (Sum.inr (Sum.inr x5))) ((chk .i64 (x5+1)).bind fun n8=>some (Sum.inl n8))) (some (Sum.inr (Sum.inl ())))) (0:Int)).bind ((Sum.elim (fun _=>some ((-1):Int)) (fun r9=>some r9)))
theorem AD7(h:∀x∈s,f x=some (g x))(hl:s.length<=1000000){Q:Int->Prop}(h1:(∀x∈s,g x=false)->Q (-1))(h2:∀(n:Nat) (hn:n<s.length),g s[n]=true->(∀x∈s.take n,g x=false)->Q n):Ret (AHs s f) Q:=by
 unfold AHs;refine Ret.bind (C9 s.length (fun n (t:Int)=>t=n/\∀x∈s.take n,g x=false) ⟨rfl,fun x hx=>by simp at hx⟩ ?_ ?_)
 . rintro n hlt _ ⟨rfl,hp⟩;refine Ret.condT (ltT hlt) (Ret.bind (O2 hlt (X9 (h _ (Aak hlt)) ?_)));refine Ret.cond (fun h3=>Ret.done (Ret.elimR (Ret.ok (h2 n hlt h3 hp)))) fun h3=>?_;refine Ret.bind (Ret.chk (by omega) (Ret.next ⟨by omega,fun x hx=>?_⟩));rw[G4 hlt]at hx;rcases hx with hx|rfl
   . exact hp x hx
   . exact h3
 . rintro _ ⟨rfl,hp⟩;rw[Aay]at hp;exact Ret.condF (ltF (Aae _)) (Ret.done (Ret.elimL (Ret.ok (h1 hp))))
theorem AOl(h:∀x∈s,f x=some (g x))(hl:s.length<=1000000):(AHs s f).bind (fun r1=>some (decide (0<=r1)))=some (s.any g):=by
 refine Ret.eq (Ret.bind (AD7 h hl (fun h1=>Ret.ok ?_) fun n hn h1 _=>Ret.ok ?_))
 . have:s.any g=false:=by
    rw[List.any_eq_false];intro x hx;rw[h1 x hx];decide
   rw[this];decide
 . have:s.any g=true:=List.any_eq_true.2 ⟨_,Aak hn,h1⟩;rw[this];exact Aab (by omega)
def inB(lo hi n:Int):Bool:=decide (lo<=n/\n<=hi)
theorem AAi(h:lo<=n/\n<=hi):inB lo hi n=true:=Aab h
theorem K6(h:inB lo hi n=true):lo<=n/\n<=hi:=AaW h
theorem AQJ:(!all.any fun n=>!inB lo hi n)=all.all (inB lo hi):=by
 rw[List.any_eq_not_all_not];simp
theorem AGG(hl:all.length<=1000000):F9 lo hi all=some (all.all (inB lo hi)):=by
 have:=AOl (s:=all) (f:=fun a1=>R5 a1 lo hi) (g:=fun n=>!inB lo hi n) (fun x _=>?_) hl
 . unfold F9;rw[show H1 all (fun a1=>R5 a1 lo hi)=_ from this,bindS,AQJ]
 . unfold R5;by_cases h:x<lo
   . simp[h,inB]<;>omega
   . by_cases h2:hi<x
     . simp[h,h2,inB]<;>omega
     . simp[h,h2,inB]<;>omega
theorem AVY(hl:all.length<=1000000):D8 lo hi all=some (all.all (inB lo hi)):=by
 have:=AOl (s:=all) (f:=fun a1=>R3 a1 lo hi) (g:=fun n=>!inB lo hi n) (fun x _=>?_) hl
 . unfold D8;rw[show H1 all (fun a1=>R3 a1 lo hi)=_ from this,bindS,AQJ]
 . unfold R3;by_cases h:x<lo
   . simp[h,inB]<;>omega
   . by_cases h2:hi<x
     . simp[h,h2,inB]<;>omega
     . simp[h,h2,inB]<;>omega
theorem d_in1:D8 lo hi [n]=some (inB lo hi n):=by
 rw[AVY (by simp)];simp
theorem d_in2{lo hi a b:Int}:D8 lo hi [a,b]=some (inB lo hi a&&inB lo hi b):=by
 rw[AVY (by simp)];simp
theorem AJY:E0 n lo hi=some (inB lo hi n):=by
 unfold E0;by_cases h:lo<=n
 . by_cases h2:n<=hi<;>simp[h,h2,inB]
 . simp[h,inB]
theorem within5:C8 n lo hi=some (inB lo hi n):=by
 unfold C8;by_cases h:lo<=n
 . by_cases h2:n<=hi<;>simp[h,h2,inB]
 . simp[h,inB]
def most(k:Int):Int:=if k=1\/k=7\/k=9 then 0 else if k=5 then 10000 else 1000000000000
theorem AQK(h:1<=k/\k<=9){γ:Type}{K:Int->Option γ}:((ixA 10 k).bind fun i=>(ixo glob0 (i*1)).bind K)=K (most k):=by
 have:k=1\/k=2\/k=3\/k=4\/k=5\/k=6\/k=7\/k=8\/k=9:=by omega
 rcases this with rfl|rfl|rfl|rfl|rfl|rfl|rfl|rfl|rfl<;>rfl
def V(r:Report):Prop:=(1<=r.kind/\r.kind<=9)/\(0<=r.id/\r.id<=999999)/\(0<=r.source/\r.source<=999999)/\(0<=r.account/\r.account<=999999)/\(0<=r.of_/\r.of_<=999999)/\(0<=r.made/\r.made<=100000)/\(0<=r.about/\r.about<=100000)/\(0<=r.cents/\r.cents<=most r.kind) /\
 (r.kind<=7->r.of_=0)/\(8<=r.kind->r.of_≠r.id)/\(r.kind=9->r.about=0)
theorem ATo{r:Report}(h:V r):U6 r=some true:=by
 obtain⟨c1,c2,c3,c4,c5,c6,c7,c8,c9,c10,c11⟩:=h;refine Ret.eq ?_;unfold U6;refine Ret.bind (Ret.bind (Ret.chk (by omega) ?_));rw[AGG (by simp),bindS];refine Ret.condF (by simp[inB,c1]) ?_;rw[AGG (by simp),bindS];refine Ret.condF (by simp[inB,c2,c3,c4,c5]) ?_;rw[AGG (by simp),bindS];refine Ret.condF (by simp[inB,c6,c7]) ?_;rw[AQK c1,AGG (by simp),bindS];refine Ret.ok (Ret.condF (by simp[inB,c8]) ?_);unfold H6;rw[bindS];refine Ret.cond (fun h=>?_) fun h=>?_
 . exact Ret.ok (Aab (c9 (AaW h)))
 . have h:=AaZ h;have hx:(cond (decide (r.kind=9)) (some (!decide (r.about=0))) (some false):Option Bool)=some false:=by
    by_cases c:r.kind=9
    . simp[c,c11 c]
    . simp[c]
   refine X9 hx (Ret.condF rfl (Ret.ok ?_));rw[AaY (c10 (by omega))];rfl
theorem AVZ(hk:1<=k/\k<=8):AA7 k n=some (inB 0 (most k) n):=by
 unfold AA7;rw[AJY,AJY];have:k=1\/k=2\/k=3\/k=4\/k=5\/k=6\/k=7\/k=8:=by omega
 rcases this with rfl|rfl|rfl|rfl|rfl|rfl|rfl|rfl<;>simp[most,inB]<;>(rw[Bool.eq_iff_iff];simp;omega)
theorem AVa(hk:1<=k/\k<=8):ABA k n=some (inB 0 (most k) n):=by
 unfold ABA;rw[within5,within5];have:k=1\/k=2\/k=3\/k=4\/k=5\/k=6\/k=7\/k=8:=by omega
 rcases this with rfl|rfl|rfl|rfl|rfl|rfl|rfl|rfl<;>simp[most,inB]<;>(rw[Bool.eq_iff_iff];simp;omega)
theorem Ret.no{o:Option Bool}(h1:Q true)(h2:b=true->Ret o Q):Ret (cond (!b) (some true) o) Q:=by
 cases b with
 |true=>exact h2 rfl
 |false=>exact Ret.ok h1
theorem Ret.last(h1:Q true)(h2:b=true->Q false):Ret (some (!b)) Q:=by
 cases b with
 |true=>exact Ret.ok (h2 rfl)
 |false=>exact Ret.ok h1
theorem ATp{r:Report}(hk:0<=r.kind/\r.kind<=255):Ret (AA8 r) fun b=>b=true->V r:=by
 unfold AA8;simp only[AJY,bindS];have bad:∀{o:Option Bool},Ret (cond true (some false) o) fun b=>b=true->V r:=fun {o}=>Ret.condT rfl (Ret.ok fun h=>by cases h);refine Ret.bind (Ret.no bad fun c2=>Ret.no bad fun c3=>Ret.no bad fun c4=>Ret.no bad fun c6=>Ret.no bad fun c7=>Ret.bind (Ret.chk (by omega) (Ret.last bad fun c1=>Ret.condF rfl ?_)));have c1:=K6 c1;have c2:=K6 c2;have c3:=K6 c3;have c4:=K6 c4;have c6:=K6 c6;have c7:=K6 c7;refine Ret.cond (fun h=>?_) fun h=>?_
 . have h:=AaW h;rw[AVZ (by omega),bindS];refine Ret.bind (Ret.cond (fun c8=>Ret.ok (Ret.ok fun h9=>?_)) fun _=>Ret.ok (Ret.ok fun h=>by cases h));have h9:=AaW h9;exact⟨c1,c2,c3,c4,by omega,c6,c7,K6 c8,fun _=>h9,fun h=>by omega,fun h=>by omega⟩
 . have h:=AaZ h;refine Ret.bind (Ret.no bad fun c5=>Ret.ok ?_);have c5:=K6 c5;refine Ret.cond (fun _=>Ret.ok fun h=>by cases h) fun c10=>?_;have c10:=AaZ c10;refine Ret.cond (fun c=>?_) fun c=>?_
   . have c:=AaW c;refine Ret.ok fun c8=>?_;have c8:=K6 c8;exact⟨c1,c2,c3,c4,c5,c6,c7,by rw[show most r.kind=1000000000000 by simp[most,c]];exact c8,fun h=>by omega,fun _=>c10,fun h=>by omega⟩
   . have c:=AaZ c;have c9:r.kind=9:=by omega
     refine Ret.bind (Ret.cond (fun c8=>Ret.ok (Ret.ok fun c11=>?_)) fun _=>Ret.ok (Ret.ok fun h=>by cases h));have c8:=AaW c8;have c11:=AaW c11;exact⟨c1,c2,c3,c4,c5,c6,c7,by rw[show most r.kind=0 by simp[most,c9]];omega,fun h=>by omega,fun _=>c10,fun _=>c11⟩
end
end S
namespace S
def AOm(l:List Report):Prop:=∀a∈l,∀b∈l,a.id=b.id->a=b
structure VL(l:List Report):Prop where
 len:l.length<=60
 v:∀r∈l,V r
 cons:AOm l
section
variable{α:Type}{g:α->Bool}{i:Int}{f:Report}
theorem ARi{l:List Report}(hk:∀r∈l,0<=r.kind/\r.kind<=255):Ret (AA9 l) fun e=>e=0->VL l:=by
 unfold AA9;refine Ret.cond (fun _=>Ret.ok fun h=>by cases h) fun c1=>?_;have c1:=AaZ c1;refine Ret.bind (C9 l.length (fun n (t:Int)=>t=n/\∀r∈l.take n,V r) ⟨rfl,fun r hr=>by simp at hr⟩ ?_ ?_)
 . rintro n hlt _ ⟨rfl,hv⟩;refine Ret.condT (ltT hlt) (Ret.bind (O2 hlt (Ret.bind ((ATp (hk _ (Aak hlt))).mono fun b hb=>?_))));cases b with
   |false=>exact Ret.condT rfl (Ret.done (Ret.elimR (Ret.ok fun h=>by cases h)))
   |true=>
    refine Ret.condF rfl (Ret.bind (Ret.chk (by omega) (Ret.next ⟨by omega,fun r hr=>?_⟩)))
    rw[G4 hlt]at hr
    rcases hr with hr|rfl
    . exact hv r hr
    . exact hb rfl
 rintro _ ⟨rfl,hv⟩;rw[Aay]at hv;refine Ret.condF (ltF (Aae _)) (Ret.done (Ret.elimL (Ret.bind (C9 l.length (fun n (t:Int)=>t=n/\AOm (l.take n)) ⟨rfl,fun a ha=>by simp at ha⟩ ?_ ?_))))
 . rintro n hlt _ ⟨rfl,hc⟩;refine Ret.condT (ltT hlt) (Ret.bind (C9 n (fun m (t:Int)=>t=m/\∀r∈l.take m,l[n].id=r.id->l[n]=r) ⟨rfl,fun r hr=>by simp at hr⟩ ?_ ?_))
   . rintro m hm _ ⟨rfl,hq⟩;have hml:m<l.length:=by omega
     refine Ret.condT (Aab (by omega)) (Ret.bind (Ret.bind (O2 hlt (Ret.bind (O2 hml (Ret.cond (fun h1=>?_) fun h1=>?_))))))
     . refine Ret.bind (O2 hlt (Ret.bind (O2 hml (Ret.ok ?_))));by_cases e:l[n]=l[m]
       . refine Ret.condF (by rw[Aab e];rfl) (Ret.bind (Ret.chk (by omega) (Ret.next ⟨by omega,fun r hr hi=>?_⟩)));rw[G4 hml]at hr;rcases hr with hr|rfl
         . exact hq r hr hi
         . exact e
       . exact Ret.condT (by rw[AaY e];rfl) (Ret.done (Ret.elimR (Ret.done (Ret.elimR (Ret.ok fun h=>by cases h)))))
     . have h1:=AaZ h1;refine Ret.ok (Ret.condF rfl (Ret.bind (Ret.chk (by omega) (Ret.next ⟨by omega,fun r hr hi=>?_⟩))));rw[G4 hml]at hr;rcases hr with hr|rfl
       . exact hq r hr hi
       . exact absurd hi h1
   . rintro _ ⟨rfl,hq⟩;refine Ret.condF (AaY (by omega)) (Ret.done (Ret.elimL (Ret.bind (Ret.chk (by omega) (Ret.next ⟨by omega,fun a ha b hb hab=>?_⟩)))));rw[G4 hlt]at ha hb;rcases ha with ha|rfl<;>rcases hb with hb|rfl
     . exact hc a ha b hb hab
     . exact(hq a ha hab.symm).symm
     . exact hq b hb hab
     . rfl
 . rintro _ ⟨rfl,hc⟩;rw[Aay]at hc;exact Ret.condF (ltF (Aae _)) (Ret.done (Ret.elimL (Ret.ok fun _=>⟨by omega,hv,hc⟩)))
theorem AGv{l:List Report}(h:VL l):I5 l=some 0:=by
 refine Ret.eq ?_;unfold I5;have hl:=h.len;refine Ret.condF (AaY (by omega)) ?_;have h1:R4 l (fun a1=>AAA a1)=some (l.any fun _=>false):=AOl (fun r hr=>by
  show (U6 r).bind _=_;rw[ATo (h.v r hr),bindS];rfl) (by omega)
 rw[h1,bindS];refine Ret.condF (by simp) (Ret.bind (C9 l.length (fun n (t:Int×A4 Int Report)=>t.1=n/\∀i r,t.2 i=some r->r∈l.take n/\r.id=i) ⟨rfl,fun i r hr=>by cases hr⟩ ?_ ?_))
 . rintro n hlt ⟨_,m⟩ ⟨rfl,hm⟩;dsimp only at hm;refine Ret.condT (ltT hlt) (Ret.bind (O2 hlt (Ret.bind (Ret.val (a:=false) ?_ (Ret.condF rfl (Ret.bind (Ret.chk (by omega) (Ret.next ⟨by dsimp only;omega,fun i r hr=>?_⟩))))))))
   . cases hq:m l[n].id with
     |none=>rfl
     |some y=>
      obtain⟨h2,h3⟩:=hm _ _ hq
      have:y=l[n]:=h.cons y (Ab1 h2) _ (Aak hlt) h3
      show some (!decide (y=l[n]))=_
      rw[Aab this];rfl
   . dsimp only[B4]at hr;rw[G4 hlt];split at hr
     . rename_i e;cases hr;exact⟨.inr rfl,e.symm⟩
     . obtain⟨h2,h3⟩:=hm _ _ hr;exact⟨.inl h2,h3⟩
 . rintro⟨_,m⟩ ⟨rfl,hm⟩;exact Ret.condF (ltF (Aae _)) (Ret.done (Ret.elimL (Ret.ok rfl)))
def fct(l:List Report)(i:Int):Option Report:=match l.find? fun r=>decide (r.id=i) with
 |some f=>if f.kind<=7 then some f else none
 |none=>none
theorem ATq{l:List α}{n:Nat}(hn:n<l.length)(h:g l[n]=true)(hp:∀x∈l.take n,g x=false):l.find? g=some l[n]:=by
 have e:l=l.take n++l[n]::l.drop (n+1):=by rw[List.getElem_cons_drop hn,Aby]
 have:∀(p q:List α) (x:α),(∀y∈p,g y=false)->g x=true->(p++x::q).find? g=some x:=by
  intro p q x hp hx;rw[List.find?_append,List.find?_eq_none.2 (fun y hy=>by rw[hp y hy];decide)];simp[List.find?,hx]
 conv=>lhs;rw[e]
 exact this _ _ _ hp h
theorem ATr{l:List α}(hp:∀x∈l,g x=false):l.find? g=none:=List.find?_eq_none.2 fun y hy=>by rw[hp y hy];decide
theorem At3{l:List Report}:ACz l i=AHs l fun r=>some (decide (r.id=i)):=rfl
theorem At5{d:Desk}:ACy d i=AHs d.disputes fun r=>some (decide (r.id=i)):=rfl
theorem AQL{l:List Report}(hl:l.length<=1000000){Q:Int->Prop}(h1:fct l i=none->Q (-1))(h2:∀(n:Nat) (hn:n<l.length),fct l i=some l[n]->Q n):Ret (W8 l i) Q:=by
 unfold W8;rw[At3];refine Ret.bind (AD7 (fun _ _=>rfl) hl (fun h=>?_) fun n hn h hp=>?_)
 . exact Ret.bind (Ret.condF (by decide) (Ret.ok (Ret.condF rfl (Ret.ok (h1 (by unfold fct;rw[ATr h]))))))
 . have hf:fct l i=if l[n].kind<=7 then some l[n] else none:=by unfold fct;rw[ATq hn h hp]
   refine Ret.bind (Ret.condT (Aab (by omega)) (Ret.bind (O2 hn (Ret.ok ?_))));refine Ret.cond (fun h3=>Ret.ok (h1 ?_)) fun h3=>Ret.ok (h2 n hn ?_)
   . have h3:=AaW h3;rw[hf,if_neg (by omega)]
   . have h3:=AaZ h3;rw[hf,Aac (by omega)]
theorem ABX{l:List Report}(h:fct l i=some f):f∈l/\f.id=i/\f.kind<=7:=by
 unfold fct at h;split at h
 . rename_i g hg;split at h
   . cases h
     exact⟨Abl hg,AaW (AcG (p:=fun r:Report=>decide (r.id=i)) hg),by assumption⟩
   . cases h
 . cases h
theorem AVb{l:List Report}(hc:AOm l)(h:f∈l)(hk:f.kind<=7):fct l f.id=some f:=by
 unfold fct;cases hg:l.find? fun r=>decide (r.id=f.id) with
 |none=>exact absurd (Aab rfl) (List.find?_eq_none.1 hg f h)
 |some g=>
  have:g=f:=hc g (Abl hg) f h (AaW (AcG (p:=fun r:Report=>decide (r.id=f.id)) hg))
  subst this
  show(if g.kind<=7 then some g else none)=_
  rw[Aac hk]
def TV(t:Terms):Prop:=(0<=t.answer/\t.answer<=1000)/\(0<=t.mark/\t.mark<=100000)/\(0<=t.lately/\t.lately<=100000)
def XV(d:Desk)(x:Dispute):Prop:=(0<=x.id/\x.id<=999999)/\(∀r∈d.reports,r.id≠x.id)/\∃f,fct d.reports x.report=some f/\f.made<=x.day/\x.day<=100000-d.terms.answer-1
end
structure DV(d:Desk):Prop where
 len:d.disputes.length<=20
 v:∀x∈d.disputes,XV d x
 nd:(d.disputes.map (·.id)).Nodup
theorem ASe{α:Type}{l:List α}{k:α->Int}(h:∀(n:Nat) (hn:n<l.length),∀x∈l.take n,k x≠k l[n]):(l.map k).Nodup:=by
 rw[List.Nodup,Abi,AbQ];intro i j hi hj hij;exact h j hj _ (List.mem_take_iff_getElem.2 ⟨i,by omega,rfl⟩)
theorem AOn{d:Desk}(hl:d.reports.length<=1000000)(hld:d.disputes.length<=1000000)(ht:TV d.terms)(hr:VL d.reports):Ret (Y4 d) fun b=>b=true->DV d:=by
 unfold Y4;obtain⟨t1,t2,t3⟩:=ht;refine Ret.cond (fun _=>Ret.ok fun h=>by cases h) fun c1=>?_;have c1:=AaZ c1;refine Ret.bind (C9 d.disputes.length (fun n (t:Int)=>t=n/\(∀x∈d.disputes.take n,XV d x)/\∀(m:Nat) (hm:m<n) (hml:m<d.disputes.length),∀x∈d.disputes.take m,x.id≠d.disputes[m].id) ⟨rfl,fun r hr=>by simp at hr,fun m hm=>by omega⟩ ?_ ?_)
 . rintro n hlt _ ⟨rfl,hv,hn⟩;have bad:∀{o:Option (Int⊕(Unit⊕Bool))} {N:Int->Prop},Ret (cond true (some (Sum.inr (Sum.inr false))) o) (Nxt N (fun a=>Ret (Sum.elim (fun _=>some true) (fun r27=>some r27) a) fun b=>b=true->DV d)):=fun {o N}=>Ret.condT rfl (Ret.done (Ret.elimR (Ret.ok fun h=>by cases h)));refine Ret.condT (ltT hlt) (Ret.bind (O2 hlt (Ret.bind ?_)));rw[within5,bindS];refine Ret.no bad fun c2=>?_;have c2:=K6 c2;rw[At5];refine Ret.bind (AD7 (fun _ _=>rfl) hld (fun h=>Ret.condT (by rw[AaY (by omega)];rfl) (Ret.ok bad)) fun k hk h hp=>?_);by_cases e:k=n;rotate_left
   . exact Ret.condT (by rw[AaY (by omega)];rfl) (Ret.ok bad)
   subst e;refine Ret.condF (by rw[Aab rfl];rfl) ?_;rw[At3];refine Ret.bind (AD7 (fun _ _=>rfl) hl (fun h2=>Ret.ok ?_) fun m hm _ _=>Ret.ok ?_);rotate_left
   . rw[Aab (by omega:(0:Int)<=(m:Int))];exact bad
   refine Ret.condF (by decide) (Ret.bind (AQL hl (fun h3=>Ret.bind (Ret.condT (by decide) (Ret.ok bad))) fun m hm h3=>Ret.bind (Ret.condF (AaY (by omega)) (Ret.bind (O2 hm (Ret.bind (Ret.chk (by omega) (Ret.bind (Ret.chk (by omega) ?_)))))))));rw[within5,bindS];refine Ret.last bad fun c4=>?_;have c4:=K6 c4;refine Ret.condF rfl (Ret.bind (Ret.chk (by omega) (Ret.next ⟨by omega,fun x hx=>?_,fun j hj hjl=>?_⟩)))
   . rw[G4 hlt]at hx;rcases hx with hx|rfl
     . exact hv x hx
     . exact⟨c2,fun r hr=>AaZ (h2 r hr),_,h3,c4.1,c4.2⟩
   . by_cases e:j<k
     . exact hn j e hjl
     . have:j=k:=by omega
       subst this;exact fun x hx=>AaZ (hp x hx)
 . rintro _ ⟨rfl,hv,hn⟩;rw[Aay]at hv;exact Ret.condF (ltF (Aae _)) (Ret.done (Ret.elimL (Ret.ok fun _=>⟨by omega,hv,ASe fun n hn2=>hn n hn2 hn2⟩)))
def AV(d:Desk)(a:Answer):Prop:=(0<=a.id/\a.id<=999999)/\(0<=a.day/\a.day<=100000)/\(1<=a.says/\a.says<=3)/\∃x∈d.disputes,x.id=a.dispute/\(a.says≠2->a.about=0/\a.cents=0)/\(a.says=2->∀f,fct d.reports x.report=some f->(0<=a.about/\a.about<=100000)/\0<=a.cents/\a.cents<=most f.kind)
structure WV(d:Desk):Prop where
 len:d.answers.length<=40
 v:∀a∈d.answers,AV d a
 nd:(d.answers.map (·.id)).Nodup
theorem AQM{d:Desk}(hs:∀a∈d.answers,0<=a.says/\a.says<=255)(hr:VL d.reports)(hd:DV d):Ret (AAM d) fun b=>b=true->WV d:=by
 unfold AAM;have hrl:=hr.len;have hdl:=hd.len;refine Ret.cond (fun _=>Ret.ok fun h=>by cases h) fun c1=>?_;have c1:=AaZ c1;refine Ret.bind (C9 d.answers.length (fun n (t:Int)=>t=n/\(∀x∈d.answers.take n,AV d x)/\∀(m:Nat) (hm:m<n) (hml:m<d.answers.length),∀x∈d.answers.take m,x.id≠d.answers[m].id) ⟨rfl,fun r hr=>by simp at hr,fun m hm=>by omega⟩ ?_ ?_)
 . rintro n hlt _ ⟨rfl,hv,hn⟩;refine Ret.condT (ltT hlt) (Ret.bind (Ret.bind (O2 hlt (Ret.bind (C9 n (fun m (t:Int)=>t=m/\∀r∈d.answers.take m,r.id≠d.answers[n].id) ⟨rfl,fun r hr=>by simp at hr⟩ ?_ ?_)))))
   . rintro m hm _ ⟨rfl,hq⟩;have hml:m<d.answers.length:=by omega
     refine Ret.condT (Aab (by omega)) (Ret.bind (O2 hml (Ret.cond (fun h1=>?_) fun h1=>?_)))
     . exact Ret.done (Ret.elimR (Ret.ok (Ret.elimR (Ret.done (Ret.elimR (Ret.ok fun h=>by cases h))))))
     . refine Ret.bind (Ret.chk (by omega) (Ret.next ⟨by omega,fun r hr=>?_⟩));rw[G4 hml]at hr;rcases hr with hr|rfl
       . exact hq r hr
       . exact AaZ h1
   rintro _ ⟨rfl,hq⟩;refine Ret.condF (AaY (by omega)) (Ret.done (Ret.elimL (Ret.bind ?_)));have bad:∀{o:Option (Unit⊕Bool)} {N:Int->Prop},Ret (cond true (some (Sum.inr false)) o) fun a=>Ret (Sum.elim (fun _=>(chk .i64 ((n:Int)+1)).bind fun n68=>some (Sum.inl n68)) (fun r69=>(some (Sum.inr (Sum.inr r69)):Option (Int⊕(Unit⊕Bool)))) a) (Nxt N (fun a=>Ret (Sum.elim (fun (_:Unit)=>some true) (fun r70=>some r70) a) fun b=>b=true->WV d)):=fun {o N}=>Ret.condT rfl (Ret.ok (Ret.elimR (Ret.done (Ret.elimR (Ret.ok fun h=>by cases h)))));rw[within5,bindS];refine Ret.no bad fun c2=>?_;rw[within5,bindS];refine Ret.no bad fun c3=>Ret.bind (Ret.chk (by have:=hs _ (Aak hlt);omega) ?_);rw[within5,bindS];refine Ret.last bad fun c4=>Ret.condF rfl ?_;have c2:=K6 c2;have c3:=K6 c3;have c4:=K6 c4;have fin:(∃x∈d.disputes,x.id=d.answers[n].dispute/\(d.answers[n].says≠2->d.answers[n].about=0/\d.answers[n].cents=0)/\(d.answers[n].says=2->∀f,fct d.reports x.report=some f->(0<=d.answers[n].about/\d.answers[n].about<=100000)/\0<=d.answers[n].cents/\d.answers[n].cents<=most f.kind))->Ret (Sum.elim (fun _=>(chk .i64 ((n:Int)+1)).bind fun n68=>some (Sum.inl n68)) (fun r69=>some (Sum.inr (Sum.inr r69))) (Sum.inl ():Unit⊕Bool)) (Nxt (fun (t:Int)=>t=((n+1:Nat):Int)/\(∀x∈d.answers.take (n+1),AV d x)/\∀(m:Nat) (hm:m<n+1) (hml:m<d.answers.length),∀x∈d.answers.take m,x.id≠d.answers[m].id) (fun a=>Ret (Sum.elim (fun (_:Unit)=>some true) (fun r70=>some r70) a) fun b=>b=true->WV d)):=fun hx=>by
    refine Ret.elimL (Ret.bind (Ret.chk (by omega) (Ret.next ⟨by omega,fun x hx2=>?_,fun j hj hjl=>?_⟩)))
    . rw[G4 hlt]at hx2;rcases hx2 with hx2|rfl
      . exact hv x hx2
      . exact⟨c2,c3,c4,hx⟩
    . by_cases e:j<n
      . exact hn j e hjl
      . have:j=n:=by omega
        subst this;exact hq
   rw[At5];refine Ret.bind (AD7 (fun _ _=>rfl) (by omega) (fun h=>Ret.condT (by decide) (Ret.ok (Ret.elimR (Ret.done (Ret.elimR (Ret.ok fun h=>by cases h)))))) fun k hk h hp=>Ret.condF (AaY (by omega)) ?_);have h:=AaW h;refine Ret.cond (fun h1=>?_) fun h1=>?_
   . have h1:¬d.answers[n].says=2:=AaZ (by simpa using h1);refine Ret.bind (Ret.cond (fun _=>Ret.ok bad) fun h2=>Ret.ok ?_);have h2:d.answers[n].about=0:=by simpa using h2
     by_cases h3:d.answers[n].cents=0
     . exact Ret.condF (by rw[Aab h3];rfl) (Ret.ok (fin ⟨_,Aak hk,h,fun _=>⟨h2,h3⟩,fun h=>absurd h h1⟩))
     . rw[AaY h3];exact bad
   . have h1:d.answers[n].says=2:=by simpa using h1
     obtain⟨_,_,f,hf,_⟩:=hd.v _ (Aak hk);refine Ret.bind (O2 hk (Ret.bind (AQL (by omega) (fun h3=>by rw[hf]at h3;cases h3) fun m hm h3=>Ret.bind (O2 hm (Ret.bind ?_)))));rw[within5,bindS];refine Ret.no bad fun c5=>?_;have c5:=K6 c5;have hfk:=(ABX h3).2.2;have hfv:=(hr.v _ (ABX h3).1).1;rw[AVa (by omega),bindS];refine Ret.last bad fun c6=>Ret.condF rfl (Ret.ok (fin ⟨_,Aak hk,h,fun h=>absurd h1 h,fun _ g hg=>?_⟩));rw[h3]at hg;cases hg
     exact⟨c5,K6 c6⟩
 . rintro _ ⟨rfl,hv,hn⟩;rw[Aay]at hv;exact Ret.condF (ltF (Aae _)) (Ret.done (Ret.elimL (Ret.ok fun _=>⟨by omega,hv,ASe fun n hn2=>hn n hn2 hn2⟩)))
structure Vd(d:Desk):Prop where
 t:TV d.terms
 r:VL d.reports
 x:DV d
 a:WV d
structure InD(d:Desk):Prop where
 k:∀r∈d.reports,0<=r.kind/\r.kind<=255
 s:∀a∈d.answers,0<=a.says/\a.says<=255
theorem ARj{d:Desk}(hin:InD d)(hlx:d.disputes.length<=1000000):Ret (ABB d) fun e=>e=0->Vd d:=by
 unfold ABB;have bad:∀{o:Option Int},Ret (cond true (some (50:Int)) o) fun e=>e=0->Vd d:=fun {o}=>Ret.condT rfl (Ret.ok fun h=>by cases h);rw[within5,within5,within5];refine Ret.bind ?_;rw[bindS];refine Ret.no bad fun c1=>?_;rw[bindS];refine Ret.no bad fun c2=>?_;rw[bindS];refine Ret.last bad fun c3=>Ret.condF rfl ?_;have ht:TV d.terms:=⟨K6 c1,K6 c2,K6 c3⟩;refine E7 (ARi hin.k) fun e he=>?_;by_cases e0:e=0;rotate_left
 . exact Ret.condT (by rw[AaY e0];rfl) (Ret.ok fun h=>absurd h e0)
 subst e0;have hr:=he rfl;refine Ret.condF (by decide) (E7 (AOn (by have:=hr.len;omega) hlx ht hr) fun b hb=>?_);cases b with
 |false=>exact Ret.condT rfl (Ret.ok fun h=>by cases h)
 |true=>
  have hx:=hb rfl
  refine Ret.condF rfl (E7 (AQM hin.s hr hx) fun b hb=>?_)
  cases b with
  |false=>exact Ret.condT rfl (Ret.ok fun h=>by cases h)
  |true=>exact Ret.condF rfl (Ret.ok fun _=>⟨ht,hr,hx,hb rfl⟩)
theorem ATs{d:Desk}(hin:InD d){day:Int}:Ret (ABC d day) fun b=>b=true->Vd d/\0<=day/\day<=100000:=by
 unfold ABC ACZ;have no:Ret (some false) fun b=>b=true->Vd d/\0<=day/\day<=100000:=Ret.ok fun h=>by cases h
 refine Ret.bind (Ret.bind (Ret.bind (Ret.cond (fun _=>Ret.ok (Ret.ok (Ret.condF rfl (Ret.ok no)))) fun c1=>Ret.cond (fun _=>Ret.ok (Ret.ok (Ret.condF rfl (Ret.ok no)))) fun c2=>?_)));have c2:=AaZ c2;by_cases c3:(60:Int)<(d.answers.length:Int)
 . rw[Aab c3];exact Ret.ok (Ret.ok (Ret.condF rfl (Ret.ok no)))
 rw[AaY c3];refine Ret.ok (Ret.ok (Ret.condT rfl (E7 (ARj hin (by omega)) fun e he=>Ret.cond (fun e0=>?_) fun _=>Ret.ok no)));refine Ret.cond (fun c4=>Ret.ok (Ret.ok fun c5=>⟨he (AaW e0),AaW c4,AaW c5⟩)) fun _=>Ret.ok no
end S
namespace frame
section
variable{M:List Nat}{w:World}{cs:List Value}{d:Desk}
theorem ANU{α:Type}{E:Enc α}{p:α->Prop}(hE:∀{M w cs x},E.R M w cs x->p x){v:Value}{xs:List α}(h:RdS E M w v xs):∀x∈xs,p x:=fun r hr=>by
 obtain⟨a,c,_,_,_,h4⟩:=h;rcases h4 with rfl|⟨b,o,_,_,_,h5⟩
 . cases hr
 . obtain⟨i,hi,rfl⟩:=AbV hr;obtain⟨cs,hR,_⟩:=h5 i hi;exact hE hR
theorem inD(h:DeskE.R M w cs d):S.InD d:=by
 obtain⟨_,_,_,_,h⟩:=h;obtain⟨_,_,_,_,h⟩:=h;obtain⟨_,_,_,_,h⟩:=h;obtain⟨_,_,_,⟨_,_,h1⟩,h⟩:=h;obtain⟨_,_,_,_,⟨_,_,h2⟩⟩:=h;exact⟨ANU (fun h=>by have:=(ReportE_R.1 h).2.2.2.2.2.2.1;rw[InK.u8]at this;exact this) h1,ANU (fun h=>by have:=(AnswerE_R.1 h).2.2.2.2.1;rw[InK.u8]at this;exact this) h2⟩
def DeskBE:Enc Desk:=S6 (fun x=>(x.terms,(x.reports,(x.disputes,x.answers)))) (B2 TermsE (B2 (E6 ReportE) (B2 (E6 DisputeE) (E6 AnswerE))))
theorem ATt(h:DeskBE.R M w cs d):DeskE.R M w cs d:=by
 obtain⟨c1,c2,rfl,⟨d1,d2,rfl,h1,⟨d3,d4,rfl,h2,h3⟩⟩,h⟩:=h;exact⟨d1,d3++(d4++c2),by simp,h1,⟨d3,d4++c2,rfl,h2,⟨d4,c2,rfl,h3,h⟩⟩⟩
end
end frame
end Go.Proofs.YtgioiejbphljoaaGreatDoor
namespace Go.Proofs.YtgioiejbphljoaaGreatDoor
open Go Go.Sx Go.Rx Go.RowKit
def AAC(d:Desk_139):Option (List Report×Int×Int):=W5 d.store.reports fun l21=>(List.foldlM (m:=Option) (s:=((A4 Int Report))) (α:=Int×Report) (fun x14 (k15,v16)=>Option.bind (α:=(Int×Int)) (cond ((d.fixed k15).isSome) (some (((d.store.reports ((d.fixed k15).getD 0)).getD (Report.mk 0 0 0 0 0 0 0 0)).about,((d.store.reports ((d.fixed k15).getD 0)).getD (Report.mk 0 0 0 0 0 0 0 0)).cents)) (some (v16.about,v16.cents))) ((fun (x17,x18)=>(H6 (Report.mk v16.id v16.source v16.account v16.made x17 v16.kind x18 v16.of_)).bind fun r19=>Option.bind (α:=((A4 Int Report))) (cond (r19) (some (B4 x14 k15 (Report.mk v16.id v16.source v16.account v16.made x17 v16.kind x18 v16.of_))) (some x14)) ((fun x20=>some x20))))) (fnone:(A4 Int Report)) l21).bind fun x22=>W5 d.gone fun l31=>(List.foldlM (m:=Option) (s:=((A4 Int Report))) (α:=Int×Int) (fun x28 (k29,v30)=>some (Z7 x28 k29)) x22 l31).bind fun x32=>W5 x32 fun l41=>(List.foldlM (m:=Option) (s:=((List Report))) (α:=Int×Report) (fun x37 (k38,v39)=>(appo 64 x37 ([v39])).bind fun l40=>some l40) ([]:(List Report)) l41).bind fun x42=>(C7 ([(107:Nat),(108:Nat)]) x42).bind fun (_,m43)=>some (m43,(m43.length:Int),0)
def AMK:An:=.nd (.x) (.nd (.lp ⟨[(.cont 14,.own (.mp 3 (.int .i64) (.st 1)))],[14]⟩ [] (.nd (.nd (.x) (.nd (.x) (.jn [.norm ⟨[(.cell 5 4,.d (.int .i64)),(.cell 5 6,.d (.int .i64))],[5,14]⟩] (.x)))) (.nd (.x) (.jn [.norm ⟨[(.cont 14,.own (.mp 3 (.int .i64) (.st 1)))],[14]⟩] (.x))))) (.nd (.lp ⟨[(.cont 14,.own (.mp 3 (.int .i64) (.st 1)))],[14]⟩ [] (.x)) (.nd (.x) (.nd (.lp ⟨[(.slot 9,.own (.sl 45 (.st 1)))],[]⟩ [] (.x)) (.x)))))
def V4(l:List Report)(known:Int):Option ((List Report×Int)⊕(List Report×Int)):=(I5 l).bind fun r1=>cond ((!decide (r1=0))) (some (Sum.inr (([]:(List Report)),r1))) ((F9 (0:Int) (100000:Int) ([known])).bind fun r2=>cond ((!r2)) (some (Sum.inr (([]:(List Report)),(2:Int)))) (some (Sum.inl (l,known))))
def ANV:An:=.x
def U8(d:Desk):Option (A4 Int Report):=(B7 (S:=(Int×(A4 Int Report))) (R:=((A4 Int Report))) (fun (x10,x11)=>cond (decide (x10<(d.reports.length:Int))) ((ixo d.reports x10).bind fun y12=>Option.bind (α:=((A4 Int Report))) (cond (decide (y12.kind<=7)) (some (B4 x11 y12.id y12)) (some x11)) ((fun x13=>(chk .i64 (x10+1)).bind fun n14=>some (Sum.inl (n14,x13))))) (some (Sum.inr x11))) ((0:Int),(fnone:(A4 Int Report)))).bind ((fun x15=>some (x15)))
def anpre70:An:=.nd (.x) (.nd (.x) (.nd (.x) (.lp ⟨[(.slot 19,.d (.int .i64)),(.cont 13,.own (.mp 3 (.int .i64) (.st 1)))],[4,14,13,2,1]⟩ [.exit 0 ⟨[(.cont 13,.own (.mp 3 (.int .i64) (.st 1)))],[4,14,13,2,1]⟩] (.nd (.x) (.nd (.x) (.nd (.nd (.x) (.nd (.x) (.jn [.norm ⟨[(.cont 13,.own (.mp 3 (.int .i64) (.st 1)))],[4,14,13,2,1]⟩] (.x)))) (.x)))))))
end Go.Proofs.YtgioiejbphljoaaGreatDoor
namespace Go.Rx
open Go Go.Sx Go.RowKit
def O4:Nat->Code->Code
 |0,.seq a _=>a
 |n+1,.seq a b=>.seq a (O4 n b)
 |_,c=>c
def AKe:Nat->Code->Code
 |0,.seq _ b=>b
 |n+1,.seq _ b=>AKe n b
 |_,_=>.skip
def AML:Nat->Code->Bool
 |0,.seq _ _=>true
 |n+1,.seq a b=>(match ABM a (O4 n b) with
  |some _=>false
  |none=>true)&&AML n b
 |_,_=>false
section
variable[Trk][Sg][Sf]{P:Program}[Se P][Anch]{w0 w:World}{M:List Nat}{N:Nat}{Γ:Type}{pr:AS->Option Γ}{ds:List Deferred}
theorem AOo[Sl (P:=P)]{G:Gx}(hG:GxOk P G)(c:Code)(an:An){Y:Type}{KN:AS->Option Y}{KR:Γ->Option Y}{σ:AS}{L:A8}{w:World}{z:Y}{A B:A5}{X:Nat->A5}{Z:List PanicEntry->A5}(h:exec G N pr c an KN (fun _ _=>none) KR σ=some z)(hH:Holds (P:=P) w0 [] M σ L w)(hA:∀σ' L' w',KN σ'=some z->EnvS (D6 c++D5 an) L L'->Holds (P:=P) w0 [] M σ' L' w'->A ds L' w')(hB:∀r σ' L' w',pr σ'=some r->KR r=some z->Holds (P:=P) w0 [] M σ' L' w'->B ds L' w'):CW P N c ds L w A B X Z:=
 AAh (n:=3) (ADY (I9 hG c an _ _ _ _ _ _ _ _ _ _ _ _ _ h hH (fun σ1 L1 w1 h1 _ hE1 hH1=>hA σ1 L1 w1 h1 hE1 hH1) (fun i σ2 L2 w2 h2=>by cases h2) (fun r σ2 L2 w2 h2 h3 _ hH2=>hB r σ2 L2 w2 h2 h3 hH2) PZ.no))
theorem ADd[Sl (P:=P)]{G:Gx}(hG:GxOk P G):∀(n:Nat) (c:Code) (an:An) {Y:Type} {KN:AS->Option Y} {KR:Γ->Option Y} {σ:AS} {L:A8} {w:World} {z:Y} {A B:A5} {X:Nat->A5} {Z:List PanicEntry->A5},AML n c=true->V7 G N pr (O4 n c) an KN KR σ=some z->Holds (P:=P) w0 [] M σ L w ->
  (∀σ' L' w',KN σ'=some z->EnvS (wrE (O4 n c) an) L L'->Holds (P:=P) w0 [] M σ' L' w'->CW P N (AKe n c) ds L' w' A B X Z)->(∀r σ' L' w',pr σ'=some r->KR r=some z->Holds (P:=P) w0 [] M σ' L' w'->B ds L' w')->CW P N c ds L w A B X Z
 |0,.seq a b,an,Y,KN,KR,σ,L,w,z,A,B,X,Z,_,h,hH,hA,hB=>A3 (AFO hG a an h hH hA hB)
 |n+1,.seq a b,an,Y,KN,KR,σ,L,w,z,A,B,X,Z,hc,h,hH,hA,hB=>by
  have hc:((match ABM a (O4 n b) with
   |some _=>false
   |none=>true)&&AML n b)=true:=hc
  have h:(match ABM a (O4 n b) with
   |some u=>mapM G N pr u an KN σ
   |none=>match ACC a with
    |true=>V7 G N pr a an.l (fun σ'=>V7 G N pr (O4 n b) an.r KN KR σ') KR σ
    |false=>exec G N pr a an.l (fun σ'=>V7 G N pr (O4 n b) an.r KN KR σ') (fun _ _=>none) KR σ)=some z:=h
  have hw:wrE (.seq a (O4 n b)) an=(match (generalizing:=false) ABM a (O4 n b) with
   |some u=>match (generalizing:=false) an with
    |.lp hd _ l=>C2 u.pre++(u.t::F7 u hd l)
    |_=>[]
   |none=>match (generalizing:=false) ACC a with
    |true=>wrE a an.l++wrE (O4 n b) an.r
    |false=>(D6 a++D5 an.l)++wrE (O4 n b) an.r):=rfl
  cases hu:ABM a (O4 n b) with
  |some u=>rw[hu]at hc;cases hc
  |none=>
   rw[hu]at h hw hc
   simp only[Bool.true_and]at h hw hc
   cases ha:ACC a with
   |true=>
    rw[ha]at h hw
    exact A3 (AFO hG a an.l h hH (fun σ1 L1 w1 h1 hE1 hH1=>ADd hG n b an.r hc h1 hH1 (fun σ2 L2 w2 h2 hE2 hH2=>hA σ2 L2 w2 h2 (by show EnvS (wrE (.seq a (O4 n b)) an) L L2;rw[hw];exact(hE1.mono fun t ht=>AaR _ ht).trans (hE2.mono fun t ht=>AaS _ ht)) hH2) hB) hB)
   |false=>
    rw[ha]at h hw
    exact A3 (AOo hG a an.l h hH (fun σ1 L1 w1 h1 hE1 hH1=>ADd hG n b an.r hc h1 hH1 (fun σ2 L2 w2 h2 hE2 hH2=>hA σ2 L2 w2 h2 (by show EnvS (wrE (.seq a (O4 n b)) an) L L2;rw[hw];exact(hE1.mono fun t ht=>AaR _ ht).trans (hE2.mono fun t ht=>AaS _ ht)) hH2) hB) hB)
 |0,.skip,_,_,_,_,_,_,_,_,_,_,_,_,h,_,_,_,_|0,.region _ _ _,_,_,_,_,_,_,_,_,_,_,_,_,h,_,_,_,_|0,.cond _ _ _,_,_,_,_,_,_,_,_,_,_,_,_,h,_,_,_,_|0,.loop _,_,_,_,_,_,_,_,_,_,_,_,_,h,_,_,_,_|0,.exit _,_,_,_,_,_,_,_,_,_,_,_,_,h,_,_,_,_|0,.ret,_,_,_,_,_,_,_,_,_,_,_,_,h,_,_,_,_
 |0,.scope _,_,_,_,_,_,_,_,_,_,_,_,_,h,_,_,_,_|0,.label _,_,_,_,_,_,_,_,_,_,_,_,_,h,_,_,_,_|0,.goto _,_,_,_,_,_,_,_,_,_,_,_,_,h,_,_,_,_|0,.refuse _,_,_,_,_,_,_,_,_,_,_,_,_,h,_,_,_,_|0,.block _ _,_,_,_,_,_,_,_,_,_,_,_,_,h,_,_,_,_|0,.rangeFunc _ _ _ _,_,_,_,_,_,_,_,_,_,_,_,_,h,_,_,_,_
 |_+1,.skip,_,_,_,_,_,_,_,_,_,_,_,_,h,_,_,_,_|_+1,.region _ _ _,_,_,_,_,_,_,_,_,_,_,_,_,h,_,_,_,_|_+1,.cond _ _ _,_,_,_,_,_,_,_,_,_,_,_,_,h,_,_,_,_|_+1,.loop _,_,_,_,_,_,_,_,_,_,_,_,_,h,_,_,_,_|_+1,.exit _,_,_,_,_,_,_,_,_,_,_,_,_,h,_,_,_,_|_+1,.ret,_,_,_,_,_,_,_,_,_,_,_,_,h,_,_,_,_
 |_+1,.scope _,_,_,_,_,_,_,_,_,_,_,_,_,h,_,_,_,_|_+1,.label _,_,_,_,_,_,_,_,_,_,_,_,_,h,_,_,_,_|_+1,.goto _,_,_,_,_,_,_,_,_,_,_,_,_,h,_,_,_,_|_+1,.refuse _,_,_,_,_,_,_,_,_,_,_,_,_,h,_,_,_,_|_+1,.block _ _,_,_,_,_,_,_,_,_,_,_,_,_,h,_,_,_,_|_+1,.rangeFunc _ _ _ _,_,_,_,_,_,_,_,_,_,_,_,_,h,_,_,_,_=>by cases h
theorem Holds.packed[Sl (P:=P)]{sh:Sh}{σ:AS}{L:A8}{w:World}{x:O6 sh.cs}(h:Holds (P:=P) w0 [] M σ L w)(hp:I3 sh σ=some x):Holds (P:=P) w0 [] M (B8 [] sh σ x) L w:=by
 obtain⟨S,ρ,γ,μ,ι,hS⟩:=h;exact U4 hS (Rel.refl _) hp
end
theorem AGH[Trk][Sg][Sf]{P:Program}[Se P][Sl (P:=P)][Anch]{G:Gx}(hG:GxOk P G){f:Func}{cs:List Ck}{M:List Nat}{w:World}{r:H9 cs}(hn:Nat.ble cs.length 4=true){σ':AS}{L':A8}{w':World}(h1:S8 G cs f.results.toList σ'=some r)(hH:Holds (P:=P) w [] M σ' L' w'):ABs P f (fun e w'=>∃vs,e=.returned (ACW vs)/\KsOk (P:=P) M (obK cs vs++M) w w' cs r vs/\Ext w w') [] L' w':=by
 obtain⟨S,ρ,γ,μ,ι,hS⟩:=hH;unfold S8 at h1;cases hk:okK (R1 G σ' cs f.results.toList) (AB2 G σ' cs f.results.toList)&&npK cs (R1 G σ' cs f.results.toList) with
 |false=>rw[hk]at h1;exact(A2 h1).elim
 |true=>
  rw[hk]at h1
  simp only[Bool.and_eq_true]at hk
  obtain⟨vs,h2,h3,h4,h5⟩:=AGr hS hG (mv:=R1 G σ' cs f.results.toList) (AHq h1) cs f.results.toList (fun _ h=>h) (AAg hk.1) hk.2 h1
  refine H2 (by simp) h2 (by rw[h3];exact hn) ⟨vs,by rw[AFN],h4 _ (fun b hb=>?_),?_⟩
  . exact(mem_append.1 hb).elim (h5 b) fun h=>mem_mm.2 (.inr h)
  . exact hS.hp.kp
end Go.Rx
namespace Go.Proofs.YtgioiejbphljoaaGreatDoor
open Go Go.Sx Go.Rx Go.RowKit
def Y8(r:Report):List Value:=[.int .i64 r.id,.int .i64 r.source,.int .i64 r.account,.int .i64 r.made,.int .i64 r.about,.int .u8 r.kind,.int .i64 r.cents,.int .i64 r.of_]
def InR(r:Report):Prop:=InK .i64 r.id/\InK .i64 r.source/\InK .i64 r.account/\InK .i64 r.made/\InK .i64 r.about/\InK .u8 r.kind/\InK .i64 r.cents/\InK .i64 r.of_
noncomputable def AVd:Code:=match f105.body with
 |some c=>c
 |none=>.skip
def AXw:Sh:=⟨[(.slot 72,.own (.sl 45 (.st 1))),(.slot 73,.d (.int .i64)),(.slot 74,.d (.int .i64))],[]⟩
def ASf:Gx:={ gxb with fs:=[(72,ctr72),(107,ctr107),(108,ctr108)],fm:=[(106,ctrm106)] }
theorem ARk:GxOk prog ASf:=AEn ⟨⟨ok72,call72⟩,⟨⟨ok107,call107⟩,⟨⟨ok108,call108⟩,trivial⟩⟩⟩ trivial ⟨⟨okm106,call106⟩,trivial⟩
def I6(d:Desk_139):Option (List Report):=(AAC d).bind fun x=>cond (decide (x.2.1=(x.1.length:Int))&&decide (x.2.2=0)) (some x.1) none
def DkOk(M:List Nat)(w:World)(v:Value)(d:Desk_139):Prop:=Ok (P:=prog) (fun _=>undef) (fun _=>none) M w (.rp (.str 14 d) 0) v
theorem AVe(d:Desk_139):V7 ASf 83 (fun _=>(none:Option Unit)) (O4 5 AVd) AMK (I3 AXw) (fun _=>none) ⟨[(1,.rp (.str 14 d) 0)],[],[],[]⟩=AAC d:=by kernel_rfl
theorem AIo{M:List Nat}{w:World}(hM:MLt M w)(hg:GlOk (P:=prog) M w){vp:Value}{d:Desk_139}(hd:DkOk M w vp d){r0:List Report}(h:I6 d=some r0){b2:Nat}(hb2:b2<w.heap.size)(hg2:∀g,gOf w b2=some g->g<w.heap.size){n lp:Nat}{J Jx:List Report->World->Prop}(hJ:AbidesFrom w.heap.size J)(hY:∀(pre:List Report) (x:Report) (W1:World),J pre W1->pre.length<r0.length->r0[pre.length]?=some x->YieldAt Fence.wide (n-1) prog lp #[.agg (Y8 x).toArray] W1 fun e W'=>(e=.returned (.bool true)/\J (pre++[x]) W'/\KB b2 W1 W')\/(e=.returned (.bool false)/\Jx (pre++[x]) W'))(h0:J [] w):
  Calls prog 105 (toArray [.func (.yield lp) #[] #[],vp]) w fun e W'=>(∃v,e=.returned v)/\((∃xs,xs=r0/\J xs W')\/(∃pre,pre <+: r0/\Jx pre W')):=by
 unfold I6 at h
 obtain⟨⟨r1,p,q⟩,hp,h⟩:=C5 h
 obtain⟨hpq,rfl,rfl⟩:r1=r0/\p=(r0.length:Int)/\q=0:=by
  cases hc:(decide (p=(r1.length:Int))&&decide (q=0)) with
  |false=>rw[show(decide (p=(r1.length:Int))&&decide (q=0))=false from hc]at h;cases h
  |true=>
   rw[show(decide (p=(r1.length:Int))&&decide (q=0))=true from hc]at h
   have h:r1=r0:=AaO h
   simp only[Bool.and_eq_true,decide_eq_true_eq]at hc
   subst h
   exact⟨rfl,hc.1,hc.2⟩
 subst hpq
 have h0':Holds (P:=prog) w [] M ⟨[(1,.rp (.str 14 d) 0)],[],[],[]⟩ [(0,.func (.yield lp) #[] #[]),(1,vp)] w:=by
  refine⟨[],fun _=>undef,fun _=>[],fun _=>[],fun _=>0,⟨Hp.start hM,(fun i a h=>by cases h),(fun i j a b h=>by cases h),(fun i a h=>by cases h),fun t s ht=>?_,⟨trivial,hg⟩⟩⟩;rw[fnd_cons]at ht;split at ht
  . rename_i e;subst e;cases ht;exact⟨vp,rfl,hd⟩
  . cases ht
 refine B9 (l:=[.func (.yield lp) #[] #[],vp]) (fn:=f105) func105 rfl rfl rfl ?_
 refine ADd (P:=prog) (pr:=fun _=>(none:Option Unit)) ARk 5 AVd AMK (by decide) ((AVe d).trans hp) h0' (fun σ' L' w1 hK hE hH=>?_) (fun r _ _ _ hr _ _=>by cases hr)
 have hH2:=hH.packed hK
 clear hH hK
 obtain⟨S,ρ,γ,μ,ι,hS⟩:=hH2
 obtain⟨v72,l72,e72,_⟩:=hS.env 72 (.own 72) rfl
 obtain⟨v73,l73,e73,_⟩:=hS.env 73 (.int .i64 (r1.length:Int)) rfl
 obtain⟨v74,l74,e74,_⟩:=hS.env 74 (.int .i64 0) rfl
 subst e73 e74
 have l0:Sx.A6 L' 0=some (.func (.yield lp) #[] #[]):=hE 0 (by decide)
 have hi72:S[ι 72]?=some (ownR [] ReportE 45 v72 r1):=by rw[e72];exact hS.res 72 _ rfl
 have hI:Hp w [] M S w1:=hS.hp
 have hRD:=hI.freeze _ hi72
 have hge_:∀b∈ob v72,w.heap.size<=b:=fun b hb=>((hI.own _ (AaP hi72)).2 b hb).resolve_left (fun h=>by cases h)
 refine C4 ?_
 have hgB:∀g,gOf w1 b2=some g->g<w.heap.size:=fun g hg=>(KB.of_ext hI.kp hb2).gof g hg |>.elim (hg2 g) fun h=>by
  have h5:gOf w b2=some g:=by
   unfold gOf at hg ⊢;rw[World.cell?_of_block (a:=⟨b2,0,none⟩) (w:=w) (hI.kp.block b2 hb2 (by simp))]at hg;exact hg
  exact hg2 g h5
 have hlen_:=RdS.inK hRD
 refine AC7 (L:=[(74,_),(72,_),(73,_),(0,_)]) (Sub.cons l74 (Sub.cons l72 (Sub.cons l73 (Sub.cons l0 (Sub.nil _))))) ?_
 refine AKk 1 (ι:=Nat) (fun i=>[(74,.int .i64 i)]) (fun i W_=>i<=r1.length/\J (r1.take i) W_/\KB b2 w1 W_) (fun i=>r1.length-i) 0 ⟨Aas _,hJ _ _ _ none h0 (Ext.grownBy hI.kp) (fun r hr=>by cases hr),KB.refl _ _⟩ (Sub.cons rfl (Sub.cons rfl (Sub.cons rfl (Sub.cons rfl (Sub.nil _))))) (fun i W_ hW_=>?_)
 obtain⟨hi,hJi,hKi⟩:=hW_
 refine A3 ?_
 refine A7 ?_
 refine AEw rfl rfl rfl ?_
 refine Reg.nil ?_
 refine A3 ?_
 refine T4 rfl (fun hc=>?_) (fun hc=>?_)
 . have hlt:i<r1.length:=by have:=AaW hc;omega
   refine E2 ?_
   refine A3 ?_
   refine C4 ?_
   obtain⟨b,o,c,cs,hv,hbM,hbl,hR,hC⟩:=hRD.at i hlt
   obtain⟨rfl,r0_,r1_,r2_,r3_,r4_,r5_,r6_,r7_⟩:=ReportE_R.1 hR
   obtain⟨_,_,hs_,hle_,_⟩:=(hRD).shape
   rw[hv]at hs_
   cases hs_
   obtain⟨c9,rfl⟩:∃c9,c=c9+1:=⟨c-1,by omega⟩
   have hbw:w.heap.size<=b:=hge_ b (by rw[hv];simp[ob])
   have hb2':b≠b2:=by omega
   have hbg:gOf w1 b2≠some b:=fun e=>by have:=hgB b e;omega
   have hCi:Cells W_ b (o+i*8) (Y8 r1[i]):=fun j u hj=>hKi.cell b _ u hb2' hbg (hC j u hj)
   refine A3 ?_
   refine A7 ?_
   refine Reg.val (.pointer (some ⟨b,o+i*8,none⟩)) rfl rfl rfl (fun a ha w9 _=>?_) ?_
   . have hx:ev [(73,Value.int .i64 (r1.length:Int)),(0,Value.func (.func 0) #[] #[])] (.tmp 73)=some (.int .i64 (r1.length:Int)):=rfl
     have h1:=ha.eval (x:=.tmp 72) (v:=v72) rfl
     have h2:=ha.eval (x:=.tmp 74) (v:=.int .i64 (i:Int)) rfl
     rw[hv]at h1
     have h3:(i:Int)<(r1.length:Int):=by omega
     simp[execOp,h1,h2,Instr.indexAt,asIntOf,run_underlying underlying24,sizeOf45,add_none]
     intro h9_;exact absurd h9_ (by omega)
   refine Y0 rfl hCi isAgg45 rfl sizeOf45 rfl ?_
   refine AUI zeroValue45 rfl rfl (fun bt w3 hbt ex3 hlt3 hRt=>?_)
   have hRt':Row 45 w3 bt [.int .i64 0,.int .i64 0,.int .i64 0,.int .i64 0,.int .i64 0,.int .u8 0,.int .i64 0,.int .i64 0]:=hRt
   refine AN4 rfl rfl rfl hRt' sizeOf45 rfl rfl (one1 rfl (one1 rfl (one1 rfl (one1 rfl (one1 rfl (one1 rfl (one1 rfl (one1 rfl one0)))))))) (fun w4 hr4 hk4=>?_)
   have e24:Ext W_ w4:=ex3.tail hk4 fun c hc=>by
    have:c=bt:=by simpa using hc
    omega
   refine Reg.nil ?_
   have hr4':Row 45 w4 bt (Y8 r1[i]):=hr4
   have hJ4:J (r1.take i) w4:=hJ _ _ _ none hJi (Ext.grownBy e24) (fun r hr=>by cases hr)
   have hY4:=hY (r1.take i) r1[i] w4 hJ4 (by rw[Aa3];omega) (by rw[Aa3,Abe (by omega)];exact AaV hlt)
   have htk:r1.take (i+1)=r1.take i++[r1[i]]:=by rw[Ab8,AaV hlt];rfl
   have hK4:KB b2 w1 w4:=hKi.trans (KB.of_ext e24 (Aah hb2 (Aad hI.kp.size hKi.size)))
   refine A3 ?_
   refine AJC n ?_
   refine Rgi.val (.func (.yield lp) #[] #[]) rfl rfl rfl rfl (fun a ha=>by simp[execOp,ha.eval (x:=.tmp 0) (v:=.func (.yield lp) #[] #[]) rfl]) ?_
   refine Rgi.val (.agg (Y8 r1[i]).toArray) rfl rfl rfl rfl (fun a ha=>by
    have:=run_loadCells_list (P:=prog) w4 ⟨bt,0,none⟩ (Y8 r1[i]) (fun j v hj=>by rw[add_none];exact hr4'.rd.cells j v hj);have h9:=ha.eval (x:=.tmp 13) (v:=.pointer (some ⟨bt,0,none⟩)) rfl;simp only[Y8]at this ⊢;simp at this;simp[execOp,h9,Instr.loadAt,Instr.sureAddr,loadVar,isAgg45,sizeOf45,this]) ?_
   refine Rgi.yield rfl rfl rfl hY4 ?_
   rintro e w5 (⟨rfl,hJ5,hK5⟩|⟨rfl,hJ5⟩)
   . refine⟨_,rfl,?_⟩
     refine Rgi.val (.bool false) rfl rfl rfl rfl (fun a ha=>by
      have h9:=ha.eval (x:=.tmp 80) (v:=.bool true) rfl;simp[execOp,h9,Op.unary]) ?_
     refine Rgi.nil ?_
     refine ABG rfl ?_
     refine E2 ?_
     refine A7 ?_
     refine ACl (n:=((i+1:Nat):Int)) rfl rfl rfl ⟨by omega,by rw[InK.i64]at hlen_ ⊢;omega⟩ ?_
     refine E5 rfl rfl ?_
     refine Reg.nil ?_
     exact⟨rfl,i+1,⟨by omega,by rw[htk];exact hJ5,hK4.trans hK5⟩,Sub.cons rfl (Sub.cons rfl (Sub.cons rfl (Sub.cons rfl (Sub.nil _)))),by omega⟩
   . refine⟨_,rfl,?_⟩
     refine Rgi.val (.bool true) rfl rfl rfl rfl (fun a ha=>by
      have h9:=ha.eval (x:=.tmp 80) (v:=.bool false) rfl;simp[execOp,h9,Op.unary]) ?_
     refine Rgi.nil ?_
     refine ABr rfl ?_
     refine C0 ?_
     refine AUH results105 ?_
     exact⟨⟨_,rfl⟩,.inr ⟨_,List.take_prefix (i+1) _,by rw[htk];exact hJ5⟩⟩
 . have hge:¬(i:Int)<(r1.length:Int):=AaZ hc
   have hi':i=r1.length:=by omega
   subst hi'
   refine T3 ?_
   refine J7 ?_
   refine AUH results105 ?_
   exact⟨⟨_,rfl⟩,.inl ⟨_,rfl,by rwa [Aay]at hJi⟩⟩
section
variable{M:List Nat}{M':List Nat}{w:World}{w':World}{v:Value}{d:Desk_139}
theorem DkOk.adv(h:DkOk M w v d)(ha:Adv M M' w w'):DkOk M' w' v d:=Ok.adv ha _ h
def ItF(M:List Nat)(w:World)(v:Value)(d:Desk_139):Prop:=∃p,v=.func (.func 105) #[] [p].toArray/\DkOk M w p d
theorem ItF.adv(h:ItF M w v d)(ha:Adv M M' w w'):ItF M' w' v d:=by
 obtain⟨p,h0,h1⟩:=h;exact⟨p,h0,h1.adv ha⟩
abbrev ACa:={ r:Report // InR r }
theorem ANX{a b:List ACa}(h:a.map Subtype.val=b.map Subtype.val):a=b:=(List.map_inj_right (fun _ _ h=>Subtype.ext h)).1 h
theorem AOp{F:Fence}{m:Nat}{P:Program}{l:Nat}{args:Array Value}{W:World}{R R':Ending->World->Prop}(h:YieldAt F m P l args W R)(hr:∀e w,R e w->R' e w):YieldAt F m P l args W R':=by
 obtain⟨fn,tmps,assign,body,h1,h2⟩:=h;exact⟨fn,tmps,assign,body,h1,h2.mono hr⟩
theorem AHD(n:Nat)(hM:MLt M w)(hgl:GlOk (P:=prog) M w)(hf:ItF M w v d){l:List ACa}(h:I6 d=some (l.map Subtype.val)){b2:Nat}(hb2:b2<w.heap.size)(hg2:∀g,gOf w b2=some g->g<w.heap.size):
  ∃lb,v=.func (.func 105) #[] lb/\SeqStopsK Fence.wide n prog 105 lb (fun r:ACa=>#[.agg (Y8 r.1).toArray]) (KB b2) (fun ys=>ys=l) (fun pre=>pre <+: l) l.length w:=by
 obtain⟨p,rfl,hf⟩:=hf
 refine⟨_,rfl,fun lp J Jx W hW hJ _ hY h0=>?_⟩
 have hE:Ext w W:=ACT hW (fun h=>h)
 have hA:Adv M M w W:=Adv.of_ext hE
 have hg2':∀g,gOf W b2=some g->g<W.heap.size:=fun g hg=>by
  rcases (KB.of_ext hE hb2).gof g hg with h1|h1
  . exact Aah (hg2 g h1) hE.size
  . have h5:gOf w b2=some g:=by
     unfold gOf at hg ⊢;rw[World.cell?_of_block (a:=⟨b2,0,none⟩) (w:=w) (hE.block b2 hb2 (by simp))]at hg;exact hg
    exact Aah (hg2 g h5) hE.size
 refine callsIn_wide.2 ((AIo (hM.ext hE) (hgl.adv hA) (DkOk.adv hf hA) h (Aah hb2 hE.size) hg2' (n:=n) (lp:=lp)
  (J:=fun pre W=>∃pre':List ACa,pre'.map Subtype.val=pre/\J pre' W) (Jx:=fun pre W=>∃pre':List ACa,pre'.map Subtype.val=pre/\Jx pre' W) ?_ ?_ ⟨[],rfl,h0⟩).mono ?_)
 . rintro s W1 W2 row ⟨pre',h1,h2⟩ hg hr
   exact⟨pre',h1,hJ _ _ _ row h2 hg hr⟩
 . rintro pre x W1 ⟨pre',rfl,h2⟩ hlt hx
   rw[Aa1]at hlt
   rw[Aa1]at hx
   rw[Aa4]at hx
   obtain⟨x',hx',rfl⟩:=Option.map_eq_some_iff.1 hx
   refine AOp (hY pre' x' W1 h2 (by rw[Aa1]at hlt;exact hlt)) ?_
   rintro e W' (⟨rfl,h3,h4⟩|⟨rfl,h3⟩)
   . exact .inl ⟨rfl,⟨_,by simp,h3⟩,h4⟩
   . exact .inr ⟨rfl,_,by simp,h3⟩
 . rintro e W' ⟨hv,⟨xs,rfl,pre',h1,h2⟩|⟨pre,hp,pre',rfl,h2⟩⟩
   . exact⟨hv,.inl ⟨_,ANX h1,h2⟩⟩
   . refine⟨hv,.inr ⟨pre',?_,h2⟩⟩
     obtain⟨t,ht⟩:=hp
     refine⟨l.drop pre'.length,ANX ?_⟩
     rw[Aai,List.map_drop,<-ht]
     simp
theorem AIp:ALG ReportE:=fun h=>ReportE_R.2 (ReportE_R.1 h)
def AlR(M:List Nat)(b2:Nat)(x:ACa)(L:Sx.A8)(W:World):Prop:=∃b5 u,Sub [(2,.pointer (some ⟨b2,0,none⟩)),(5,.pointer (some ⟨b5,0,none⟩))] L/\Row 45 W b5 (Y8 x.1)/\Row 24 W b2 [u]/\b5∉ob u/\b5≠b2/\b5∉M
theorem AGI(hM:MLt M w)(hgl:GlOk (P:=prog) M w)(hf:ItF M w v d){l:List ACa}(h:I6 d=some (l.map Subtype.val))(hl:l.length*64<=140737488355328):
  Calls prog 102 (toArray [.slice none 0 0,v]) w fun e w'=>∃v':Value,e=.returned v'/\(Sx.Own ReportE 45 0 M w' v' (l.map Subtype.val)/\∀b∈ob v',w.heap.size<=b)/\Ext w w':=by
 refine ABQ func102 rfl ntmps102 rfl ?_
 have hI:=Hp.start (Mu:=[]) hM
 refine A3 ?_
 refine A7 ?_
 refine R7 hI rfl rfl rfl ?_
 intro b2 w2 hI2 x2
 refine C6 rfl rfl ?_
 refine Reg.nil ?_
 refine A3 ?_
 refine A3 ?_
 refine A7 ?_
 refine E5 rfl rfl ?_
 refine Reg.nil ?_
 have hI3:Hp w [] M (D9 ReportE 45 24 b2 (.slice none 0 0) []) w2:=hI2.addNil ReportE 45
 have hb2:b2<w2.heap.size:=hI3.mlt b2 (by simp[mm,rowR])
 have hgn:gOf w2 b2=none:=by rw[hI3.gof];rfl
 obtain⟨lb,hv,hseq⟩:=AHD 2 hI2.mlt (hgl.adv hI2.adv) (hf.adv hI2.adv) h hb2 (fun g hg=>by rw[hgn]at hg;cases hg)
 subst hv
 refine C4 ?_
 refine AJo (val:=fun r:ACa=>.agg (Y8 r.1).toArray) (K:=KB b2) (xs:=l) rfl call105 rfl hseq (fun h k=>h.trans k) (fun W lp o o' hlp ho hc _=>KB.putObj ho hc (by omega))
  (fun pre W=>∃v',Hp w [] M (D9 ReportE 45 24 b2 v' (pre.map Subtype.val)) W/\w2.heap.size<=W.heap.size/\pre.length<=l.length) (fun _ _=>False) ?_ (fun _ _ _ _ h _ _=>h.elim) ⟨_,hI3,Aae _,Aas _⟩ (AlR M b2) ?_ ?_ ?_ ?_ (fun _ _ _ _ _ h _=>h.elim)
 . rintro pre W W' row ⟨v',h1,h2,h3⟩ hg hr
   exact⟨v',h1.turnG AIp (fun h=>h) hg (fun r e=>⟨Aad hI3.kp.size (hr r e).1,(hr r e).2⟩),Aad h2 hg.size,h3⟩
 . rintro x L' _ W W' row ⟨b5,u,h1,h2,h3,h4,h5,h6⟩ hg hr
   have hcl:∀(b:Nat) (o:Obj),W.heap[b]?=some o->o.isCells=true->W'.heap[b]?=W.heap[b]?:=fun b o hb hc=>hg.block b (G0 hb) fun e=>by
    obtain⟨_,o',g1,g2⟩:=hr b e.symm;rw[hb]at g1;cases g1;rw[hc]at g2;cases g2
   exact⟨b5,u,h1,(hcl b5 _ h2 rfl).trans h2,(hcl b2 _ h3 rfl).trans h3,h4,h5,h6⟩
 . rintro l' pre x W ⟨v',h1,h2,h3⟩
   refine Z1 rfl ?_
   refine P5 h1 zeroValue45 rfl rfl ?_
   intro b5 w5 hI5 x5
   refine N2 0 hI5 rfl rfl rfl rfl sizeOf45 rfl rfl (one1 rfl (one1 rfl (one1 rfl (one1 rfl (one1 rfl (one1 rfl (one1 rfl (one1 rfl one0)))))))) ?_
   intro w6 hI6 x6
   have hI6':Hp w [] M (rowR 45 b5 (Y8 x.1)::D9 ReportE 45 24 b2 v' (pre.map Subtype.val)) w6:=hI6
   have hI7:Hp w [] M (D9 ReportE 45 24 b2 v' (pre.map Subtype.val)) w6:=hI6'.erase 0
   have hA:Adv (mm (D9 ReportE 45 24 b2 v' (pre.map Subtype.val)) M) (mm (D9 ReportE 45 24 b2 v' (pre.map Subtype.val)) M) W w6:=x5.trans (x6.trans (E3 (σ:=rowR 45 b5 (Y8 x.1)::D9 ReportE 45 24 b2 v' (pre.map Subtype.val)) 0))
   obtain⟨hk1,hk2⟩:=h1.kb hI7 hA
   refine Reg.nil ⟨rfl,⟨hk2.size,fun k o hB=>hk2.same k o (Aad hI3.kp.size hB)⟩,hk1,⟨v',hI7,Aad h2 hA.kp.size,h3⟩,b5,v',Sub.cons rfl (Sub.cons rfl (Sub.nil _)),hI6'.row 0 rfl,hI6'.row 2 rfl,?_,?_,?_⟩
   . intro hb
     exact hI6'.dis 0 1 _ _ rfl rfl (by omega) b5 (by simp[rowR]) hb
   . intro hb
     exact hI6'.dis 0 2 _ _ rfl rfl (by omega) b5 (by simp[rowR]) (by simp[rowR,hb])
   . exact hI6'.sepM _ (AaT ..) b5 (by simp[rowR])
 . rintro l' pre x L' W ⟨v',h1,h2,h3⟩ ⟨b5,u,hs,hr5,hru,h5u,h52,h5M⟩ hlt
   have huv:u=v':=by
    have e1:W.heap[b2]?=_:=hru;have e2:W.heap[b2]?=_:=h1.row 1 rfl;rw[e1]at e2;have:=AaO e2;injection this with h9;simpa using h9
   subst huv
   refine APX hs ?_
   refine ADG ?_
   have hC5:RdC (mm (D9 ReportE 45 24 b2 u (pre.map Subtype.val)) M) W b5 0 (Y8 x.1):=G5 (fun hb=>by
    simp only[mm,ownR,rowR,mem_append,mem_cons,List.not_mem_nil,or_false]at hb;rcases hb with h9|h9|h9
    . exact h5u h9
    . exact h52 h9
    . exact h5M h9) hr5
   obtain⟨q0,q1,q2,q3,q4,q5,q6,q7⟩:=x.2
   refine Z1 rfl ?_
   refine J8 rfl ((h1.row 1 rfl).rd.cells.at 0 rfl) isAgg24 rfl ?_
   refine Y0 rfl hC5.cells isAgg45 rfl sizeOf45 rfl ?_
   refine AEC (E:=ReportE) (xs:=[x.1]) AJX h1 rfl rfl (Cls.cons rfl Cls.nil) (Chs.cons (ReportE_R.2 ⟨rfl,q0,q1,q2,q3,q4,q5,q6,q7⟩) Chs.nil) rfl rfl ?_
   intro v8 w8 hI8 x8
   have hf9:=hI8.freeze 0 rfl
   have hI9:=hI8.erase 0
   have hlen:(pre.map Subtype.val).length+[x.1].length<=l.length:=by simp;omega
   refine ADn 0 AJX hI9 rfl rfl rfl hf9 ⟨?_,?_⟩ rfl ?_
   . omega
   . omega
   intro v10 w10 hI10 x10
   refine N2 1 hI10 rfl rfl rfl (Own.cells1 (hI10.ownAt 0 rfl)) sizeOf24 rfl rfl (one1 (Own.oneC (hI10.ownAt 0 rfl)) one0) ?_
   intro w11 hI11 x11
   have hI12:Hp w [] M (D9 ReportE 45 24 b2 v10 ((pre++[x]).map Subtype.val)) w11:=by
    have h9:(pre++[x]).map Subtype.val=pre.map Subtype.val++[x.1]:=by simp
    rw[h9];exact hI11
   have hA:Adv (mm (D9 ReportE 45 24 b2 u (pre.map Subtype.val)) M) (mm (D9 ReportE 45 24 b2 v10 ((pre++[x]).map Subtype.val)) M) W w11:=by
    have h9:(pre++[x]).map Subtype.val=pre.map Subtype.val++[x.1]:=by simp
    rw[h9];exact x8.trans ((E3 (σ:=ownR [] ReportE 45 v8 [x.1]::D9 ReportE 45 24 b2 u (pre.map Subtype.val)) 0).trans (x10.trans x11))
   obtain⟨hk1,hk2⟩:=h1.kb hI12 hA
   exact Reg.nil ⟨⟨hk2.size,fun k o hB=>hk2.same k o (Aad hI3.kp.size hB)⟩,hk1,v10,hI12,Aad h2 hA.kp.size,by simp;omega⟩
 . rintro D W hD ⟨v',h1,h2,h3⟩ hdef
   refine A3 ?_
   refine A7 ?_
   refine J8 rfl ((h1.row 1 rfl).rd.cells.at 0 rfl) isAgg24 rfl ?_
   refine C6 rfl rfl ?_
   refine Reg.nil ?_
   refine C0 ?_
   have h9:=h1.turnG AIp (fun h=>h) (grownBy_putObj' W D (.deferred none)) fun j e=>by cases e;exact⟨Aad hI3.kp.size hD,_,hdef,rfl⟩
   refine .inr ⟨D,_,rfl,run_takeDeferred hdef,v',fun a ha=>?_,v',rfl,h9.ownOut 0 rfl,h9.kp⟩
   rw[results_tmp results102,ha.getD rfl]
end
theorem ABm{M:List Nat}{w:World}(hM:MLt M w){d:Desk_139}{v:Value}(hd:OkD (P:=prog) M w (.st 14) d v):
  Calls prog 69 (toArray [v]) w fun e w'=>∃v0:Value,e=.returned v0/\ItF M w' v0 d/\Ext w w':=by
 have hI:=Hp.start (Mu:=[]) hM
 have hd0:=hd
 obtain⟨cs,h1,h3⟩:=hd
 obtain rfl:v=.agg (toArray cs):=h3.elim (fun h=>h.2) fun h=>by cases h.1
 refine B9 (l:=[_]) (fn:=f69) func69 rfl ntmps69 rfl ?_
 refine A3 ?_
 refine A7 ?_
 refine R7 hI rfl rfl rfl ?_
 intro b w2 hI2 x2
 refine C6 rfl rfl ?_
 refine Reg.nil ?_
 refine A3 ?_
 refine A7 ?_
 refine AEB rfl rfl ?_
 refine C6 rfl rfl ?_
 refine Reg.nil ?_
 refine C0 ?_
 refine fin1 results69 rfl ?_
 exact⟨_,rfl,⟨.pointer (some ⟨b,0,none⟩),rfl,b,0,_,_,rfl,(hI2.freezeRow 0 rfl).adv (Adv.refl _ _),OkD.adv hd0 (Adv.of_ext hI2.kp),rfl⟩,hI2.kp⟩
open Classical in
def F2(d:Desk_139):Option (List Report):=(I6 d).bind fun l=>if l.length*64<=140737488355328/\∀r∈l,InR r then some l else none
theorem AHt{M:List Nat}{w:World}(hM:MLt M w)(hg:GlOk (P:=prog) M w){d:Desk_139}{v:Value}(hf:ItF M w v d){r0:List Report}(h:F2 d=some r0):
  Calls prog 67 (toArray [v]) w fun e w'=>∃v0_0:Value,e=.returned (v0_0)/\(Sx.Own ReportE 45 0 M w' v0_0 r0/\∀b∈ob v0_0,w.heap.size<=b)/\Ext w w':=by
 unfold F2 at h
 obtain⟨l,hl,h⟩:=C5 h
 split at h
 . rename_i hc
   obtain rfl:=AaO h
   obtain⟨xs,hxs⟩:∃xs:List ACa,xs.map Subtype.val=l:=⟨l.attach.map fun r=>⟨r.1,hc.2 r.1 r.2⟩,by rw[Aau];exact Aa2 l⟩
   refine B9 func67 rfl ntmps67 rfl ?_
   refine A3 ?_
   refine A7 ?_
   refine C6 rfl rfl ?_
   refine Reg.nil ?_
   refine A3 ?_
   refine A7 ?_
   refine E5 rfl rfl ?_
   refine G6 rfl call102 rfl ?_
   refine(AGI hM hg hf (l:=xs) (by rw[hxs];exact hl) (by have:=AaX List.length hxs;rw[Aa1]at this;rw[this];exact hc.1)).mono ?_
   rintro _ w2 ⟨v,rfl,ho,hx⟩
   refine⟨_,rfl,?_⟩
   refine C6 rfl rfl ?_
   refine Reg.nil ?_
   refine C0 ?_
   refine fin1 results67 rfl ?_
   rw[hxs]at ho
   exact⟨_,rfl,ho,hx⟩
 . cases h
noncomputable def c29:Code:=match Tryz.f29.body with
 |some c=>c
 |none=>.skip
def AVf:Sh:=⟨[(.slot 0,.d (.sl (.st 1))),(.slot 1,.d (.int .i64))],[]⟩
def AOq:Gx:={ gxb with fs:=[(65,ctr65),(66,ctr66)] }
theorem ANY:GxOk prog AOq:=B1 ⟨⟨ok65,call65⟩,⟨⟨ok66,call66⟩,trivial⟩⟩
def K7(l:List Report)(known:Int):Option (List Report×Int):=(V4 l known).bind fun x=>Sum.elim (fun y=>(Q1 y.1 y.2).bind fun d=>(F2 d).bind fun r=>some ((r,(0:Int)):List Report×Int)) (fun r=>some r) x
def cs29:List Ck:=[.own (.sl 45 (.st 1)),.d (.int .i64)]
theorem AXx(l:List Report)(known:Int):V7 AOq 21 (S8 AOq cs29 Tryz.f29.results.toList) (O4 2 c29) ANV (fun σ=>match I3 AVf σ with
 |some x=>some (Sum.inl x)
 |none=>none) (fun r=>some (Sum.inr r)) ⟨[(0,.dat (.sl (.st 1)) l),(1,.int .i64 known)],[],[],[]⟩=V4 l known:=by kernel_rfl
def ctr29:Ctr:=⟨[.d (.sl (.st 1)),.d (.int .i64)],cs29,fun a=>K7 a.1 a.2.1⟩
theorem ok29:Ctr.ok prog 29 ctr29:=by
 refine⟨by decide,fun M w a vals r hM hg ha hr=>?_⟩;obtain⟨l,known,_⟩:=a;obtain⟨vl,_,rfl,hvl,⟨vk,_,rfl,hvk,rfl⟩⟩:=ha;have hr:K7 l known=some r:=hr;unfold K7 at hr;obtain⟨z,hz,hr⟩:=C5 hr;have hvl:OkD (P:=prog) M w (.sl (.st 1)) l vl:=hvl;have hvk:OkD (P:=prog) M w (.int .i64) known vk:=hvk;have h0:Holds (P:=prog) w [] M ⟨[(0,.dat (.sl (.st 1)) l),(1,.int .i64 known)],[],[],[]⟩ [(0,vl),(1,vk)] w:=by
  refine⟨[],fun _=>undef,fun _=>[],fun _=>[],fun _=>0,⟨Hp.start hM,(fun i a h=>by cases h),(fun i j a b h=>by cases h),(fun i a h=>by cases h),fun t s ht=>?_,⟨trivial,hg⟩⟩⟩;rw[fnd_cons]at ht;split at ht
  . rename_i e;subst e;cases ht;exact⟨vl,rfl,rfl,hvl⟩
  rw[fnd_cons]at ht;split at ht
  . rename_i e;subst e;cases ht;exact⟨vk,rfl,E4 (.int .i64) hvk⟩
  . cases ht
 refine B9 (l:=[vl,vk]) (fn:=Tryz.f29) func29 rfl rfl rfl ?_;refine ADd (P:=prog) (pr:=S8 AOq cs29 Tryz.f29.results.toList) ANY 2 c29 ANV (by decide) ((AXx l known).trans hz) h0 (fun σ' L' w1 hK hE hH=>?_) (fun r' σ' L' w' hp hk hH=>?_)
 . cases hpk:I3 AVf σ' with
   |none=>rw[hpk]at hK;cases hK
   |some x=>
   rw[hpk]at hK;cases hK
   obtain⟨l,known⟩:=x;have hH2:=hH.packed hpk;obtain⟨S,ρ,γ,μ,ι,hS⟩:=hH2;obtain⟨v0,l0,e0⟩:=hS.env 0 (.dat (.sl (.st 1)) l) rfl;obtain⟨v1,l1,rfl,e1⟩:=hS.env 1 (.int .i64 known) rfl;have hr:((Q1 l known).bind fun d=>(F2 d).bind fun r=>some ((r,(0:Int)):List Report×Int))=some r:=hr;obtain⟨d,hd,hr⟩:=C5 hr;obtain⟨r1,hr1,hr⟩:=C5 hr;cases hr
   have hM1:MLt (mm S M) w1:=hS.hp.mlt;have hg1:GlOk (P:=prog) (mm S M) w1:=hS.anch.2;refine A3 ?_;refine A7 ?_;refine E5 l0 rfl ?_;refine E5 (v:=.int .i64 known) (by show Sx.A6 ((16,v0)::L') 1=some (.int .i64 known);rw[look_cons,if_neg (by decide)];exact l1) rfl ?_;refine G6 rfl call68 rfl ?_;refine(ok68.2 (mm S M) w1 (l,known,()) [v0,.int .i64 known] d hM1 hg1 ⟨v0,_,rfl,e0.2,_,[],rfl,⟨[_],⟨rfl,e1⟩,.inr ⟨rfl,rfl⟩⟩,rfl⟩ hd).mono ?_;rintro _ w2 ⟨_,rfl,⟨v2,rfl,h2⟩,x2⟩;refine⟨_,rfl,?_⟩;have h2:OkD (P:=prog) (mm S M) w2 (.st 14) d v2:=h2;refine G6 rfl call69 rfl ?_;refine(ABm (hM1.ext x2) h2).mono ?_;rintro _ w3 ⟨v3,rfl,h3,x3⟩;refine⟨_,rfl,?_⟩;refine G6 rfl call67 rfl ?_;refine(AHt ((hM1.ext x2).ext x3) ((hg1.adv (Adv.of_ext x2)).adv (Adv.of_ext x3)) h3 hr1).mono ?_;rintro _ w4 ⟨v4,rfl,⟨h4,h5⟩,x4⟩;refine⟨_,rfl,?_⟩;refine C6 rfl rfl ?_;refine C6 rfl rfl ?_;refine Reg.nil ?_;refine C0 ?_;refine AYf results29 rfl rfl ?_;refine⟨[v4,.int .i64 0],rfl,⟨v4,_,rfl,⟨trivial,h4.mon fun b hb=>(mem_append.1 hb).imp id fun h=>mem_mm.2 (.inr h),fun b hb=>?_⟩,_,rfl,⟨[.int .i64 0],⟨rfl,(by decide:InK .i64 0)⟩,.inr ⟨rfl,rfl⟩⟩⟩,?_⟩
   . exact Aad hS.hp.kp.size (Aad x2.size (Aad x3.size (h5 b hb)))
   . exact((hS.hp.kp.trans x2).trans x3).trans x4
 . have hk:Sum.inr r'=z:=AaO hk;subst hk;have hr:some r'=some r:=hr;cases hr
   exact AGH ANY (by decide) hp hH
end Go.Proofs.YtgioiejbphljoaaGreatDoor
namespace Go.Rx
open Go Go.Sx Go.RowKit
section
variable[Trk][Sg][Sf]{P:Program}[Se P][Anch]
variable{w0 w:World}{Mu M:List Nat}{L:A8}{G:Gx}{N:Nat}{ds:List Deferred}{A B:A5}{X:Nat->A5}{Z:List PanicEntry->A5}
def AllE(env:List (Nat×SV)):List (Nat×SV)->Prop
 |[]=>True
 |p::l=>A1 env p.1=some p.2/\AllE env l
section
variable{env:List (Nat×SV)}{t:Nat}{id:Nat}{σ:AS}{σ':AS}
theorem AllE.out{s:SV}:∀{l:List (Nat×SV)},AllE env l->A1 l t=some s->A1 env t=some s
 |[],_,h=>by cases h
 |(k,u)::l,⟨h1,h2⟩,h=>by
  rw[fnd_cons]at h;split at h
  . rename_i e;subst e;cases h;exact h1
  . exact AllE.out h2 h
theorem Holds.fewer{env env':List (Nat×SV)}{res:List (Nat×AR)}{kl kl':List Nat}{ch ch':List (Nat×Nat)}(h:Holds (P:=P) w0 Mu M ⟨env,res,kl,ch⟩ L w)(hE:AllE env env'):Holds (P:=P) w0 Mu M ⟨env',res,kl',ch'⟩ L w:=by
 obtain⟨S,ρ,γ,μ,ι,hS⟩:=h;exact⟨S,ρ,γ,μ,ι,hS.hp,hS.res,hS.inj,hS.row,fun t s ht=>hS.env t s (hE.out ht),hS.anch⟩
theorem ABY[Sl (P:=P)](hG:GxOk P G){ops:List Oper}(h:D3 G N ops some ops σ=some σ')(hH:Holds (P:=P) w0 Mu M σ L w)(hA:∀L' w',EnvS (C2 ops) L L'->Holds (P:=P) w0 Mu M σ' L' w'->A ds L' w'):CW P N (.region id (toArray ops) false) ds L w A B X Z:=
 A7 (U3 hG ops σ L w h (fun _ ht=>ht) hH fun σ1 L1 w1 h1 _ hE hH1=>by cases h1;exact hA L1 w1 hE hH1)
theorem Holds.slotB{b:Bool}(h:Holds (P:=P) w0 Mu M σ L w)(ht:A1 σ.env t=some (.bool b)):Sx.A6 L t=some (.bool b):=by
 obtain⟨S,ρ,γ,μ,ι,hS⟩:=h;obtain⟨v,h1,h2⟩:=hS.env t _ ht;have h2:v=.bool b:=h2;subst h2;exact h1
theorem AOr[Sl (P:=P)](hG:GxOk P G){ops:List Oper}{Y:Type}{o:Option Y}{x:Y}{K:Y->Option AS}(hb:o=some x)(h:D3 G N ops some ops σ=Option.bind o K)(hk:K x=some σ')(hH:Holds (P:=P) w0 Mu M σ L w)(hA:∀L' w',EnvS (C2 ops) L L'->Holds (P:=P) w0 Mu M σ' L' w'->A ds L' w'):CW P N (.region id (toArray ops) false) ds L w A B X Z:=
 ABY hG (by rw[h,hb];exact hk) hH hA
theorem Holds.ops[Sl (P:=P)](hG:GxOk P G){all l rest:List Oper}{σ σ':AS}(h:D3 G N all some l σ=some σ')(hH:Holds (P:=P) w0 Mu M σ L w)(hA:∀L' w',EnvS (C2 l) L L'->Holds (P:=P) w0 Mu M σ' L' w'->Reg P N (toArray all) .seq rest ds L' w' A B X Z):Reg P N (toArray all) .seq (l++rest) ds L w A B X Z:=by
 have key:=U3 (P:=P) (ops:=all) (ds:=ds) (B:=B) (X:=X) (Z:=Z) (W:=C2 l) hG l σ L w h (fun _ ht=>ht) hH (A:=fun ds' L' w'=>Reg P N (toArray all) .seq rest ds' L' w' A B X Z) fun σ1 L1 w1 h1 _ hE hH1=>by cases h1;exact hA L1 w1 hE hH1
 exact fun a ha=>Y3 (fun a w h=>by
  obtain⟨ds',L',hk,hr⟩:=h;exact hr a hk) l a w (key a ha)
theorem Holds.toL{L2:A8}(h:Holds (P:=P) w0 Mu M σ L w)(he:∀t s,A1 σ.env t=some s->Sx.A6 L2 t=Sx.A6 L t):Holds (P:=P) w0 Mu M σ L2 w:=by
 obtain⟨S,ρ,γ,μ,ι,hS⟩:=h;exact⟨S,ρ,γ,μ,ι,hS.envTo fun t s ht=>(he t s ht).symm⟩
end
end
section
variable[Trk][Sg][Sf]{P:Program}[Se P][Anch]
variable{w0 w:World}{Mu M:List Nat}{σ:AS}{L:A8}{S:List Res}{ρ:Nat->Value}{γ:Nat->List Value}{μ:Nat->List Nat}{ι:Nat->Nat}{G:Gx}{N:Nat}{ds:List Deferred}{A B:A5}{X:Nat->A5}{Z:List PanicEntry->A5}
theorem Holds.res{env:List (Nat×SV)}{res res':List (Nat×AR)}{kl kl':List Nat}{ch ch':List (Nat×Nat)}(h:Holds (P:=P) w0 Mu M ⟨env,res,kl,ch⟩ L w)(hr:∀j,A1 res' j=A1 res j):Holds (P:=P) w0 Mu M ⟨env,res',kl',ch'⟩ L w:=by
 obtain⟨S,ρ,γ,μ,ι,hS⟩:=h;have e:A1 res'=A1 res:=funext hr;refine⟨S,ρ,γ,μ,ι,hS.hp,fun i a h=>hS.res i a ((hr i).symm.trans h),fun i j a b h1 h2=>hS.inj i j a b ((hr i).symm.trans h1) ((hr j).symm.trans h2),fun i a h=>?_,fun t s ht=>?_,hS.anch⟩
 . have:=hS.row i a ((hr i).symm.trans h);show RowOk ρ (A1 res') _ _ _ _ _;rw[e];exact this
 . obtain⟨v,h1,h2⟩:=hS.env t s ht;refine⟨v,h1,?_⟩;show Ok ρ (A1 res') _ _ _ _;rw[e];exact h2
end
section
variable[Trk][Sg][Sf]{P:Program}[Se P]
theorem Holds.start[Anch]{M:List Nat}{w:World}{env:List (Nat×SV)}{L:A8}(hM:MLt M w)(hE:∀t s,A1 env t=some s->∃v,Sx.A6 L t=some v/\Ok (P:=P) (fun _=>undef) (fun _=>none) M w s v)(hA:AnOk M w):Holds (P:=P) w [] M ⟨env,[],[],[]⟩ L w:=
 ⟨[],fun _=>undef,fun _=>[],fun _=>[],fun _=>0,⟨Hp.start hM,(fun i a h=>by cases h),(fun i j a b h=>by cases h),(fun i a h=>by cases h),hE,hA⟩⟩
theorem Holds.ends[Anch]{M:List Nat}{w w':World}{Mu:List Nat}{σ:AS}{L:A8}(h:Holds (P:=P) w Mu M σ L w'):Kp Mu w w':=by
 obtain⟨S,ρ,γ,μ,ι,hS⟩:=h;exact hS.hp.kp
end
section
variable{P:Program}
theorem ABn[Trk][Sg][Sf][Se P][Sl (P:=P)][Anch]{w0 w:World}{Mu M:List Nat}{L:A8}{G:Gx}{N:Nat}{ds:List Deferred}{A B:A5}{X:Nat->A5}{Z:List PanicEntry->A5}{id:Nat}{ops:List Oper}{σ σ':AS}{Y:Type}{o:Option Y}{x:Y}{K:Y->Option AS}(hG:GxOk P G)(hH:Holds (P:=P) w0 Mu M σ L w)(hb:o=some x)(h:D3 G N ops some ops σ=Option.bind o K)(hk:K x=some σ')(hA:∀L' w',EnvS (C2 ops) L L'->Holds (P:=P) w0 Mu M σ' L' w'->A ds L' w'):CW P N (.region id (toArray ops) false) ds L w A B X Z:=
 AOr hG hb h hk hH hA
theorem AFQ[Trk][Sg][Sf][Se P][Anch]{w0 w:World}{Mu M:List Nat}{L:A8}{σ:AS}{env':List (Nat×SV)}{res':List (Nat×AR)}(h:Holds (P:=P) w0 Mu M σ L w)(hE:AllE σ.env env')(hr:∀j,A1 res' j=A1 σ.res j)(kl':List Nat:=[])(ch':List (Nat×Nat):=[]):Holds (P:=P) w0 Mu M ⟨env',res',kl',ch'⟩ L w:=by
 obtain⟨e,r,kl,ch⟩:=σ;exact Holds.res (kl:=kl') (ch:=ch') (h.fewer hE) hr
end
end Go.Rx
namespace Go.Sx
open Go Go.RowKit
variable[Trk]
section
variable{n:Nat}{P:Program}{N:Nat}{ops:Array Oper}{rest:List Oper}{ds:List Deferred}{L:A8}{w:World}{A B:A5}{X:Nat->A5}{Z:List PanicEntry->A5}
section
variable{d:Nat}{op:Op}{after:Array Edge}{j:Nat}{t:Nat}{b:Bool}
theorem AIq{f x y:Operand}{l d:Nat}{v u:Value}{ts:Array TypeId}{ty:TypeId}{pos:String}{af:Array Edge}{R:Ending->World->Prop}(hf:ev L f=some (.func (.yield l) #[] #[]))(hx:ev L x=some v)(hy:ev L y=some u)(hN:blt d N=true)(hY:YieldAt Fence.wide (n-1) P l #[v,u] w R)(h:∀e w',R e w'->∃q,e=.returned q/\Rgi n P N ops rest ds ((d,q)::L) w' A B X Z):
  Rgi n P N ops (⟨some d,.call ⟨.value f,#[x,y],ts⟩,ty,pos,af,none⟩::rest) ds L w A B X Z:=fun a ha=>by
 obtain⟨fn,tmps,assign,body,hy',hR⟩:=hY
 unfold wpListIn
 rw[Aac (by rfl)]
 refine⟨fun _ _=>trivial,?_⟩
 have hs:∀o:Oper,K5 o.op=true->Oper.semAt Fence.wide.round a.eval o=execOp a.eval o:=fun o hdf=>Oper.semAt_eq _ _ _ fun c hc=>by rw[hc]at hdf;simp[K5]at hdf
 rw[hs _ rfl]
 have hrun:(execOp a.eval ⟨some d,.call ⟨.value f,#[x,y],ts⟩,ty,pos,af,none⟩).run P w=.ok (.round l fn tmps assign body) w:=by
  simp[execOp,resolve,ha.eval hf,ha.eval hx,ha.eval hy,Deferred.ofValue,invoke,hy']
 rw[hrun]
 refine⟨fun e=>(by cases e),hR.mono fun e w' h'=>?_⟩
 obtain⟨q,rfl,h2⟩:=h e w' h'
 exact h2 _ (ha.put hN q)
theorem Rgi.take{d:Option Tmp}{ty:TypeId}{pos:String}(hj:(ops[j]?).bind (·.dst)=some t)(ht:A6 L t=some (.bool b))(h:Rgi n P N ops (⟨d,op,ty,pos,after,none⟩::rest) ds L w A B X Z):Rgi n P N ops (⟨d,op,ty,pos,after,some (j,b)⟩::rest) ds L w A B X Z:=fun a ha=>by
 have:=h a ha;have e:Region.wanted (⟨d,op,ty,pos,after,some (j,b)⟩:Oper) (yielded ops a.tmps)=true:=by simp only[Region.wanted,T6 ha hj ht,BEq.rfl]
 have e0:Region.wanted (⟨d,op,ty,pos,after,none⟩:Oper) (yielded ops a.tmps)=true:=rfl;unfold wpListIn at this ⊢;rw[Aac e0]at this;rw[Aac e];exact this
theorem Rgi.pass{ty:TypeId}{pos:String}{b b':Bool}(hN:blt d N=true)(hj:(ops[j]?).bind (·.dst)=some t)(ht:A6 L t=some (.bool b'))(hb:(b'==b)=false)(h:Rgi n P N ops rest ds ((d,undef)::L) w A B X Z):Rgi n P N ops (⟨some d,op,ty,pos,after,some (j,b)⟩::rest) ds L w A B X Z:=fun a ha=>by
 have hw:Region.wanted (⟨some d,op,ty,pos,after,some (j,b)⟩:Oper) (yielded ops a.tmps)=false:=by
  simp only[Region.wanted,T6 ha hj ht];simpa using hb
 unfold wpListIn;rw[if_neg (by rw[hw];decide)];exact⟨fun _ _=>trivial,h _ (ha.put hN _)⟩
end
end
end Go.Sx
namespace Go.Rx
open Go Go.Sx Go.RowKit
variable[Trk][Sg][Sf]
section
variable{P:Program}[Se P]{N:Nat}{ds:List Deferred}{A B:A5}{X:Nat->A5}{Z:List PanicEntry->A5}
def AZU(ops:List Oper):Bool:=(List.range ops.length).all fun k=>match ops[k]? with
 |some o=>o.after.toList.all fun e=>!(Region.binds .any e)||blt e.on k
 |none=>true
theorem AHu{ops:List Oper}(h:AZU ops=true):∀(k:Nat) (o:Oper),ops[k]?=some o->∀e∈o.after.toList,Region.binds .any e=true->e.on<k:=fun k o ho e he hb=>by
 have hk:k<ops.length:=(List.getElem?_eq_some_iff.1 ho).1;have h1:=List.all_eq_true.1 h k (List.mem_range.2 hk);rw[ho]at h1;have h2:=List.all_eq_true.1 h1 e he;rw[hb]at h2;simpa using h2
theorem AGJ{id:Nat}{ops:List Oper}{L0:A8}{w0:World}(hm:P.follows .mixedOrders=true)(hd:ops.all (fun o=>K5 o.op)=true)(hg:ops.all (fun o=>o.guard.isNone)=true)(J:(Nat->Bool)->A8->World->Prop)(h0:J (fun _=>false) L0 { w0 with drawn:=w0.drawn+1 })(low:∀k o,ops[k]?=some o->∀e∈o.after.toList,Region.binds .any e=true->e.on<k)(step:∀D L w k o,J D L w->D k=false->ops[k]?=some o->(∀e∈o.after.toList,Region.binds .any e=true->D e.on=true)->Reg P N (toArray ops) .seq [o] ds L w (fun ds' L' w'=>ds'=ds/\J (fun j=>beq j k||D j) L' w') B X Z)(fin:∀D L w,(∀k,k<ops.length->D k=true)->J D L w->A ds L w):CW P N (.region id (toArray ops) true) ds L0 w0 A B X Z:=by
 refine AAh (n:=3) (AP5 hm hd fun a ha=>?_);have hsize:(toArray ops).size=ops.length:=by simp
 have key:∀(n:Nat) (listed:Array Bool) (a:Act) (w:World) (L:A8),listed.size=ops.length->((List.range ops.length).filter fun k=>!listed.getD k false).length=n->Knows N ds L a->J (fun k=>listed.getD k false) L w->wpAny P .any (toArray ops) (S7 N A B X Z) n listed a w:=by
  intro n;induction n with
  |zero=>
   intro listed a w L hsz hn hk hJ
   have hall:∀k,k<ops.length->listed.getD k false=true:=fun k hk=>by
    cases hb:listed.getD k false with
    |true=>rfl
    |false=>
     have:k∈(List.range ops.length).filter fun k=>!listed.getD k false:=List.mem_filter.2 ⟨List.mem_range.2 hk,by rw[hb];rfl⟩
     rw[AbR hn]at this
     cases this
   refine⟨List.eq_nil_iff_forall_not_mem.2 fun k hk=>?_,ds,L,hk,fin _ L w hall hJ⟩
   obtain⟨h0,o,ho,_⟩:=mem_ready.1 hk
   have hk':k<ops.length:=by rw[<-hsize];exact(Array.getElem?_eq_some_iff.1 ho).1
   have:=hall k hk'
   rw[AER (by rw[hsz];exact hk') true false,this]at h0;cases h0
  |succ n ih=>
   intro listed a w L hsz hn hk hJ
   refine⟨fun hr=>?_,fun i hi=>?_⟩
   . have hall:∀m k,k<ops.length->k<m->listed.getD k false=true:=by
      intro m;induction m with
      |zero=>intro k _ hm;omega
      |succ m ihm=>
       intro k hk hm
       cases hb:listed.getD k false with
       |true=>rfl
       |false=>
        obtain⟨o,ho⟩:∃o,ops[k]?=some o:=⟨ops[k],by simp[hk]⟩
        have:k∈Region.ready .any (toArray ops) listed:=mem_ready.2 ⟨by rw[AER (by rw[hsz];exact hk) true false];exact hb,o,by rw[Abz];exact ho,fun e he hbd=>by
         have:=low k o ho e (Array.mem_toList_iff.2 he) hbd;exact ihm e.on (by omega) (by omega)⟩
        rw[hr]at this;cases this
     exact⟨ds,L,hk,fin _ L w (fun k hk=>hall (k+1) k hk (Abm k)) hJ⟩
   . obtain⟨hi0,o,hoi,hiall⟩:=mem_ready.1 hi
     have his:i<ops.length:=by rw[<-hsize];exact(Array.getElem?_eq_some_iff.1 hoi).1
     have hoi':ops[i]?=some o:=by rw[Abz]at hoi;exact hoi
     rw[AER (by rw[hsz];exact his) true false]at hi0
     have hlsz:i<listed.size:=by rw[hsz];exact his
     have h1:=step _ L w i o hJ hi0 hoi' (fun e he hbd=>hiall e (Array.mem_toList_iff.1 he) hbd) a hk
     have hgd:o.guard=none:=by
      have:=List.all_eq_true.1 hg o (AaP hoi');simpa using this
     have hw:Region.wanted o (yielded (toArray ops) a.tmps)=true:=by simp[Region.wanted,hgd]
     unfold wpOp
     rw[hoi]
     simp only[hw,if_true]
     left
     simp only[wpList]at h1
     rw[Aac hw]at h1
     refine ADV (h1.resolve_right fun hh=>ACA hh.2) ?_ (fun c a w hz=>hz) ACA
     rintro a' w' ⟨ds',L',hk',rfl,hJ'⟩
     have hfun:(fun k=>(listed.setIfInBounds i true).getD k false)=fun j=>beq j i||listed.getD j false:=by
      funext k;by_cases e:k=i
      . subst e;simp[hlsz]
      . rw[getD_set_ne false (AcE e)];have:beq k i=false:=by
         cases hb:beq k i with
         |false=>rfl
         |true=>exact absurd (AaU hb) e
        rw[this,Bool.false_or]
     refine ih _ a' w' L' (by simp[hsz]) ?_ hk' (by rw[hfun];exact hJ')
     have hfil:((List.range ops.length).filter fun k=>!(listed.setIfInBounds i true).getD k false)=((List.range ops.length).filter fun k=>!listed.getD k false).erase i:=by
      rw[List.Nodup.erase_eq_filter (List.Pairwise.filter _ Abn),List.filter_filter];refine AcU fun k hk=>?_;have:=congrFun hfun k;rw[this];by_cases e:k=i
      . subst e;simp
      . have:beq k i=false:=by
         cases hb:beq k i with
         |false=>rfl
         |true=>exact absurd (AaU hb) e
        simp[this,e]
     rw[hfil,List.length_erase_of_mem (List.mem_filter.2 ⟨List.mem_range.2 his,by rw[hi0];rfl⟩),hn]
     rfl
 have hz:(fun k=>(Array.replicate (toArray ops).size false).getD k false)=fun _=>false:=funext fun k=>by
  rw[AbY,Array.getElem?_replicate];split<;>rfl
 refine key _ _ a _ L0 (by simp) ?_ ha (by rw[hz];exact h0);have:((List.range ops.length).filter fun k=>!(Array.replicate (toArray ops).size false).getD k false)=List.range ops.length:=List.filter_eq_self.2 fun k _=>by simp[Array.getD]
 rw[this];simp
end
end Go.Rx
end
