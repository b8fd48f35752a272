/-
  The statement on DisputeExamples, tied: its walk and its plain law, joined in the row's frame.
  Conditions: none beyond what the statement's own row lists: the package's variables read as their initialisers lay them, which the card ties to the program's text.
-/
import Derived.Test.YtgioiejbphljoaaGreatDoorRows
import Derived.Test.YtgioiejbphljoaaGreatDoorTie
import Derived.Test.YtgioiejbphljoaaGreatDoorCards
import Derived.SevenTiedAt
import Derived.Test.YtgioiejbphljoaaGreatDoorEbDisputeExamples10
set_option linter.unusedVariables false
set_option linter.unusedSectionVars false
set_option maxRecDepth 100000
set_option maxHeartbeats 4000000
noncomputable section
namespace Go.Proofs.YtgioiejbphljoaaGreatDoor.disputeExamplesDone
open Go Go.Sx Go.Rx Go.ChangeShapes Go.WideShapes Go.ChangeAt Go.RowKit frame
theorem lifted(os:Go.Os)(started:os.Started)(H:Type)(enc:TypeId×Value->H):
  ReturnsInHanded {} Tryz.checked os 8 .any (fun w args=>(Rows.disputeExamplesSpec.pre enc Tryz.prog Tryz.f8 [] false w args/\laidMetH Tryz.prog laid3 w)/\sizedMet enc Tryz.prog Tryz.f8 (OpenSpec.ofChange Rows.disputeExamplesSpec) false w args) (Rows.disputeExamplesSpec.post enc Tryz.prog Tryz.f8 false true false false):=by
 refine returnsInHanded_of_change_and (C:=Tryz.checked) (X:=fun w _=>laidMetH Tryz.prog laid3 w) (fun _ _ _ hh h=>h.of_heap hh) own started (by kernel_rfl) Tryz.func8
  (ChangeSpec.witness_shaped (enc:=enc) (C:=Tryz.checked) (os:=os) (X:=fun w _=>laidMetH Tryz.prog laid3 w) false (World.doorLaid Tryz.prog 400 os) #[] 8 rfl (World.shaped_of_RefB (by kernel_rfl) (by kernel_rfl)) (by kernel_rfl) (by kernel_rfl) (by kernel_rfl) (AP2 os _)) ?_
 intro W base args ds gs before hval0 hW _ _ hL _
 have hval:∀(j:Nat) t v,Tryz.f8.params[j]?=some t->args[j]?=some v->Value.okWide Tryz.prog W .any base t v:=hval0
 have hW':=hW
 obtain⟨p,q,hA0,hV,rfl,hfz,hnd⟩:=hW
 have hA:DataW.TrodAll enc Tryz.prog W 0 (fun _=>true) true Tryz.f8.params.toList args.toList ds p:=hA0
 rw[Tryz.params8]at hA hval
 obtain⟨hargs,rfl,rfl⟩:=trodAll_nil hA
 obtain rfl:args=#[]:=by cases args;simp_all
 obtain⟨rfl,rfl⟩:=trodVars_none hV
 clear hA0 hval0
 refine(ok8.2 [] W () _ true (fun b hb=>by cases hb) (AR6 hL) rfl (S.AFx S.ASL)).mono fun e W' ⟨vs,he,hk,ext⟩=>?_
 obtain⟨v,rfl,hv⟩:=hk
 obtain⟨cs,hb,h9|⟨_,rfl⟩⟩:=hv
 . cases h9.1
 have hb:[v]=[Value.bool true]:=hb
 obtain rfl:v=Value.bool true:=by simpa using hb
 subst he
 have bel:=ext.below
 exact⟨_,rfl,_,_,_,[],_,[],hW',trodAll_mk1 (shut_bool Tryz.underlying4 _),trodAll_mk0,rfl,bel.frame _,fun h=>by cases h⟩
theorem row:Rows.disputeExamplesRow.holds Tryz.pinned (OpenSpec.ofChange Rows.disputeExamplesSpec):=
 OpenClaim.holds_of_wide 8 Tryz.f8 rfl rfl rfl rfl rfl rfl rfl ⟨rfl,rfl,rfl,rfl,rfl⟩ rfl rfl rfl rfl rfl (by kernel_rfl) Tryz.func8 (by kernel_rfl)
  (AX6 (by kernel_rfl)) (by unfold Func.isWrapper;first|(rw[AYB (by decide +kernel)];kernel_rfl)|(rw[if_neg (by decide +kernel)];exact⟨rfl,rfl⟩))
  (fun os started H enc _=>lifted os started H enc)
theorem proved:Rows.DisputeExamplesCardSaid:=
 Claim7.holds_tied_plain_at .later [] [.data,.funcs,.mapped] true (true, "b09e1055613b3bc78040c45907358a96209802f4aed965dab76f1e08e4888df2") false
  row (fun _ h=>by cases h) (by kernel_rfl) (fun _ h=>by cases h) disputeExamples_row_tie rfl ⟨rfl,rfl⟩ (by kernel_rfl) rfl
  (fun f fn hf hfn=>by
   obtain rfl:f=8:=AXz ((show Tryz.prog.funcNamed "goodname/goodnamelaw05.DisputeExamples" = some 8 by kernel_rfl).symm.trans hf) |>.symm;obtain rfl:fn=Tryz.f8:=(AXz (Tryz.func8.symm.trans hfn)).symm;exact⟨by kernel_rfl,fun j t ht=>by
    rw[Tryz.params8]at ht;have hm:=Array.mem_of_getElem? ht;have hall:(#[].all fun u=>!Tryz.prog.wantsStandIn u)=true:=by kernel_rfl
    have:=Array.all_eq_true_iff_forall_mem.1 hall t hm;exact(show Tryz.prog.wantsStandIn t=false by simpa using this)⟩)
  (by kernel_rfl)
end Go.Proofs.YtgioiejbphljoaaGreatDoor.disputeExamplesDone
end
